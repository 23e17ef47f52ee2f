/-
  The program of one command p: is it shaped, and what Resolve makes of it.
-/
import Derived.Test.YtaelokmcmflmiaaGreatDoorRunB
import Derived.Test.YtaelokmcmflmiaaGreatDoorShelf
namespace Go.Proofs.YtaelokmcmflmiaaGreatDoor
open Go.RowKit

def nilS : Value := .slice none 0 0
/-- The cells of the command p, of an empty Fill. -/
structure CmdZ (cmd : List Value) : Prop where
  len : cmd.length = 272
  c0 : cmd[0]? = some (.int .i8 0)
  c1 : cmd[1]? = some (.int .i64 0)
  c2 : cmd[2]? = some (.slice none 0 0)
  c3 : cmd[3]? = some (.int .i8 0)
  c4 : cmd[4]? = some (.int .i64 0)
  c5 : cmd[5]? = some (.slice none 0 0)
  c6 : cmd[6]? = some (.bool false)
  c7 : cmd[7]? = some (.int .u8 112)
  c8 : cmd[8]? = some (.int .i64 0)
  c9 : cmd[9]? = some (.slice none 0 0)
  c10 : cmd[10]? = some (.slice none 0 0)
  c11 : ∃ ao c, cmd[11]? = some (.slice ao 0 c)
  c12 : cmd[12]? = some (.int .i64 0)
  c13 : cmd[13]? = some (.bool false)
  c14 : cmd[14]? = some (.bool false)
  c15 : cmd[15]? = some (.bool false)
  map : cmd.drop 16 = List.replicate 256 (.int .u8 0)
  one : ∀ v ∈ cmd, v.oneCell' = true

set_option maxHeartbeats 800000 in
theorem Most_p (w : World) : Calls Tryz.prog 69 #[.int .u8 112] w fun e w' => e = .returned (.int .i64 2) ∧ Below w.heap.size w w' := by
  have i1 : (Lib.indexByte (ByteArray.mk #[125, 58]).data.toList (112 : Int).toNat.toUInt8 : Int) = -1 := by kernel_rfl
  have i2 : (Lib.indexByte (ByteArray.mk #[61, 97, 105, 113, 114]).data.toList (112 : Int).toNat.toUInt8 : Int) = -1 := by kernel_rfl
  have i3 : (Lib.indexByte (ByteArray.mk #[123, 98, 99, 100, 68, 103, 71, 104, 72, 108, 110, 78, 112, 80, 115, 116, 119, 120, 121]).data.toList (112 : Int).toNat.toUInt8 : Int) = 12 := by kernel_rfl
  go_enter Tryz.func69, Tryz.ntmps69
  go_wp2_with fail
  refine (Tryz.strings_IndexByte _ _ w).mono ?_
  rintro e w' ⟨rfl, rfl⟩
  rw [i1]
  go_wp2_with fail
  refine (Tryz.strings_IndexByte _ _ _).mono ?_
  rintro e w' ⟨rfl, rfl⟩
  rw [i2]
  go_wp2_with fail
  refine (Tryz.strings_IndexByte _ _ _).mono ?_
  rintro e w' ⟨rfl, rfl⟩
  rw [i3]
  go_wp2_with fail
  go_ret
  exact ⟨rfl, Below.refl _ _⟩

set_option maxHeartbeats 800000 in
theorem right_zero (w : World) : Calls Tryz.prog 70 #[.agg #[.int .i8 0, .int .i64 0, .slice none 0 0]] w fun e w' => e = .returned (.bool true) ∧ Below w.heap.size w w' := by
  go_enter Tryz.func70, Tryz.ntmps70
  go_wp2_with fail
  go_ret
  exact ⟨rfl, (Below.refl _ w).alloc (Nat.le_refl _) _⟩

set_option maxHeartbeats 800000 in
theorem said_p (cmd : List Value) (h : CmdZ cmd) (w : World) : Calls Tryz.prog 71 #[.agg cmd.toArray] w fun e w' => e = .returned (.bool true) ∧ Below w.heap.size w w' := by
  have c7 := h.c7
  have c9 := h.c9
  go_enter Tryz.func71, Tryz.ntmps71
  go_wp2_with fail
  go_ret
  exact ⟨rfl, (Below.refl _ w).alloc (Nat.le_refl _) _⟩

set_option maxHeartbeats 800000 in
theorem writes_p (cmd : List Value) (h : CmdZ cmd) (w : World) : Calls Tryz.prog 34 #[.agg cmd.toArray] w fun e w' => e = .returned (.bool false) ∧ Below w.heap.size w w' := by
  have c7 := h.c7
  have c9 := h.c9
  go_enter Tryz.func34, Tryz.ntmps34
  go_wp2_with fail
  go_ret
  exact ⟨rfl, (Below.refl _ w).alloc (Nat.le_refl _) _⟩

attribute [local go_sem ↓] exec_ldCmd
/-- A load of a table, kept from the walk's own rules. -/
def ldTab (v : Value) : Sem Value := Instr.loadAt 58 v
theorem exec_ldTab (ρ : Operand → Value) (d : Option Tmp) (x : Operand) (ty : TypeId) (ps : String) (af : Array Edge) (g : Option (Nat × Bool)) (w : World) :
    Sem.run Tryz.prog (execOp ρ { dst := d, op := Op.load 58 x, type := ty, pos := ps, after := af, guard := g }) w = (Sem.run Tryz.prog (ldTab (ρ x)) w).andThen fun v w' => .ok (.value v) w' := by
  unfold execOp ldTab
  simp only [Sem.run_bind, Sem.run_map, Sem.run_pure]
attribute [local go_sem ↓] exec_ldTab
def zeroTab : Value := .agg (List.replicate 256 (Value.int .u8 0)).toArray
def neqTab (x y : Operand) (a b : Value) : Sem Value := do eqGuard BinOp.neq 58 x y a b; binOp .neq 58 a b
theorem exec_buildTab (ρ : Operand → Value) (d : Option Tmp) (ty : TypeId) (ps : String) (af : Array Edge) (g : Option (Nat × Bool)) (w : World) :
    Sem.run Tryz.prog (execOp ρ { dst := d, op := Op.build 58 #[], type := ty, pos := ps, after := af, guard := g }) w = .ok (.value zeroTab) w := by kernel_rfl
theorem exec_neqTab (ρ : Operand → Value) (d : Option Tmp) (x y : Operand) (ty : TypeId) (ps : String) (af : Array Edge) (g : Option (Nat × Bool)) (w : World) :
    Sem.run Tryz.prog (execOp ρ { dst := d, op := Op.binOp BinOp.neq 58 x y 58, type := ty, pos := ps, after := af, guard := g }) w = (Sem.run Tryz.prog (neqTab x y (ρ x) (ρ y)) w).andThen fun v w' => .ok (.value v) w' := by
  unfold execOp neqTab
  simp only [Sem.run_bind, Sem.run_map, Sem.run_pure]
attribute [local go_sem ↓] exec_buildTab
attribute [local go_sem ↓] exec_neqTab
theorem neq_zeroTab (i j : Tmp) (w : World) : (neqTab (.tmp i) (.tmp j) zeroTab zeroTab).run Tryz.prog w = .ok (.bool false) w := by kernel_rfl

theorem results_cell {fn : Func} {t : Tmp} {ty : TypeId} (h : fn.results = #[.cell t ty]) (tmps : Array Value) (P : Program) (w : World) (b : Nat) (v : Value)
    (ht : tmps.getD t undef = .pointer (some ⟨b, 0, none⟩)) (hl : (loadVar ty ⟨b, 0, none⟩).run P w = .ok v w) : (results fn tmps).run P w = .ok v w := by
  have ht' := ht
  simp only [Array.getD_eq_getD_getElem?] at ht'
  simp [results, h, ht', asAddr, hl]
theorem results_cell3 {fn : Func} {t u x : Tmp} {ty : TypeId} (h : fn.results = #[.cell t ty, .tmp u, .tmp x]) (tmps : Array Value) (P : Program) (w : World) (b : Nat) (v : Value)
    (ht : tmps.getD t undef = .pointer (some ⟨b, 0, none⟩)) (hl : (loadVar ty ⟨b, 0, none⟩).run P w = .ok v w) : (results fn tmps).run P w = .ok (.tuple #[v, tmps.getD u undef, tmps.getD x undef]) w := by
  have ht' := ht
  simp only [Array.getD_eq_getD_getElem?] at ht'
  simp [results, h, ht', asAddr, hl]
/-- A store of a whole command, kept from the walk's own rules. -/
def stCmd (a v : Value) : Sem Unit := Instr.storeAt 60 a v
theorem exec_stCmd (ρ : Operand → Value) (d : Option Tmp) (x y : Operand) (ty : TypeId) (ps : String) (af : Array Edge) (g : Option (Nat × Bool)) (w : World) :
    Sem.run Tryz.prog (execOp ρ { dst := d, op := Op.store 60 x y, type := ty, pos := ps, after := af, guard := g }) w = (Sem.run Tryz.prog (stCmd (ρ x) (ρ y)) w).andThen fun _ w' => .ok .skip w' := by
  unfold execOp stCmd
  simp only [Sem.run_bind, Sem.run_map, Sem.run_pure]
theorem Blk.sets {b : Nat} {t : TypeId} : ∀ (vs : List Value) (o : Nat) (l : List Value) (w : World), Blk w b l t → o + vs.length ≤ l.length → Blk (w.setCells b o vs) b (l.take o ++ vs ++ l.drop (o + vs.length)) t
  | [], o, l, w, h, _ => by simpa [World.setCells] using h
  | v :: r, o, l, w, h, hl => by
    have h1 := Blk.sets r (o + 1) (l.set o v) _ (h.set o v) (by simp at hl ⊢; omega)
    rw [World.setCells]
    have e : (l.set o v).take (o + 1) ++ r ++ (l.set o v).drop (o + 1 + r.length) = l.take o ++ (v :: r) ++ l.drop (o + (v :: r).length) := by
      have ho : o < l.length := by simp at hl; omega
      rw [List.take_succ_eq_append_getElem (by simpa using ho), List.drop_set_of_lt (by omega), List.getElem_set_self, List.take_set_of_le (Nat.le_refl _)]
      simp [Nat.add_assoc, Nat.add_comm 1]
    rw [e] at h1
    exact h1
theorem Keep.sets {b : Nat} : ∀ (vs : List Value) (o : Nat) (w : World), Keep (· = b) w (w.setCells b o vs)
  | [], _, w => Keep.refl _ w
  | v :: r, o, w => by
    rw [World.setCells]
    exact (Keep.one w b o v).trans (Keep.sets r (o + 1) _) (fun _ _ h => h)
theorem run_stCmd {w : World} {b : Nat} {l cmd : List Value} (h : Blk w b l 60) (hl : l.length = 272) (hc : CmdZ cmd) :
    (stCmd (.pointer (some ⟨b, 0, none⟩)) (.agg cmd.toArray)).run Tryz.prog w = .ok () (w.setCells b 0 cmd) ∧ Blk (w.setCells b 0 cmd) b cmd 60 := by
  refine ⟨?_, ?_⟩
  · refine run_storeAt_mid w b 0 60 cmd.toArray (fun j hj => ?_) (by rw [show cmd.toArray.size = 272 from by simpa using hc.len]; kernel_rfl) (all_oneCell_toArray hc.one)
    simp [hc.len] at hj
    have hj' : j < l.length := by omega
    exact ⟨by rw [Nat.zero_add, h.cell j (List.getElem?_eq_getElem hj')]; rfl, h.free _⟩
  · have := Blk.sets cmd 0 l w h (by rw [hl, hc.len]; decide)
    simpa [hl, hc.len, List.drop_eq_nil_of_le] using this

theorem bel2 {w1 w2 : World} {x y : Obj} (b : Below ((w1.alloc x).alloc y).heap.size ((w1.alloc x).alloc y) w2) : Below w1.heap.size w1 w2 :=
  ((Below.refl _ _).alloc (Nat.le_refl _) x |>.alloc (by simp) y).trans (b.mono (by simp; omega))
theorem bel1 {w1 w2 : World} {x : Obj} (b : Below (w1.alloc x).heap.size (w1.alloc x) w2) : Below w1.heap.size w1 w2 :=
  ((Below.refl _ _).alloc (Nat.le_refl _) x).trans (b.mono (by simp))
set_option maxRecDepth 100000 in
set_option maxHeartbeats 2000000 in
theorem Shaped_p (cmd : List Value) (h : CmdZ cmd) (w : World) : Calls Tryz.prog 33 #[.agg cmd.toArray] w fun e w' => e = .returned (.bool true) ∧ Below w.heap.size w w' := by
  have H := hid h
  have c0 := h.c0
  have c1 := h.c1
  have c2 := h.c2
  have c3 := h.c3
  have c4 := h.c4
  have c5 := h.c5
  have c6 := h.c6
  have c7 := h.c7
  have c8 := h.c8
  obtain ⟨fo, fc, c11⟩ := h.c11
  have c10 := h.c10
  have c12 := h.c12
  have c13 := h.c13
  have c14 := h.c14
  have c15 := h.c15
  clear h
  go_enter Tryz.func33, Tryz.ntmps33
  go_wp2_with fail
  refine (Most_p _).mono ?_
  rintro e w1 ⟨rfl, b1⟩
  have hz1 : w.heap.size < w1.heap.size := by have := b1.size; simp at this; omega
  have d : Hid (∀ k, w1.cell? ⟨w.heap.size, k, none⟩ = cmd[k]?) := hid (fun k => (b1.cell (by simp)).trans (by simp))
  have B1 : Hid (Below w.heap.size w w1) := hid (((Below.refl _ w).alloc (Nat.le_refl _) _).trans (b1.mono (by simp)))
  have e0 := (d.out 0).trans c0
  have e1 := (d.out 1).trans c1
  have e2 := (d.out 2).trans c2
  have e3 := (d.out 3).trans c3
  have e4 := (d.out 4).trans c4
  have e5 := (d.out 5).trans c5
  clear b1 c0 c1 c2 c3 c4 c5
  go_wp2_with fail
  refine wp_loop_rounds 3 ?_
  rw [rounds_succ]
  go_wp2_with fail
  refine (right_zero _).mono ?_
  rintro e w2 ⟨rfl, b2⟩
  have g3 : w2.cell? ⟨w1.heap.size, 3, none⟩ = some (.int .i8 0) := (b2.cell (by simp; omega)).trans (by simp)
  have g4 : w2.cell? ⟨w1.heap.size, 4, none⟩ = some (.int .i64 0) := (b2.cell (by simp; omega)).trans (by simp)
  have g5 : w2.cell? ⟨w1.heap.size, 5, none⟩ = some (.slice none 0 0) := (b2.cell (by simp; omega)).trans (by simp)
  have g6 : w2.cell? ⟨w1.heap.size + 1, 0, none⟩ = some (.int .i8 0) := (b2.cell (by simp)).trans (by simp)
  have B2 := hid (bel2 b2)
  clear b2
  go_wp2_with fail
  rw [rounds_succ]
  go_wp2_with fail
  refine (right_zero _).mono ?_
  rintro e w3 ⟨rfl, b3⟩
  have g7 : w3.cell? ⟨w2.heap.size, 0, none⟩ = some (.int .i8 0) := (b3.cell (by simp)).trans (by simp)
  have B3 := hid (bel1 b3)
  have z2 := B2.out.size
  have z3 := B3.out.size
  have D3 : Hid (∀ k, w3.cell? ⟨w.heap.size, k, none⟩ = cmd[k]?) := hid (fun k => (B3.out.cell (p := ⟨w.heap.size, k, none⟩) (by simp; omega)).trans ((B2.out.cell (p := ⟨w.heap.size, k, none⟩) (by simp; omega)).trans (d.out k)))
  have BB := hid (B1.out.trans ((B2.out.trans (B3.out.mono z2)).mono (by omega)))
  clear b3 g3 g4 g5 g6 e0 e1 e2 e3 e4 e5 d B1 B2 B3
  go_wp2_with fail
  rw [rounds_succ]
  have e0 := (D3.out 0).trans H.out.c0
  have e6 := (D3.out 6).trans c6
  have e7 := (D3.out 7).trans c7
  have e8 := (D3.out 8).trans c8
  have e10 := (D3.out 10).trans c10
  have e11 := (D3.out 11).trans c11
  have e12 := (D3.out 12).trans c12
  have e13 := (D3.out 13).trans c13
  have e14 := (D3.out 14).trans c14
  have e15 := (D3.out 15).trans c15
  clear c6 c7 c8 c10 c11 c12 c13 c14 c15
  have rg : w3.rangeAt w.heap.size 0 cmd := fun j v hv => by rw [Nat.zero_add, D3.out j]; exact hv
  have ld1 : (ldCmd (.pointer (some ⟨w.heap.size, 0, none⟩))).run Tryz.prog w3 = .ok (.agg cmd.toArray) w3 :=
    run_loadAt_mid w3 w.heap.size 0 60 cmd _ rg Tryz.underlying60 rfl (by rw [H.out.len]; kernel_rfl)
  clear rg
  go_wp2_with fail
  refine (said_p cmd H.out _).mono ?_
  rintro e w4 ⟨rfl, b4⟩
  have z4 := b4.size
  have D4 : Hid (∀ k, w4.cell? ⟨w.heap.size, k, none⟩ = cmd[k]?) := hid (fun k => (b4.cell (p := ⟨w.heap.size, k, none⟩) (by simp; omega)).trans (D3.out k))
  have BB4 := hid (BB.out.trans (b4.mono (by omega)))
  clear b4 e0 e6 e7 e8 e10 e11 e12 e13 e14 e15 g7 ld1 D3 BB
  have e7 := (D4.out 7).trans H.out.c7
  obtain ⟨fo', fc', c11'⟩ := H.out.c11
  have e10 := (D4.out 10).trans H.out.c10
  have e11 := (D4.out 11).trans c11'
  have e12 := (D4.out 12).trans H.out.c12
  have e13 := (D4.out 13).trans H.out.c13
  have e14 := (D4.out 14).trans H.out.c14
  have e15 := (D4.out 15).trans H.out.c15
  have rt : w4.rangeAt w.heap.size 16 (List.replicate 256 (.int .u8 0)) := fun j v hv => by rw [D4.out, ← hv, ← H.out.map, List.getElem?_drop]
  have ld2 : (ldTab (.pointer (some ⟨w.heap.size, 16, none⟩))).run Tryz.prog w4 = .ok zeroTab w4 :=
    run_loadAt_mid w4 w.heap.size 16 58 _ _ rt Tryz.underlying58 rfl (by kernel_rfl)
  clear rt c11'
  have nz := neq_zeroTab 66 67 w4
  go_wp2_with fail
  go_ret
  exact ⟨rfl, BB4.out⟩

end Go.Proofs.YtaelokmcmflmiaaGreatDoor
