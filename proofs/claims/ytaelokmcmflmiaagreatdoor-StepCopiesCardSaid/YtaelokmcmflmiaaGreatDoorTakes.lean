/-
  Contract of Gates.Takes for a command without addresses; the command p.
-/
import Derived.Test.YtaelokmcmflmiaaGreatDoorEnd
namespace Go.Proofs.YtaelokmcmflmiaaGreatDoor
open Go.RowKit

set_option maxRecDepth 100000 in
set_option maxHeartbeats 2000000 in
/-- Takes: no address: it takes. -/
theorem Takes_none (gb : Nat) (oo : Option Addr) (n oc : Nat) (cs : List Value) (line : Int) (last : Bool) (hf : Fn) (h1 h2 : Array Value) (w : World) (hg : w.cell? ⟨gb, 0, none⟩ = some (.slice oo n oc)) (hn : 0 < n)
    (c0 : cs[0]? = some (.int .i8 0)) (c6 : cs[6]? = some (.bool false)) :
    Calls Tryz.prog 68 #[.pointer (some ⟨gb, 0, none⟩), .int .i64 0, .agg cs.toArray, .int .i64 line, .bool last, .func hf h1 h2] w fun e w' => e = .returned (.tuple #[.bool true, .bool false]) ∧ Below w.heap.size w w' := by
  have hd : decide ((n : Int) ≤ 0) = false := by simp; omega
  have hgl : gb < w.heap.size := block_lt_of_cell hg
  have hmf : ∀ (fn : Fn) (first cap : Array Value) (w : World), (Instr.makeFunc fn first cap).run Tryz.prog w = .ok (.func fn first cap) w := fun _ _ _ _ => rfl
  go_enter Tryz.func68, Tryz.ntmps68
  have l1 : gb < w.heap.size + 1 := by omega
  have l2 : gb < w.heap.size + 1 + 1 := by omega
  have l3 : gb < w.heap.size + 1 + 1 + 1 := by omega
  go_wp2
  go_ret2
  refine ⟨rfl, ?_⟩
  exact (((((Below.refl _ w).alloc (Nat.le_refl _) _).alloc (by simp) _).alloc (by simp; omega) _).alloc (by simp; omega) _)

set_option maxRecDepth 100000 in
set_option maxHeartbeats 1000000 in
/-- What p does. -/
theorem print_ok (F : Nat → Prop) (cb sp wb : Nat) (i : Int) (x closes : Value) (pat hold : Value) (most : Int) (s : WS) (A : List Int) (cn : Nat) (cx gx lx wx : List Value) (bs : List Int) (w : World)
    (h0 : w.cell? ⟨cb, 0, none⟩ = some (.pointer (some ⟨sp, 0, none⟩))) (h5 : w.cell? ⟨cb, 5, none⟩ = some (.iface 35 (.pointer (some ⟨wb, 0, none⟩)))) (hsp : Blk w sp (spaceL pat hold most) 116)
    (hpat : Sl w pat (U8 bs)) (hbig : bs.length ≤ 1000000000000) (h : WInv F w wb s A cn cx gx lx wx) (hcalm : Calm s A cn gx) (hF : ∀ k, F k → k < w.heap.size) (hcb : ¬ F cb) :
    Calls Tryz.prog 53 #[.pointer (some ⟨cb, 0, none⟩), .int .i64 i, x, closes] w (RowPost F wb s (A ++ (bs ++ [10])) cn gx lx wx w) := by
  have HSP := hid hsp
  have HP := hid hpat
  have H := hid h
  have HA := hid hcalm
  have HF := hid hF
  have HB := hid hcb
  clear hsp hpat h hcalm hF hcb
  go_enter Tryz.func53, Tryz.ntmps53
  go_wp2_with fail
  refine (Pattern_any sp pat hold most bs w HSP.out HP.out (by omega)).mono ?_
  rintro e w1 ⟨v, rfl, ⟨ao, c, rfl, n1, n2⟩, n3, n4⟩
  have N1 := hid n1
  have N2 := hid n2
  have N4 := hid n4
  have HF1 := hid (fun k hk => Nat.lt_of_lt_of_le (HF.out k hk) n4.size)
  have h5' := (n4.cell (p := ⟨cb, 5, none⟩) (block_lt_of_cell h5)).trans h5
  clear n1 n2 n3 n4
  go_wp2_with fail
  refine (row_ok F cb wb s A cn cx gx lx wx ao _ c bs w1 h5' (H.out.below N4.out) HA.out HF1.out HB.out (U8_len _) N1.out N2.out (by rw [U8_len]; exact hbig)).mono ?_
  rintro e w2 ⟨rfl, x, calls, got, all, cn', cx', gx', r1, r2, r3, r4⟩
  have R1 := hid r1
  have R4 := hid r4
  clear r1 r4
  go_wp2_with fail
  go_ret
  have s1 := N4.out.size
  exact ⟨rfl, x, calls, got, all, cn', cx', gx', R1.out.mono (fun k hk => hk.elim (fun h => .inl h) (fun h => .inr (by omega))), r2, r3, ((Keep.refl F w).new N4.out).trans R4.out (fun _ _ h => h)⟩

theorem neq_func (fn : Fn) (a b : Array Value) (w : World) : (binOp .neq 79 (.func fn a b) .nilFunc).run Tryz.prog w = .ok (.bool true) w := by kernel_rfl

/-- A load of a whole command, kept from the walk's own rules. -/
def ldCmd (v : Value) : Sem Value := Instr.loadAt 60 v
theorem exec_ldCmd (ρ : Operand → Value) (d : Option Tmp) (x : Operand) (ty : TypeId) (ps : String) (af : Array Edge) (g : Option (Nat × Bool)) (w : World) :
    Sem.run Tryz.prog (execOp ρ { dst := d, op := Op.load 60 x, type := ty, pos := ps, after := af, guard := g }) w = (Sem.run Tryz.prog (ldCmd (ρ x)) w).andThen fun v w' => .ok (.value v) w' := by
  unfold execOp ldCmd
  simp only [Sem.run_bind, Sem.run_map, Sem.run_pure]
attribute [local go_sem ↓] exec_ldCmd

/-- What is known of the program's one command, p. -/
structure CmdP (w : World) (ab : Nat) (cs : List Value) : Prop where
  range : w.rangeAt ab 0 cs
  len : cs.length = 272
  a : cs[0]? = some (.int .i8 0)
  no : cs[6]? = some (.bool false)
  name : cs[7]? = some (.int .u8 112)

def CmdPost (F : Nat → Prop) (cb wb : Nat) (cs : CS) (s : WS) (A : List Int) (cn : Nat) (gx lx wx : List Value) (w : World) (e : Ending) (w' : World) : Prop :=
  e = .returned (.int .i64 0) ∧ ∃ x calls got all cn' cx' gx', Blk w' cb ({ cs with steps := cs.steps + 1, next := 1 }.cells cb) 82 ∧
    WInv (fun i => F i ∨ (w.heap.size ≤ i ∧ i < w'.heap.size)) w' wb { s with outs := s.outs + 1, sum := x, calls := calls, got := got, all := all } A cn' cx' gx' lx wx ∧ (cn' ≤ cn + mu s ∧ gx'.length ≤ gx.length + mu s) ∧ Keep (fun i => F i ∨ i = cb) w w'

set_option maxRecDepth 100000 in
set_option maxHeartbeats 2000000 in
/-- The command p at place 0. -/
theorem command_p (F : Nat → Prop) (cb sp gb wb ab n c : Nat) (oo : Option Addr) (on oc : Nat) (cs : CS) (cmd : List Value) (pat hold : Value) (most : Int) (s : WS) (A : List Int) (cn : Nat) (cx gx lx wx : List Value) (bs : List Int) (la : Option Addr) (ll lc : Nat) (w : World)
    (hc : Blk w cb (cs.cells cb) 82) (hwb : cs.wb = wb) (hspe : cs.sp = sp) (hgbe : cs.gb = gb) (hcm : cs.cmds = .slice (some ⟨ab, 0, none⟩) n c) (hn : 0 < n) (hs0 : 0 ≤ cs.steps) (hs1 : cs.steps ≤ 1000000000000)
    (hcmd : CmdP w ab cmd) (hg : w.cell? ⟨gb, 0, none⟩ = some (.slice oo on oc)) (hon : 0 < on) (hsp : Blk w sp (spaceL pat hold most) 116) (hlines : s.lines = .slice la ll lc)
    (hpat : Sl w pat (U8 bs)) (hbig : bs.length ≤ 1000000000000) (h : WInv F w wb s A cn cx gx lx wx) (hcalm : Calm s A cn gx) (hF : ∀ k, F k → k < w.heap.size) (hcb : ¬ F cb) (hac : ab ≠ cb) (hgc : gb ≠ cb) (hpc : ∀ k, pat.ownBlock = some k → k ≠ cb) (hab : ¬ F ab) :
    Calls Tryz.prog 27 #[.pointer (some ⟨cb, 0, none⟩), .int .i64 0] w (CmdPost F cb wb cs s (A ++ (bs ++ [10])) cn gx lx wx w) := by
  have HC := hid hc
  have HW := hid hwb
  have HS := hid hspe
  have HG := hid hgbe
  have HCM := hid hcm
  have HD := hid hcmd
  have HGG := hid hg
  have HSP := hid hsp
  have HL := hid hlines
  have HP := hid hpat
  have H := hid h
  have HA := hid hcalm
  have HF := hid hF
  have HB := hid hcb
  have c11 := Core.steps hc
  have f0 := hc.free
  have lc0 := hc.lt
  have lc1 : cb < w.heap.size + 1 := by omega
  clear hc hwb hspe hgbe hcm hcmd hg hsp hlines hpat h hcalm hF hcb
  go_enter Tryz.func27, Tryz.ntmps27
  go_wp2_with fail
  have C1 := hid (((Core.setSteps HC.out (cs.steps + 1)).alloc (.cells #[.pointer (some ⟨cb, 0, none⟩)] 71)).alloc (.cells #[.int .i64 0] 3))
  have BA : Hid (Blk (((w.setCell ⟨cb, 269, none⟩ (.int .i64 (cs.steps + 1))).alloc (.cells #[.pointer (some ⟨cb, 0, none⟩)] 71)).alloc (.cells #[.int .i64 0] 3)) w.heap.size [.pointer (some ⟨cb, 0, none⟩)] 71) := by
    have h := (Blk.new (w.setCell ⟨cb, 269, none⟩ (.int .i64 (cs.steps + 1))) [.pointer (some ⟨cb, 0, none⟩)] 71).alloc (.cells #[.int .i64 0] 3)
    simpa [Hid] using h
  have BB : Hid (Blk (((w.setCell ⟨cb, 269, none⟩ (.int .i64 (cs.steps + 1))).alloc (.cells #[.pointer (some ⟨cb, 0, none⟩)] 71)).alloc (.cells #[.int .i64 0] 3)) (w.heap.size + 1) [.int .i64 0] 3) := by
    have h := Blk.new ((w.setCell ⟨cb, 269, none⟩ (.int .i64 (cs.steps + 1))).alloc (.cells #[.pointer (some ⟨cb, 0, none⟩)] 71)) [.int .i64 0] 3
    simpa [Hid] using h
  have K1 := hid (((Keep.one w cb 269 (.int .i64 (cs.steps + 1))).alloc (.cells #[.pointer (some ⟨cb, 0, none⟩)] 71)).alloc (.cells #[.int .i64 0] 3))
  obtain ⟨m, hm⟩ : ∃ m, m = w.heap.size := ⟨_, rfl⟩
  have z1 : (((w.setCell ⟨cb, 269, none⟩ (.int .i64 (cs.steps + 1))).alloc (.cells #[.pointer (some ⟨cb, 0, none⟩)] 71)).alloc (.cells #[.int .i64 0] 3)).heap.size = m + 2 := by simp [hm]
  generalize ((w.setCell ⟨cb, 269, none⟩ (.int .i64 (cs.steps + 1))).alloc (.cells #[.pointer (some ⟨cb, 0, none⟩)] 71)).alloc (.cells #[.int .i64 0] 3) = w1 at *
  rw [← hm] at BA BB lc0 lc1 ⊢
  have HM := hid hm
  have Z1 := hid z1
  have d2 := BA.out.cell 0 rfl
  have d3 := BB.out.cell 0 rfl
  have d1 : w1.cell? ⟨cb, 1, none⟩ = some (.slice (some ⟨ab, 0, none⟩) n c) := by have h := Core.cmds C1.out; rw [← HCM.out]; exact h
  have y1 : w1.heap.size ≠ m := by omega
  have y2 : w1.heap.size ≠ m + 1 := by omega
  have y3 : w1.heap.size ≠ cb := by omega
  have n0 : (0 : Int) < (n : Int) := by omega
  clear c11 f0 hm z1
  go_region_held3 (fun w' => w'.cell? ⟨m, 0, none⟩ = some (.pointer (some ⟨cb, 0, none⟩)) ∧ w'.cell? ⟨m + 1, 0, none⟩ = some (.int .i64 0) ∧ w'.cell? ⟨cb, 1, none⟩ = some (.slice (some ⟨ab, 0, none⟩) n c))
    (go_keep)
    (first | fail)
  have BJ := hid (Blk.new w1 [.pointer (some ⟨ab, 0, none⟩)] 135)
  have C2 := hid ((C1.out.alloc (.cells #[.pointer (some ⟨ab, 0, none⟩)] 135)).drew)
  have BA2 := hid ((BA.out.alloc (.cells #[.pointer (some ⟨ab, 0, none⟩)] 135)).drew)
  have BB2 := hid ((BB.out.alloc (.cells #[.pointer (some ⟨ab, 0, none⟩)] 135)).drew)
  have K2 := hid ((K1.out.alloc (.cells #[.pointer (some ⟨ab, 0, none⟩)] 135)).drew)
  have BJ2 : Hid (Blk (w1.alloc (.cells #[.pointer (some ⟨ab, 0, none⟩)] 135)).drew w1.heap.size [.pointer (some ⟨ab, 0, none⟩)] 135) := BJ.out.drew
  have Z2 : Hid ((w1.alloc (.cells #[.pointer (some ⟨ab, 0, none⟩)] 135)).drew.heap.size = m + 3) := by
    show _ = _
    simp [Z1.out]
  clear BJ BA BB K1 C1 d1 d2 d3 y1 y2 y3
  rw [Z1.out] at BJ2 ⊢
  clear Z1
  generalize (w1.alloc (.cells #[.pointer (some ⟨ab, 0, none⟩)] 135)).drew = w2 at *
  have d2 := BA2.out.cell 0 rfl
  have d3 := BB2.out.cell 0 rfl
  have d5 := BJ2.out.cell 0 rfl
  have e9 : w2.cell? ⟨cb, 9, none⟩ = some (.pointer (some ⟨gb, 0, none⟩)) := by have h := Core.gb C2.out; rw [← HG.out]; exact h
  have e5 : w2.cell? ⟨cb, 5, none⟩ = some (.iface 35 (.pointer (some ⟨wb, 0, none⟩))) := by have h := Core.wb C2.out; rw [← HW.out]; exact h
  have hmf : ∀ (fn : Fn) (first cap : Array Value) (w : World), (Instr.makeFunc fn first cap).run Tryz.prog w = .ok (.func fn first cap) w := fun _ _ _ _ => rfl
  have er : w2.rangeAt ab 0 cmd := fun j v hv => by
    have h1 := HD.out.range j v hv
    rw [World.cell?_of_block (w := w) (K2.out.block ab (block_lt_of_cell h1) (fun e => hac e))]
    exact h1
  have hg2 : w2.cell? ⟨gb, 0, none⟩ = some (.slice oo on oc) := (World.cell?_of_block (w := w) (K2.out.block gb (block_lt_of_cell HGG.out) (fun e => hgc e))).trans HGG.out
  have IW := hid (H.out.keep K2.out (fun k hk e => HB.out (e ▸ hk)))
  have m1 := meth_Line
  have m2 := meth_Last
  have hld : ∀ w' : World, w'.rangeAt ab 0 cmd → (ldCmd (.pointer (some ⟨ab, 0, none⟩))).run Tryz.prog w' = .ok (.agg cmd.toArray) w' := fun w' hw' =>
    run_loadAt_mid w' ab 0 60 cmd _ hw' Tryz.underlying60 rfl (by rw [HD.out.len]; kernel_rfl)
  go_wp2_with fail
  go_region_held3 (fun w' => w'.cell? ⟨m, 0, none⟩ = some (.pointer (some ⟨cb, 0, none⟩)) ∧ w'.cell? ⟨m + 1, 0, none⟩ = some (.int .i64 0) ∧ w'.cell? ⟨m + 2, 0, none⟩ = some (.pointer (some ⟨ab, 0, none⟩)) ∧ w'.cell? ⟨cb, 9, none⟩ = some (.pointer (some ⟨gb, 0, none⟩)) ∧
      w'.cell? ⟨cb, 5, none⟩ = some (.iface 35 (.pointer (some ⟨wb, 0, none⟩))) ∧ w'.rangeAt ab 0 cmd)
    (first | exact ⟨d2, d3, d5, e9, e5, er⟩ | exact ⟨t2, t3, t5, t9, t6, tr⟩)
    (first
      | (go_at_call 215; go_must (refine (LineNo_any _ (IW.out.drewN 1)).mono ?_); rintro e w' ⟨rfl, rfl⟩)
      | (go_at_call 214; go_must (refine (Last_any _ (IW.out.drewN 1) la ll lc HL.out).mono ?_); rintro e w' ⟨rfl, q, rfl⟩)
      | (go_at_call 68; go_must (refine (Takes_none gb oo on oc cmd _ _ _ _ _ (w2.drewN (1 + q)) hg2 hon HD.out.a HD.out.no).mono ?_); rintro e w5 ⟨rfl, hb5⟩; have B5 := hid hb5; have t2 := (hb5.cell (p := ⟨m, 0, none⟩) (by simp [Z2.out])).trans d2; have t3 := (hb5.cell (p := ⟨m + 1, 0, none⟩) (by simp [Z2.out])).trans d3; have t5 := (hb5.cell (p := ⟨m + 2, 0, none⟩) (by simp [Z2.out])).trans d5; have t9 := (hb5.cell (p := ⟨cb, 9, none⟩) (block_lt_of_cell e9)).trans e9; have t6 := (hb5.cell (p := ⟨cb, 5, none⟩) (block_lt_of_cell e5)).trans e5; have tr : w5.rangeAt ab 0 cmd := fun j v hv => (hb5.cell (p := ⟨ab, 0 + j, none⟩) (block_lt_of_cell (er j v hv))).trans (er j v hv); clear hb5))
  have BW : Hid (Below w2.heap.size w2 w5) := (below_drewN (Below.refl _ w2) (1 + q)).trans B5.out
  have C5 := hid (C2.out.below BW.out C2.out.lt)
  have IW5 := hid (IW.out.below BW.out)
  have K5 := hid (K2.out.new BW.out)
  have hsc : sp ≠ cb := fun e => absurd (Blk.inj HSP.out (by rw [e]; exact HC.out)).2 (by decide)
  have S5 := hid ((HSP.out.keep K2.out (fun e => hsc e)).below BW.out (by have := K2.out.size; have := HSP.out.lt; omega))
  have P5 := hid ((HP.out.keep (F := fun k => k = cb) K2.out hpc).below (by have h := BW.out; exact h))
  have z5 := BW.out.size
  have q10 := Core.next C5.out
  have f5 := C5.out.free
  clear d2 d3 d5 e9 e5 er hld m1 m2 hg2 t9 B5 IW K2 C2 BA2 BB2 BJ2 hmf BW
  go_wp2_with fail
  have C6 := hid (Core.setNext C5.out 1)
  have IW6 := hid (IW5.out.keep (Keep.one w5 cb 268 (.int .i64 1)) (fun k hk e => HB.out (e ▸ hk)))
  have K6 := hid (K5.out.trans (Keep.one w5 cb 268 (.int .i64 1)) (fun _ _ h => h))
  have P6 := hid (P5.out.keep (Keep.one w5 cb 268 (.int .i64 1)) hpc)
  have S6 := hid (S5.out.setO (a := ⟨cb, 268, none⟩) hsc (.int .i64 1))
  have u2 : (w5.setCell ⟨cb, 268, none⟩ (.int .i64 1)).cell? ⟨m, 0, none⟩ = some (.pointer (some ⟨cb, 0, none⟩)) := by rw [World.cell?_setCell_far _ _ _ _ (by simp; omega)]; exact t2
  have u3 : (w5.setCell ⟨cb, 268, none⟩ (.int .i64 1)).cell? ⟨m + 1, 0, none⟩ = some (.int .i64 0) := by rw [World.cell?_setCell_far _ _ _ _ (by simp; omega)]; exact t3
  have u5 : (w5.setCell ⟨cb, 268, none⟩ (.int .i64 1)).cell? ⟨m + 2, 0, none⟩ = some (.pointer (some ⟨ab, 0, none⟩)) := by rw [World.cell?_setCell_far _ _ _ _ (by simp; omega)]; exact t5
  have u7 : (w5.setCell ⟨cb, 268, none⟩ (.int .i64 1)).cell? ⟨ab, 7, none⟩ = some (.int .u8 112) := by
    rw [World.cell?_setCell_far _ _ _ _ (by simp; exact fun e => hac e.symm)]
    have h := tr 7 _ HD.out.name
    simpa using h
  have u0 : (w5.setCell ⟨cb, 268, none⟩ (.int .i64 1)).cell? ⟨cb, 0, none⟩ = some (.pointer (some ⟨sp, 0, none⟩)) := by have h := Core.sp C6.out; rw [← HS.out]; exact h
  have u6 : (w5.setCell ⟨cb, 268, none⟩ (.int .i64 1)).cell? ⟨cb, 5, none⟩ = some (.iface 35 (.pointer (some ⟨wb, 0, none⟩))) := by have h := Core.wb C6.out; rw [← HW.out]; exact h
  have u8 : (w5.setCell ⟨cb, 268, none⟩ (.int .i64 1)).cell? ⟨cb, 122, none⟩ = some (.func (.func 53) #[.pointer (some ⟨cb, 0, none⟩)] #[]) := Core.does C6.out 112 (by decide)
  have z6 : (w5.setCell ⟨cb, 268, none⟩ (.int .i64 1)).heap.size = w5.heap.size := by simp
  generalize w5.setCell ⟨cb, 268, none⟩ (.int .i64 1) = w6 at *
  clear t2 t3 t5 t6 tr q10 f5 C5 K5 IW5 S5
  have Z6 := hid z6
  clear z6
  have qf := neq_func
  have HF6 : Hid (∀ k, F k → k < w6.heap.size) := fun k hk => by have := HF.out k hk; have := Z6.out; have := Z2.out; have := HM.out; omega
  have nf : ∀ j, ¬ F (m + j) := fun j hj => by have := HF.out _ hj; have := HM.out; omega
  have NF := hid nf
  clear nf
  go_quiet (fail)
  go_wp2_with fail
  go_region_held3 (fun w' => w'.cell? ⟨m, 0, none⟩ = some (.pointer (some ⟨cb, 0, none⟩)) ∧ w'.cell? ⟨m + 1, 0, none⟩ = some (.int .i64 0) ∧ w'.cell? ⟨m + 2, 0, none⟩ = some (.pointer (some ⟨ab, 0, none⟩)) ∧ w'.cell? ⟨ab, 7, none⟩ = some (.int .u8 112) ∧
      w'.cell? ⟨cb, 122, none⟩ = some (.func (.func 53) #[.pointer (some ⟨cb, 0, none⟩)] #[]))
    (first | exact ⟨u2, u3, u5, u7, u8⟩ | exact ⟨v2, v3, v5, v7, v8⟩)
    (first
      | (go_at_call 53; go_must (refine (print_ok F cb sp wb 0 _ _ pat hold most s A cn cx gx lx wx bs (w6.drewN (nq + 1)) u0 u6 S6.out P6.out hbig (IW6.out.drewN _) HA.out HF6.out HB.out).mono ?_); rintro e w7 ⟨rfl, x, calls, got, all, cn', cx', gx', r1, r2, r3, r4⟩; have v2 := (World.cell?_of_block (w := w6.drewN (nq + 1)) (r4.block m (block_lt_of_cell u2) (NF.out 0))).trans u2; have v3 := (World.cell?_of_block (w := w6.drewN (nq + 1)) (r4.block (m + 1) (block_lt_of_cell u3) (NF.out 1))).trans u3; have v5 := (World.cell?_of_block (w := w6.drewN (nq + 1)) (r4.block (m + 2) (block_lt_of_cell u5) (NF.out 2))).trans u5; have v7 := (World.cell?_of_block (w := w6.drewN (nq + 1)) (r4.block ab (block_lt_of_cell u7) hab)).trans u7; have v8 := (World.cell?_of_block (w := w6.drewN (nq + 1)) (r4.block cb (block_lt_of_cell u8) HB.out)).trans u8))
  have R1 := hid r1
  have R4 := hid r4
  have R2 := hid r2
  have R3 := hid r3
  clear r1 r4 v2 v3 v5 v7 v8 u2 u3 u5 u7 u8 u0 u6 qf
  go_wp2
  go_ret
  have sz6 : w.heap.size ≤ w6.heap.size := by have := Z6.out; have := Z2.out; have := HM.out; omega
  refine ⟨rfl, x, calls, got, all, cn', cx', gx', (C6.out.drewN (nq + 1)).keep R4.out HB.out, ?_, ⟨R2.out, R3.out⟩, ?_⟩
  · refine R1.out.tight.mono (fun k hk => hk.1.elim (fun h => .inl h) (fun h => .inr ⟨?_, hk.2⟩))
    have h' : w6.heap.size ≤ k := h
    omega
  · exact (((K6.out.drewN (nq + 1)).mono (G := fun i => F i ∨ i = cb) (fun i _ h => .inr h))).trans R4.out (fun i _ h => .inl h)

end Go.Proofs.YtaelokmcmflmiaaGreatDoor
