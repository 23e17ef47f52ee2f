/-
  core.table: what each name does.
-/
import Derived.Test.YtaelokmcmflmiaaGreatDoorGood
import Derived.Laws.EntriesVeiled
import Derived.Lib.SlBytesConst
namespace Go.Proofs.YtaelokmcmflmiaaGreatDoor
open Go.RowKit

/-- A store of a doer, kept from the walk's own rules. -/
def stDoer (a v : Value) : Sem Unit := Instr.storeAt 79 a v
theorem exec_stDoer (ρ : Operand → Value) (d : Option Tmp) (x y : Operand) (ty : TypeId) (ps : String) (af : Array Edge) (g : Option (Nat × Bool)) (w : World) :
    Sem.run Tryz.prog (execOp ρ { dst := d, op := Op.store 79 x y, type := ty, pos := ps, after := af, guard := g }) w = (Sem.run Tryz.prog (stDoer (ρ x) (ρ y)) w).andThen fun _ w' => .ok .skip w' := by
  unfold execOp stDoer
  simp only [Sem.run_bind, Sem.run_map, Sem.run_pure]
attribute [local go_sem ↓] exec_stDoer

theorem run_stDoer {w : World} {b : Nat} {l : List Value} {t : TypeId} (h : Blk w b l t) (i : Nat) (hi : i < l.length) (fn : Fn) (x y : Array Value) :
    (stDoer (.pointer (some ⟨b, i, none⟩)) (.func fn x y)).run Tryz.prog w = .ok () (w.setCell ⟨b, i, none⟩ (.func fn x y)) := by
  have c := h.cell i (List.getElem?_eq_getElem hi)
  have f := h.free i
  obtain ⟨q, hq, hs⟩ : ∃ q, Tryz.prog.info? 79 = some q ∧ q.size = 1 := by
    have : (Tryz.prog.info? 79).map (fun i => (i.zero, i.size, i.bytes)) = some (some .nilFunc, 1, 8) := by kernel_rfl
    obtain ⟨q, h1, _, h2, _⟩ := info_parts this
    exact ⟨q, h1, h2⟩
  simp [stDoer, Instr.storeAt, Instr.sureAddr, storeVar, go_sem, c, f, hq, hs]

/-- The cells of a core: ten, what the names do, the rest. -/
def coreL (p ds t : List Value) : List Value := p ++ (ds ++ t)
theorem coreL_ds (p ds t : List Value) (hp : p.length = 10) (i : Nat) (hi : i < ds.length) (v : Value) : (coreL p ds t).set (10 + i) v = coreL p (ds.set i v) t := by
  unfold coreL
  rw [List.set_append_right _ _ (by omega), List.set_append_left _ _ (by omega), hp, Nat.add_sub_cancel_left]
theorem coreL_p (p ds t : List Value) (i : Nat) (hi : i < p.length) (v : Value) : (coreL p ds t).set i v = coreL (p.set i v) ds t := by
  unfold coreL
  rw [List.set_append_left _ _ hi]
theorem coreL_get (p ds t : List Value) (i : Nat) (hi : i < p.length) : (coreL p ds t)[i]? = p[i]? := by
  unfold coreL
  rw [List.getElem?_append_left hi]

theorem range_new (w : World) (l : List Value) (t : TypeId) (m : Nat × Nat) : (w.alloc (.cells l.toArray t m)).rangeAt w.heap.size 0 l := by
  intro j v hv
  simp only [World.cell?, World.alloc, Nat.zero_add, Array.getElem?_push_size]
  simpa using hv
/-- One store into the doers. -/
theorem doer_one {w w1 : World} {cb : Nat} {p ds t : List Value} {ty : TypeId} (h : Blk w1 cb (coreL p ds t) ty ∧ Keep (fun k => k = cb ∨ w.heap.size ≤ k) w w1) (hp : p.length = 10) (hd : ds.length = 256) (i j : Nat) (hj : 10 + i = j) (hi : i < 256) (f : Nat) :
    ∃ w2, (stDoer (.pointer (some ⟨cb, j, none⟩)) (.func (.func f) #[.pointer (some ⟨cb, 0, none⟩)] #[])).run Tryz.prog w1 = .ok () w2 ∧ w2.heap.size = w1.heap.size ∧
    (∀ k, k ≠ cb → w2.heap[k]? = w1.heap[k]?) ∧ (Blk w2 cb (coreL p (ds.set i (methV f cb)) t) ty ∧ Keep (fun k => k = cb ∨ w.heap.size ≤ k) w w2) := by
  subst hj
  refine ⟨_, run_stDoer h.1 (10 + i) (by unfold coreL; simp [hp, hd]; omega) (.func f) _ _, by simp, fun k hk => Below.heap_setCell _ _ _ _ hk, ?_, ?_⟩
  · rw [← coreL_ds p ds t hp i (by omega)]
    exact h.1.set _ _
  · exact h.2.setCell (fun _ => .inl rfl) _
theorem does_all (cb : Nat) : ((((((((((((((((((((((((List.replicate 256 .nilFunc).set 103 (methV 43 cb)).set 71 (methV 43 cb)).set 104 (methV 43 cb)).set 72 (methV 43 cb)).set 120 (methV 43 cb)).set 61 (methV 44 cb)).set 97 (methV 45 cb)).set 98 (methV 46 cb)).set 99 (methV 47 cb)).set 100 (methV 48 cb)).set 68 (methV 49 cb)).set 105 (methV 50 cb)).set 108 (methV 51 cb)).set 110 (methV 52 cb)).set 78 (methV 52 cb)).set 112 (methV 53 cb)).set 80 (methV 54 cb)).set 113 (methV 55 cb)).set 114 (methV 56 cb)).set 115 (methV 57 cb)).set 116 (methV 58 cb)).set 119 (methV 59 cb)).set 121 (methV 60 cb)) = does cb := by kernel_rfl

set_option maxRecDepth 100000 in
set_option maxHeartbeats 4000000 in
theorem table_any (cb : Nat) (p t : List Value) (w : World) (h : Blk w cb (coreL p (List.replicate 256 .nilFunc) t) 82) (hp : p.length = 10) :
    Calls Tryz.prog 23 #[.pointer (some ⟨cb, 0, none⟩)] w fun e w' => e = .returned (.tuple #[]) ∧ Blk w' cb (coreL p (does cb) t) 82 ∧ Keep (· = cb) w w' := by
  have hmf : ∀ (fn : Fn) (first cap : Array Value) (w : World), (Instr.makeFunc fn first cap).run Tryz.prog w = .ok (.func fn first cap) w := fun _ _ _ _ => rfl
  have hcv := Lib.run_convert_bytes_const (P := Tryz.prog) w 33 5 #[.int .u8 103, .int .u8 71, .int .u8 104, .int .u8 72, .int .u8 120] 5 5 Tryz.underlying33 Tryz.underlying5
  have c0 : (w.alloc (.cells #[.int .u8 103, .int .u8 71, .int .u8 104, .int .u8 72, .int .u8 120] 5 (5, 6))).cell? ⟨w.heap.size, 0, none⟩ = some (.int .u8 103) := range_new w [.int .u8 103, .int .u8 71, .int .u8 104, .int .u8 72, .int .u8 120] 5 (5, 6) 0 _ rfl
  have HP := hid hp
  have hlt := h.lt
  have H := hid h
  clear h hp
  go_enter Tryz.func23, Tryz.ntmps23
  go_wp2_with fail
  refine wp_loop_rounds 6 ?_
  rw [rounds_succ]
  go_wp2_with fail
  have hn : w.heap.size ≠ cb := by omega
  have F0 : (w.alloc (.cells #[.int .u8 103, .int .u8 71, .int .u8 104, .int .u8 72, .int .u8 120] 5 (5, 6))).rangeAt w.heap.size 0 [.int .u8 103, .int .u8 71, .int .u8 104, .int .u8 72, .int .u8 120] := range_new w _ _ _
  obtain ⟨w1, st, hz, hk, H1⟩ := doer_one (w := w) ⟨H.out.alloc _, (Keep.refl _ _).alloc _⟩ HP.out (by simp) 103 113 rfl (by decide) 43
  rw [st]
  have F1 := hid (show w1.rangeAt w.heap.size 0 [.int .u8 103, .int .u8 71, .int .u8 104, .int .u8 72, .int .u8 120] from fun j v hv => (World.cell?_of_block (hk _ hn)).trans (F0 j v hv))
  replace H1 := hid H1
  clear st hz hk F0 H hcv c0
  have g2 := F1.out 1 _ rfl
  go_wp2_with fail
  rw [rounds_succ]
  go_wp2_with fail
  obtain ⟨w2, st, hz, hk, H2⟩ := doer_one H1.out HP.out (by simp) 71 81 rfl (by decide) 43
  rw [st]
  have F2 := hid (show w2.rangeAt w.heap.size 0 [.int .u8 103, .int .u8 71, .int .u8 104, .int .u8 72, .int .u8 120] from fun j v hv => (World.cell?_of_block (hk _ hn)).trans (F1.out j v hv))
  replace H2 := hid H2
  clear st hz hk F1 H1 g2
  have g3 := F2.out 2 _ rfl
  go_wp2_with fail
  rw [rounds_succ]
  go_wp2_with fail
  obtain ⟨w3, st, hz, hk, H3⟩ := doer_one H2.out HP.out (by simp) 104 114 rfl (by decide) 43
  rw [st]
  have F3 := hid (show w3.rangeAt w.heap.size 0 [.int .u8 103, .int .u8 71, .int .u8 104, .int .u8 72, .int .u8 120] from fun j v hv => (World.cell?_of_block (hk _ hn)).trans (F2.out j v hv))
  replace H3 := hid H3
  clear st hz hk F2 H2 g3
  have g4 := F3.out 3 _ rfl
  go_wp2_with fail
  rw [rounds_succ]
  go_wp2_with fail
  obtain ⟨w4, st, hz, hk, H4⟩ := doer_one H3.out HP.out (by simp) 72 82 rfl (by decide) 43
  rw [st]
  have F4 := hid (show w4.rangeAt w.heap.size 0 [.int .u8 103, .int .u8 71, .int .u8 104, .int .u8 72, .int .u8 120] from fun j v hv => (World.cell?_of_block (hk _ hn)).trans (F3.out j v hv))
  replace H4 := hid H4
  clear st hz hk F3 H3 g4
  have g5 := F4.out 4 _ rfl
  go_wp2_with fail
  rw [rounds_succ]
  go_wp2_with fail
  obtain ⟨w5, st, hz, hk, H5⟩ := doer_one H4.out HP.out (by simp) 120 130 rfl (by decide) 43
  rw [st]
  have F5 := hid (show w5.rangeAt w.heap.size 0 [.int .u8 103, .int .u8 71, .int .u8 104, .int .u8 72, .int .u8 120] from fun j v hv => (World.cell?_of_block (hk _ hn)).trans (F4.out j v hv))
  replace H5 := hid H5
  clear st hz hk F4 H4 g5
  go_wp2_with fail
  rw [rounds_succ]
  go_wp2_with fail
  obtain ⟨w6, st, hz, hk, H6⟩ := doer_one H5.out HP.out (by simp) 61 71 rfl (by decide) 44
  rw [st]
  replace H6 := hid H6
  clear st hz hk H5
  go_wp2_with fail
  obtain ⟨w7, st, hz, hk, H7⟩ := doer_one H6.out HP.out (by simp) 97 107 rfl (by decide) 45
  rw [st]
  replace H7 := hid H7
  clear st hz hk H6
  go_wp2_with fail
  obtain ⟨w8, st, hz, hk, H8⟩ := doer_one H7.out HP.out (by simp) 98 108 rfl (by decide) 46
  rw [st]
  replace H8 := hid H8
  clear st hz hk H7
  go_wp2_with fail
  obtain ⟨w9, st, hz, hk, H9⟩ := doer_one H8.out HP.out (by simp) 99 109 rfl (by decide) 47
  rw [st]
  replace H9 := hid H9
  clear st hz hk H8
  go_wp2_with fail
  obtain ⟨w10, st, hz, hk, H10⟩ := doer_one H9.out HP.out (by simp) 100 110 rfl (by decide) 48
  rw [st]
  replace H10 := hid H10
  clear st hz hk H9
  go_wp2_with fail
  obtain ⟨w11, st, hz, hk, H11⟩ := doer_one H10.out HP.out (by simp) 68 78 rfl (by decide) 49
  rw [st]
  replace H11 := hid H11
  clear st hz hk H10
  go_wp2_with fail
  obtain ⟨w12, st, hz, hk, H12⟩ := doer_one H11.out HP.out (by simp) 105 115 rfl (by decide) 50
  rw [st]
  replace H12 := hid H12
  clear st hz hk H11
  go_wp2_with fail
  obtain ⟨w13, st, hz, hk, H13⟩ := doer_one H12.out HP.out (by simp) 108 118 rfl (by decide) 51
  rw [st]
  replace H13 := hid H13
  clear st hz hk H12
  go_wp2_with fail
  obtain ⟨w14, st, hz, hk, H14⟩ := doer_one H13.out HP.out (by simp) 110 120 rfl (by decide) 52
  rw [st]
  replace H14 := hid H14
  clear st hz hk H13
  go_wp2_with fail
  obtain ⟨w15, st, hz, hk, H15⟩ := doer_one H14.out HP.out (by simp) 78 88 rfl (by decide) 52
  rw [st]
  replace H15 := hid H15
  clear st hz hk H14
  go_wp2_with fail
  obtain ⟨w16, st, hz, hk, H16⟩ := doer_one H15.out HP.out (by simp) 112 122 rfl (by decide) 53
  rw [st]
  replace H16 := hid H16
  clear st hz hk H15
  go_wp2_with fail
  obtain ⟨w17, st, hz, hk, H17⟩ := doer_one H16.out HP.out (by simp) 80 90 rfl (by decide) 54
  rw [st]
  replace H17 := hid H17
  clear st hz hk H16
  go_wp2_with fail
  obtain ⟨w18, st, hz, hk, H18⟩ := doer_one H17.out HP.out (by simp) 113 123 rfl (by decide) 55
  rw [st]
  replace H18 := hid H18
  clear st hz hk H17
  go_wp2_with fail
  obtain ⟨w19, st, hz, hk, H19⟩ := doer_one H18.out HP.out (by simp) 114 124 rfl (by decide) 56
  rw [st]
  replace H19 := hid H19
  clear st hz hk H18
  go_wp2_with fail
  obtain ⟨w20, st, hz, hk, H20⟩ := doer_one H19.out HP.out (by simp) 115 125 rfl (by decide) 57
  rw [st]
  replace H20 := hid H20
  clear st hz hk H19
  go_wp2_with fail
  obtain ⟨w21, st, hz, hk, H21⟩ := doer_one H20.out HP.out (by simp) 116 126 rfl (by decide) 58
  rw [st]
  replace H21 := hid H21
  clear st hz hk H20
  go_wp2_with fail
  obtain ⟨w22, st, hz, hk, H22⟩ := doer_one H21.out HP.out (by simp) 119 129 rfl (by decide) 59
  rw [st]
  replace H22 := hid H22
  clear st hz hk H21
  go_wp2_with fail
  obtain ⟨w23, st, hz, hk, H23⟩ := doer_one H22.out HP.out (by simp) 121 131 rfl (by decide) 60
  rw [st]
  replace H23 := hid H23
  clear st hz hk H22
  go_wp2_with fail
  go_end0
  exact ⟨rfl, by rw [← does_all]; exact H23.out.1, H23.out.2.os, H23.out.2.tape, H23.out.2.output, H23.out.2.size, fun k hk hn => H23.out.2.block k hk (fun h => h.elim hn (fun h => by omega))⟩

end Go.Proofs.YtaelokmcmflmiaaGreatDoor
