/-
  resolve.clone of the command p.
-/
import Derived.Test.YtaelokmcmflmiaaGreatDoorPgm
namespace Go.Proofs.YtaelokmcmflmiaaGreatDoor
open Go.RowKit
attribute [local go_sem ↓] exec_ldCmd
attribute [local go_sem ↓] exec_stCmd
theorem zero_len : Tryz.zeroCells60.toList.length = 272 := by kernel_rfl

set_option maxHeartbeats 800000 in
theorem CloneRe_nil (w : World) : Calls Tryz.prog 39 #[.slice none 0 0] w fun e w' => e = .returned (.slice none 0 0) ∧ w = w' := by
  go_enter Tryz.func39, Tryz.ntmps39
  have qT : ∀ (w : World) (a : Option Addr) (n c n' c' : Nat), (binOp .eql 53 (.slice a n c) (.slice none n' c')).run Tryz.prog w = .ok (.bool a.isNone) w := fun w a n c n' c' => Lib.run_eql_slice_nil w _ _ a n c n' c' Tryz.underlying53
  go_wp2
  go_ret
  exact ⟨rfl, rfl⟩

theorem World.setCell_same {w : World} {b : Nat} {o : Nat} {v : Value} {l : List Value} {t : TypeId} (h : Blk w b l t) (hv : l[o]? = some v) : w.setCell ⟨b, o, none⟩ v = w := by
  have h2 : l.set o v = l := by
    obtain ⟨ho, rfl⟩ := List.getElem?_eq_some_iff.1 hv
    exact List.set_getElem_self ho
  have hb := h.lt
  have h4 : w.heap[b] = .cells l.toArray t (0, 0) := by
    have := h
    unfold Blk at this
    rw [Array.getElem?_eq_getElem hb] at this
    exact Option.some.inj this
  have h5 : ∀ f : Obj → Obj, f (.cells l.toArray t (0, 0)) = .cells l.toArray t (0, 0) → w.heap.modify b f = w.heap := by
    intro f hf
    apply Array.ext
    · simp
    · intro i h1 h2
      rw [Array.getElem_modify]
      split
      · rename_i e
        subst e
        rw [h4, hf]
      · rfl
  unfold World.setCell
  rw [h5]
  simp [h2]

theorem make_pieces (w : World) : (Instr.makeSlice 56 (.int .i64 0) (.int .i64 0)).run Tryz.prog w = .ok (.slice (some ⟨w.heap.size, 0, none⟩) 0 0) (w.alloc (.cells #[] 62)) := by kernel_rfl

set_option maxRecDepth 100000 in
set_option maxHeartbeats 2000000 in
theorem clone_p (cmd : List Value) (h : CmdZ cmd) (w : World) : Calls Tryz.prog 36 #[.agg cmd.toArray] w fun e w' => ∃ cmd', CmdZ cmd' ∧ e = .returned (.agg cmd'.toArray) ∧ Below w.heap.size w w' := by
  have H := hid h
  have c2 := h.c2
  have c5 := h.c5
  have c9 := h.c9
  have c10 := h.c10
  obtain ⟨fo, fc, c11⟩ := h.c11
  clear h
  go_enter Tryz.func36, Tryz.ntmps36
  have qT : ∀ (w : World) (a : Option Addr) (n c n' c' : Nat), (binOp .eql 53 (.slice a n c) (.slice none n' c')).run Tryz.prog w = .ok (.bool a.isNone) w := fun w a n c n' c' => Lib.run_eql_slice_nil w _ _ a n c n' c' Tryz.underlying53
  go_wp2_with fail
  refine (Clone_none 0 0 _).mono ?_
  rintro e w1 ⟨rfl, rfl⟩
  generalize hw1 : (w.alloc (Obj.cells cmd.toArray 60)).alloc (Obj.cells Tryz.zeroCells60 60) = w1
  have B1 : Blk w1 w.heap.size cmd 60 := by rw [← hw1]; exact (Blk.new w cmd _).alloc _
  have ZZ1 : Blk w1 (w.heap.size + 1) Tryz.zeroCells60.toList 60 := by
    rw [← hw1]
    have h := Blk.new (w.alloc (Obj.cells cmd.toArray 60)) Tryz.zeroCells60.toList 60
    simpa using h
  have Z1 : w1.heap.size = w.heap.size + 2 := by rw [← hw1]; simp
  have BB1 : Hid (Below w.heap.size w w1) := hid (by rw [← hw1]; exact ((Below.refl _ w).alloc (Nat.le_refl _) _).alloc (by simp) _)
  have e9 := B1.cell 9 c9
  have e2 := B1.cell 2 c2
  have e5 := B1.cell 5 c5
  have e10 := B1.cell 10 c10
  have f1 := B1.free
  have s9 := World.setCell_same B1 c9
  have s2 := World.setCell_same B1 c2
  have s5 := World.setCell_same B1 c5
  have s10 := World.setCell_same B1 c10
  have HB1 := hid B1
  have HZ1 := hid ZZ1
  clear B1 ZZ1
  go_wp2_with fail
  have s2' : ∀ n, (w1.drewN n).setCell ⟨w.heap.size, 2, none⟩ (.slice none 0 0) = w1.drewN n := fun n => World.setCell_same (HB1.out.drewN n) c2
  have s5' : ∀ n, (w1.drewN n).setCell ⟨w.heap.size, 5, none⟩ (.slice none 0 0) = w1.drewN n := fun n => World.setCell_same (HB1.out.drewN n) c5
  have s10' : ∀ n, (w1.drewN n).setCell ⟨w.heap.size, 10, none⟩ (.slice none 0 0) = w1.drewN n := fun n => World.setCell_same (HB1.out.drewN n) c10
  go_quiet (first
    | (go_at_call 39; exact Calls.quiet_of_same ((CloneRe_nil _).mono (fun e w' h => ⟨h.1, h.2.symm⟩))))
  have B2 := hid (HB1.out.drewN nq)
  have D2 := hid (HZ1.out.drewN nq)
  have BB2 := hid (below_drewN BB1.out nq)
  clear HB1 HZ1 BB1 s9 s2 s5 s10 s2' s5' s10' e9 e2 e5 e10 f1 qT
  have Z2 : (w1.drewN nq).heap.size = w.heap.size + 2 := Z1
  clear Z1 hw1
  generalize w1.drewN nq = w2 at *
  have e11 := B2.out.cell 11 c11
  have hmk := make_pieces w2
  go_wp2_with fail
  refine wp_loop_rounds 1 ?_
  rw [rounds_succ]
  have hlt : w.heap.size < w2.heap.size := by omega
  have f2 := B2.out.free
  go_wp2_with fail
  generalize hw3 : (w2.setCell { block := w.heap.size, off := 11 } (Value.slice (some { block := w.heap.size + 2, off := 0 }) 0 0)).alloc (Obj.cells #[] 62) = w3
  have B3 := hid (show Blk w3 w.heap.size (cmd.set 11 (Value.slice (some { block := w.heap.size + 2, off := 0 }) 0 0)) 60 by rw [← hw3]; exact (B2.out.set 11 _).alloc _)
  have D3 := hid (show Blk w3 (w.heap.size + 1) Tryz.zeroCells60.toList 60 by rw [← hw3]; exact (D2.out.setO (by simp) _).alloc _)
  have BB3 := hid (show Below w.heap.size w w3 by rw [← hw3]; exact (BB2.out.setCell (by simp) _).alloc (by simp; omega) _)
  have HC : CmdZ (cmd.set 11 (Value.slice (some { block := w.heap.size + 2, off := 0 }) 0 0)) := by
    have h := H.out
    exact ⟨by simpa using h.len, by simpa using h.c0, by simpa using h.c1, by simpa using h.c2, by simpa using h.c3, by simpa using h.c4, by simpa using h.c5, by simpa using h.c6, by simpa using h.c7, by simpa using h.c8, by simpa using h.c9, by simpa using h.c10,
      ⟨_, _, by rw [List.getElem?_set_self (by rw [h.len]; decide)]⟩, by simpa using h.c12, by simpa using h.c13, by simpa using h.c14, by simpa using h.c15, by rw [← h.map, List.drop_set_of_lt (by decide)], fun v hv => (List.mem_or_eq_of_mem_set hv).elim (h.one v) (fun e => by rw [e]; rfl)⟩
  have HH := hid HC
  generalize cmd.set 11 (Value.slice (some { block := w.heap.size + 2, off := 0 }) 0 0) = cmd' at *
  have ld : (ldCmd (.pointer (some ⟨w.heap.size, 0, none⟩))).run Tryz.prog w3 = .ok (.agg cmd'.toArray) w3 :=
    run_loadAt_mid w3 w.heap.size 0 60 cmd' _ (fun j v hv => by rw [Nat.zero_add]; exact B3.out.cell j hv) Tryz.underlying60 rfl (by rw [HC.len]; kernel_rfl)
  clear HC B2 D2 BB2 e11 hmk f2 hw3 c2 c5 c9 c10 c11
  have f3 := D3.out.free
  obtain ⟨st, BS⟩ := run_stCmd D3.out zero_len HH.out
  have HBS := hid BS
  clear BS
  rw [ld]
  go_wp2_with fail
  (try simp only [Exit.inBlock, Exit.then])
  refine bodyPost_ret (results_cell rfl _ _ _ (w.heap.size + 1) (.agg cmd'.toArray) rfl ?_) rfl ?_
  · exact run_loadVar_mid _ _ _ _ cmd' _ (fun j v hv => by rw [Nat.zero_add]; exact HBS.out.cell j hv) Tryz.underlying60 rfl (by rw [HH.out.len]; kernel_rfl)
  · exact ⟨cmd', HH.out, rfl, (BB3.out.trans ((Keep.sets cmd' 0 w3).mono (G := fun k => k = w.heap.size + 1) (fun _ _ h => h) |> fun k => ⟨k.os, k.tape, k.output, k.size, fun i hi => k.block i (by have := BB3.out.size; omega) (by omega)⟩))⟩

end Go.Proofs.YtaelokmcmflmiaaGreatDoor
