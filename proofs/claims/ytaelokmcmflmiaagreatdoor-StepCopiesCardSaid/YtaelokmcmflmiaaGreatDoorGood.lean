/-
  resolve.Good of the one command p; the fresh parts of a machine.
-/
import Derived.Test.YtaelokmcmflmiaaGreatDoorResolveP
namespace Go.Proofs.YtaelokmcmflmiaaGreatDoor
open Go.RowKit

set_option maxRecDepth 100000 in
set_option maxHeartbeats 1000000 in
theorem Good_p (quiet : Bool) (ab c tb tc : Nat) (cmd : List Value) (w : World) (hc : CmdZ cmd) (h : w.rangeAt ab 0 cmd) (ht : w.cell? ⟨tb, 0, none⟩ = some (.int .i64 (-1))) :
    Calls Tryz.prog 16 #[.agg #[.slice (some ⟨ab, 0, none⟩) 1 c, .slice (some ⟨tb, 0, none⟩) 1 tc, .slice none 0 0, .bool quiet]] w fun e w' => e = .returned (.bool true) ∧ Below w.heap.size w w' := by
  have HC := hid hc
  have HR := hid h
  have HT := hid ht
  have hab : ab < w.heap.size := block_lt_of_cell (by have := h 0 _ hc.c0; simpa using this)
  have htb : tb < w.heap.size := block_lt_of_cell ht
  clear hc h ht
  go_enter Tryz.func16, Tryz.ntmps16
  go_wp2_with fail
  refine (Resolve_p quiet ab c cmd _ HC.out (World.rangeAt_alloc HR.out _)).mono ?_
  rintro e w1 ⟨nb, nc, sb, cmd', hc', rfl, hr', hs', b1, hn, hsb⟩
  have B1 := hid (bel1 b1)
  have e1 : w1.cell? ⟨w.heap.size, 1, none⟩ = some (.slice (some ⟨tb, 0, none⟩) 1 tc) := (b1.cell (by simp)).trans (by simp)
  have e2 : w1.cell? ⟨w.heap.size, 2, none⟩ = some (.slice none 0 0) := (b1.cell (by simp)).trans (by simp)
  have z1 : w.heap.size < w1.heap.size := by have := b1.size; simp at this; omega
  have T1 := hid ((B1.out.cell (p := ⟨tb, 0, none⟩) htb).trans HT.out)
  have S1 := hid hs'
  have lt1 : tb < w1.heap.size := by omega
  have lt2 : sb < w1.heap.size := block_lt_of_cell hs'
  clear b1 hc' hr' hs' hn hsb
  go_wp2_with fail
  refine (EqualInts_one ⟨tb, 0, none⟩ ⟨sb, 0, none⟩ tc 1 (-1) _ (by rw [World.cell?_alloc_lt _ _ _ lt1]; exact T1.out) (by rw [World.cell?_alloc_lt _ _ _ lt2]; exact S1.out) rfl rfl).mono ?_
  rintro e w2 ⟨rfl, q, rfl⟩
  go_wp2_with fail
  refine (EqualStrs_nil _ _ _ _ _).mono ?_
  rintro e w2 ⟨rfl, rfl⟩
  go_wp2_with fail
  go_ret
  exact ⟨rfl, below_drewN (B1.out.alloc (by omega) _) q⟩

set_option maxHeartbeats 400000 in
theorem queueNew (w : World) : Calls Tryz.prog 17 #[] w fun e w' => e = .returned (.pointer (some ⟨w.heap.size, 0, none⟩)) ∧ w' = w.alloc (.cells (queueL (.slice none 0 0)).toArray 108) := by
  go_enter Tryz.func17, Tryz.ntmps17
  go_wp2
  go_ret
  exact ⟨rfl, rfl⟩

set_option maxHeartbeats 400000 in
theorem spaceNew (w : World) : Calls Tryz.prog 19 #[.int .i64 1048576] w fun e w' => e = .returned (.tuple #[.pointer (some ⟨w.heap.size, 0, none⟩), .int .i64 0]) ∧ w' = w.alloc (.cells (spaceL (.slice none 0 0) (.slice none 0 0) 1048576).toArray 116) := by
  go_enter Tryz.func19, Tryz.ntmps19
  go_wp2
  go_ret2
  exact ⟨rfl, rfl⟩

theorem make_gates0 (w : World) : (Instr.makeSlice 117 (.int .i64 0) (.int .i64 0)).run Tryz.prog w = .ok (.slice (some ⟨w.heap.size, 0, none⟩) 0 0) (w.alloc (.cells #[] 4)) := by kernel_rfl

set_option maxHeartbeats 400000 in
theorem gatesNew0 (w : World) : Calls Tryz.prog 20 #[.int .i64 0] w fun e w' => ∃ o, e = .returned (.tuple #[.pointer (some ⟨w.heap.size + 1, 0, none⟩), .int .i64 0]) ∧ w' = (w.alloc o).alloc (.cells #[.slice (some ⟨w.heap.size, 0, none⟩) 0 0] 119) := by
  have hmk := make_gates0 w
  go_enter Tryz.func20, Tryz.ntmps20
  go_wp2
  go_ret2
  exact ⟨_, rfl, rfl⟩
theorem make_gates1 (w : World) : (Instr.makeSlice 117 (.int .i64 1) (.int .i64 1)).run Tryz.prog w = .ok (.slice (some ⟨w.heap.size, 0, none⟩) 1 1) (w.alloc (.cells #[.bool false] 4)) := by kernel_rfl
set_option maxHeartbeats 400000 in
theorem gatesNew1 (w : World) : Calls Tryz.prog 20 #[.int .i64 1] w fun e w' => ∃ o, e = .returned (.tuple #[.pointer (some ⟨w.heap.size + 1, 0, none⟩), .int .i64 0]) ∧ w' = (w.alloc o).alloc (.cells #[.slice (some ⟨w.heap.size, 0, none⟩) 1 1] 119) := by
  have hmk := make_gates1 w
  go_enter Tryz.func20, Tryz.ntmps20
  go_wp2
  go_ret2
  exact ⟨_, rfl, rfl⟩

end Go.Proofs.YtaelokmcmflmiaaGreatDoor
