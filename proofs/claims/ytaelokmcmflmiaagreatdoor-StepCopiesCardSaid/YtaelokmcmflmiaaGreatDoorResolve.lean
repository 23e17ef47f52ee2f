/-
  resolve.Resolve and Good of the programs of no command and of the one command p.
-/
import Derived.Test.YtaelokmcmflmiaaGreatDoorClone
namespace Go.Proofs.YtaelokmcmflmiaaGreatDoor
open Go.RowKit
attribute [local go_sem ↓] exec_ldCmd
attribute [local go_sem ↓] exec_stCmd

theorem make_ints0 (w : World) : (Instr.makeSlice 29 (.int .i64 0) (.int .i64 0)).run Tryz.prog w = .ok (.slice (some ⟨w.heap.size, 0, none⟩) 0 0) (w.alloc (.cells #[] 3)) := by kernel_rfl
theorem make_ints1 (w : World) : (Instr.makeSlice 29 (.int .i64 1) (.int .i64 1)).run Tryz.prog w = .ok (.slice (some ⟨w.heap.size, 0, none⟩) 1 1) (w.alloc (.cells #[.int .i64 0] 3)) := by kernel_rfl

theorem make_map (w : World) : (Instr.makeMap 110 none).run Tryz.prog w = .ok (.map (some w.heap.size)) (w.alloc (.map #[] 0)) := by kernel_rfl

set_option maxRecDepth 100000 in
set_option maxHeartbeats 1000000 in
theorem Resolve_nil (quiet : Bool) (c : Nat) (ao : Option Addr) (w : World) : Calls Tryz.prog 18 #[.slice ao 0 c, .bool quiet] w fun e w' => ∃ a, e = .returned (.tuple #[.agg #[.slice none 0 0, .slice (some a) 0 0, .slice none 0 0, .bool quiet], .int .i64 0, .int .i64 0]) ∧ Below w.heap.size w w' := by
  have hmf : ∀ (fn : Fn) (first cap : Array Value) (w : World), (Instr.makeFunc fn first cap).run Tryz.prog w = .ok (.func fn first cap) w := fun _ _ _ _ => rfl
  have hmk := make_ints0
  have hmm := make_map
  go_enter Tryz.func18, Tryz.ntmps18
  go_wp2_with fail
  go_step3
  go_wp2_with fail
  go_step3
  go_wp2_with fail
  refine wp_loop_rounds 1 ?_
  rw [rounds_succ]
  go_wp2_with fail
  refine wp_loop_rounds 1 ?_
  rw [rounds_succ]
  go_wp2_with fail
  simp only [Exit.noGoto]
  go_at_K
  (try simp only [Exit.inBlock, Exit.then])
  refine bodyPost_ret (results_cell3 rfl _ _ _ (w.heap.size + 1) _ rfl (run_loadVar_mid _ _ _ _ [Value.slice none 0 0, Value.slice (some { block := w.heap.size + 1 + 1, off := 0 }) 0 0, Value.slice none 0 0, Value.bool quiet] _ (fun j v hv => ?_) Tryz.underlying32 rfl (by kernel_rfl))) rfl ?_
  · rw [Nat.zero_add]
    have B := (((Blk.new (w.alloc (Obj.cells #[Value.slice ao 0 c] 28)) [Value.slice none 0 0, Value.slice (some { block := w.heap.size + 1 + 1, off := 0 }) 0 0, Value.slice none 0 0, Value.bool quiet] 32).alloc (.cells #[] 3)).alloc (.cells #[Value.slice none 0 0, Value.slice (some { block := w.heap.size + 1 + 1, off := 0 }) 0 0, Value.slice none 0 0, Value.bool quiet] 32)).alloc (.map #[] 0)
    have h := B.cell j hv
    rw [show (w.alloc (Obj.cells #[Value.slice ao 0 c] 28)).heap.size = w.heap.size + 1 from by simp] at h
    exact h
  · exact ⟨_, rfl, (((((Below.refl _ w).alloc (Nat.le_refl _) _).alloc (by simp) _).alloc (by simp; omega) _).alloc (by simp; omega) _).alloc (by simp; omega) _⟩

set_option maxHeartbeats 800000 in
theorem EqualInts_nil (ao bo : Option Addr) (c d : Nat) (w : World) : Calls Tryz.prog 30 #[.slice ao 0 c, .slice bo 0 d] w fun e w' => e = .returned (.bool true) ∧ w = w' := by
  go_enter Tryz.func30, Tryz.ntmps30
  go_wp2
  refine wp_loop_rounds 1 ?_
  rw [rounds_succ]
  go_wp2
  go_ret
  exact ⟨rfl, rfl⟩
set_option maxHeartbeats 800000 in
theorem EqualInts_one (a b : Addr) (c d : Nat) (v : Int) (w : World) (h1 : w.cell? a = some (.int .i64 v)) (h2 : w.cell? b = some (.int .i64 v)) (ha : a.spot = none) (hb : b.spot = none) : Calls Tryz.prog 30 #[.slice (some a) 1 c, .slice (some b) 1 d] w fun e w' => e = .returned (.bool true) ∧ ∃ q, w' = w.drewN q := by
  obtain ⟨ab, ao, asp⟩ := a
  obtain ⟨bb, bo, bsp⟩ := b
  subst ha
  subst hb
  go_enter Tryz.func30, Tryz.ntmps30
  go_wp2
  refine wp_loop_rounds 2 ?_
  rw [rounds_succ]
  go_wp2_with fail
  go_quiet (fail)
  go_wp2_with fail
  rw [rounds_succ]
  go_wp2_with fail
  go_ret
  exact ⟨rfl, nq, rfl⟩
set_option maxHeartbeats 800000 in
theorem EqualStrs_nil (ao bo : Option Addr) (c d : Nat) (w : World) : Calls Tryz.prog 31 #[.slice ao 0 c, .slice bo 0 d] w fun e w' => e = .returned (.bool true) ∧ w = w' := by
  go_enter Tryz.func31, Tryz.ntmps31
  go_wp2
  refine wp_loop_rounds 1 ?_
  rw [rounds_succ]
  go_wp2
  go_ret
  exact ⟨rfl, rfl⟩

set_option maxRecDepth 100000 in
set_option maxHeartbeats 1000000 in
theorem Good_nil (quiet : Bool) (w : World) : Calls Tryz.prog 16 #[.agg #[.slice none 0 0, .slice none 0 0, .slice none 0 0, .bool quiet]] w fun e w' => e = .returned (.bool true) ∧ Below w.heap.size w w' := by
  go_enter Tryz.func16, Tryz.ntmps16
  go_wp2_with fail
  refine (Resolve_nil _ _ _ _).mono ?_
  rintro e w1 ⟨a, rfl, b1⟩
  have B1 := hid (bel1 b1)
  have e1 : w1.cell? ⟨w.heap.size, 1, none⟩ = some (.slice none 0 0) := (b1.cell (by simp)).trans (by simp)
  have e2 : w1.cell? ⟨w.heap.size, 2, none⟩ = some (.slice none 0 0) := (b1.cell (by simp)).trans (by simp)
  have z1 : w.heap.size < w1.heap.size := by have := b1.size; simp at this; omega
  clear b1
  go_wp2_with fail
  refine (EqualInts_nil _ _ _ _ _).mono ?_
  rintro e w2 ⟨rfl, rfl⟩
  go_wp2_with fail
  refine (EqualStrs_nil _ _ _ _ _).mono ?_
  rintro e w2 ⟨rfl, rfl⟩
  go_wp2_with fail
  go_ret
  exact ⟨rfl, B1.out.alloc (by omega) _⟩

end Go.Proofs.YtaelokmcmflmiaaGreatDoor
