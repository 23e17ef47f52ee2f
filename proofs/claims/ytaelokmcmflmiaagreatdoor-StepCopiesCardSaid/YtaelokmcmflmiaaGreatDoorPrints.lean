/-
  The law's prints: the program of the one command p.
-/
import Derived.Test.YtaelokmcmflmiaaGreatDoorLong
namespace Go.Proofs.YtaelokmcmflmiaaGreatDoor
open Go.RowKit
attribute [local go_sem ↓] exec_bsCmd

/-- The command p, kept from the walk's own rules. -/
def blCmd (v : Value) : Sem Value := Instr.build 60 #[(3, v)]
theorem exec_blCmd (ρ : Operand → Value) (d : Option Tmp) (x : Operand) (ty : TypeId) (ps : String) (af : Array Edge) (g : Option (Nat × Bool)) (w : World) :
    Sem.run Tryz.prog (execOp ρ { dst := d, op := Op.build 60 #[(3, x)], type := ty, pos := ps, after := af, guard := g }) w = (Sem.run Tryz.prog (blCmd (ρ x)) w).andThen fun v w' => .ok (.value v) w' := by
  unfold execOp blCmd
  simp only [Sem.run_bind, Sem.run_map, Sem.run_pure, List.map_toArray, List.map_cons, List.map_nil]
attribute [local go_sem ↓] exec_blCmd
noncomputable def cmdP : List Value := Tryz.zeroCells60.toList.set 7 (.int .u8 112)
theorem run_blCmd (w : World) : (blCmd (.int .u8 112)).run Tryz.prog w = .ok (.agg cmdP.toArray) w := by kernel_rfl
theorem cmdP_is : CmdZ cmdP :=
  { len := by kernel_rfl, c0 := by kernel_rfl, c1 := by kernel_rfl, c2 := by kernel_rfl, c3 := by kernel_rfl, c4 := by kernel_rfl, c5 := by kernel_rfl, c6 := by kernel_rfl, c7 := by kernel_rfl, c8 := by kernel_rfl, c9 := by kernel_rfl,
    c10 := by kernel_rfl, c11 := ⟨none, 0, by kernel_rfl⟩, c12 := by kernel_rfl, c13 := by kernel_rfl, c14 := by kernel_rfl, c15 := by kernel_rfl, map := by kernel_rfl, one := List.all_eq_true.1 (by kernel_rfl) }

def PrintsPost (w : World) (e : Ending) (w' : World) : Prop :=
  ∃ ab tb, e = .returned (.agg #[.slice (some ⟨ab, 0, none⟩) 1 1, .slice (some ⟨tb, 0, none⟩) 1 1, .slice none 0 0, .bool false]) ∧ w'.rangeAt ab 0 cmdP ∧ w'.cell? ⟨tb, 0, none⟩ = some (.int .i64 (-1)) ∧ Below w.heap.size w w' ∧ w.heap.size ≤ ab ∧ w.heap.size ≤ tb

set_option maxRecDepth 100000 in
set_option maxHeartbeats 1000000 in
theorem prints_any (w : World) : Calls Tryz.prog 6 #[] w (PrintsPost w) := by
  have hb := run_blCmd
  have hs := fun w => run_bsCmd cmdP_is w
  go_enter Tryz.func6, Tryz.ntmps6
  go_wp2_with fail
  generalize hw1 : World.alloc _ (Obj.cells #[Value.int IntKind.i64 (-1)] 3) = w1
  have X0 : Blk w1 w.heap.size [.slice (some ⟨w.heap.size + 1, 0, none⟩) 1 1, .slice (some ⟨w.heap.size + 1 + 1, 0, none⟩) 1 1, .slice none 0 0, .bool false] 32 := by rw [← hw1]; exact ((Blk.new w [.slice (some ⟨w.heap.size + 1, 0, none⟩) 1 1, .slice (some ⟨w.heap.size + 1 + 1, 0, none⟩) 1 1, .slice none 0 0, .bool false] _).alloc _).alloc _
  have X1 : Blk w1 (w.heap.size + 1) cmdP 60 := by rw [← hw1]; exact (Blk.newAt (by simp) cmdP _).alloc _
  have X2 : Blk w1 (w.heap.size + 1 + 1) [.int .i64 (-1)] 3 := by rw [← hw1]; exact Blk.newAt (by simp) [.int .i64 (-1)] _
  have B : Below w.heap.size w w1 := by rw [← hw1]; exact (((Below.refl _ w).alloc (Nat.le_refl _) _).alloc (by simp) _).alloc (by simp; omega) _
  clear hw1
  refine bodyPost_ret (results_cell rfl _ _ _ w.heap.size _ rfl (run_loadVar_mid _ _ _ _ [.slice (some ⟨w.heap.size + 1, 0, none⟩) 1 1, .slice (some ⟨w.heap.size + 1 + 1, 0, none⟩) 1 1, .slice none 0 0, .bool false] _ (fun j v hv => by rw [Nat.zero_add]; exact X0.cell j hv) Tryz.underlying32 rfl (by kernel_rfl))) rfl ?_
  exact ⟨_, _, rfl, X1.range, X2.cell 0 rfl, B, by omega, by omega⟩

end Go.Proofs.YtaelokmcmflmiaaGreatDoor
