/-
  The machine's core as cells; goTo.
-/
import Derived.Test.YtaelokmcmflmiaaGreatDoorWorldC
namespace Go.Proofs.YtaelokmcmflmiaaGreatDoor
open Go.RowKit

/-- What a core's cells hold. -/
structure CS where
  sp : Nat
  cmds : Value
  goes : Value
  files : Value
  quiet : Bool
  wb : Nat
  rx : Nat
  applied : Value
  qb : Nat
  gb : Nat
  flag : Bool
  at_ : Int
  next : Int
  steps : Int
  err : Int
  silent : Bool
  ends : Bool
  anew : Bool

def ptr (b : Nat) : Value := .pointer (some ⟨b, 0, none⟩)
def methV (f : Nat) (b : Nat) : Value := .func (.func f) #[ptr b] #[]
/-- What a name does. -/
def doesV (cb : Nat) (n : Nat) : Value :=
  if n = 103 ∨ n = 71 ∨ n = 104 ∨ n = 72 ∨ n = 120 then methV 43 cb
  else if n = 61 then methV 44 cb
  else if n = 97 then methV 45 cb
  else if n = 98 then methV 46 cb
  else if n = 99 then methV 47 cb
  else if n = 100 then methV 48 cb
  else if n = 68 then methV 49 cb
  else if n = 105 then methV 50 cb
  else if n = 108 then methV 51 cb
  else if n = 110 ∨ n = 78 then methV 52 cb
  else if n = 112 then methV 53 cb
  else if n = 80 then methV 54 cb
  else if n = 113 then methV 55 cb
  else if n = 114 then methV 56 cb
  else if n = 115 then methV 57 cb
  else if n = 116 then methV 58 cb
  else if n = 119 then methV 59 cb
  else if n = 121 then methV 60 cb
  else .nilFunc
def does (cb : Nat) : List Value := (List.range 256).map (doesV cb)
theorem does_len (cb : Nat) : (does cb).length = 256 := by simp [does]
theorem does_get (cb n : Nat) (h : n < 256) : (does cb)[n]? = some (doesV cb n) := by simp [does, h]

def CS.pre (s : CS) : List Value := [ptr s.sp, s.cmds, s.goes, s.files, .bool s.quiet, .iface 35 (ptr s.wb), .map (some s.rx), s.applied, ptr s.qb, ptr s.gb]
def CS.tail (s : CS) : List Value := [.bool s.flag, .int .i64 s.at_, .int .i64 s.next, .int .i64 s.steps, .int .i64 s.err, .bool s.silent, .bool s.ends, .bool s.anew]
def CS.cells (s : CS) (cb : Nat) : List Value := s.pre ++ (does cb ++ s.tail)

theorem cells_pre (s : CS) (cb j : Nat) (h : j < 10) : (s.cells cb)[j]? = s.pre[j]? := by
  unfold CS.cells; rw [List.getElem?_append_left (by simpa [CS.pre] using h)]
theorem cells_mid (s : CS) (cb j : Nat) (h : j < 256) : (s.cells cb)[10 + j]? = some (doesV cb j) := by
  unfold CS.cells
  rw [List.getElem?_append_right (by simp [CS.pre])]
  rw [show 10 + j - s.pre.length = j from by simp [CS.pre]]
  rw [List.getElem?_append_left (by rw [does_len]; exact h), does_get _ _ h]
theorem cells_tail (s : CS) (cb j : Nat) : (s.cells cb)[266 + j]? = s.tail[j]? := by
  unfold CS.cells
  rw [List.getElem?_append_right (by simp [CS.pre]; omega), List.getElem?_append_right (by rw [does_len]; simp [CS.pre]; omega)]
  rw [does_len, show 266 + j - s.pre.length - 256 = j from by simp [CS.pre]; omega]
theorem cells_set (s : CS) (cb j : Nat) (v : Value) {s' : CS} (h1 : s'.pre = s.pre) (h2 : s.tail.set j v = s'.tail) : (s.cells cb).set (266 + j) v = s'.cells cb := by
  unfold CS.cells
  rw [List.set_append_right _ _ (by simp [CS.pre]; omega), List.set_append_right _ _ (by rw [does_len]; simp [CS.pre]; omega)]
  rw [does_len, show 266 + j - s.pre.length - 256 = j from by simp [CS.pre]; omega, h2, h1]

section
variable {w : World} {cb : Nat} {s : CS} (h : Blk w cb (s.cells cb) 82)
include h
theorem Core.sp : w.cell? ⟨cb, 0, none⟩ = some (ptr s.sp) := h.cell 0 (cells_pre s cb 0 (by decide))
theorem Core.cmds : w.cell? ⟨cb, 1, none⟩ = some s.cmds := h.cell 1 (cells_pre s cb 1 (by decide))
theorem Core.goes : w.cell? ⟨cb, 2, none⟩ = some s.goes := h.cell 2 (cells_pre s cb 2 (by decide))
theorem Core.quiet : w.cell? ⟨cb, 4, none⟩ = some (.bool s.quiet) := h.cell 4 (cells_pre s cb 4 (by decide))
theorem Core.wb : w.cell? ⟨cb, 5, none⟩ = some (.iface 35 (ptr s.wb)) := h.cell 5 (cells_pre s cb 5 (by decide))
theorem Core.qb : w.cell? ⟨cb, 8, none⟩ = some (ptr s.qb) := h.cell 8 (cells_pre s cb 8 (by decide))
theorem Core.gb : w.cell? ⟨cb, 9, none⟩ = some (ptr s.gb) := h.cell 9 (cells_pre s cb 9 (by decide))
theorem Core.does (n : Nat) (hn : n < 256) : w.cell? ⟨cb, 10 + n, none⟩ = some (doesV cb n) := h.cell (10 + n) (cells_mid s cb n hn)
theorem Core.flag : w.cell? ⟨cb, 266, none⟩ = some (.bool s.flag) := h.cell 266 (cells_tail s cb 0)
theorem Core.pos : w.cell? ⟨cb, 267, none⟩ = some (.int .i64 s.at_) := h.cell 267 (cells_tail s cb 1)
theorem Core.next : w.cell? ⟨cb, 268, none⟩ = some (.int .i64 s.next) := h.cell 268 (cells_tail s cb 2)
theorem Core.steps : w.cell? ⟨cb, 269, none⟩ = some (.int .i64 s.steps) := h.cell 269 (cells_tail s cb 3)
theorem Core.err : w.cell? ⟨cb, 270, none⟩ = some (.int .i64 s.err) := h.cell 270 (cells_tail s cb 4)
theorem Core.silent : w.cell? ⟨cb, 271, none⟩ = some (.bool s.silent) := h.cell 271 (cells_tail s cb 5)
theorem Core.ends : w.cell? ⟨cb, 272, none⟩ = some (.bool s.ends) := h.cell 272 (cells_tail s cb 6)
theorem Core.anew : w.cell? ⟨cb, 273, none⟩ = some (.bool s.anew) := h.cell 273 (cells_tail s cb 7)
theorem Core.setFlag (x : Bool) : Blk (w.setCell ⟨cb, 266, none⟩ (.bool x)) cb ({ s with flag := x }.cells cb) 82 := by
  rw [← cells_set s cb 0 (.bool x) (s' := { s with flag := x }) rfl rfl]; exact h.set 266 _
theorem Core.setAt (x : Int) : Blk (w.setCell ⟨cb, 267, none⟩ (.int .i64 x)) cb ({ s with at_ := x }.cells cb) 82 := by
  rw [← cells_set s cb 1 (.int .i64 x) (s' := { s with at_ := x }) rfl rfl]; exact h.set 267 _
theorem Core.setNext (x : Int) : Blk (w.setCell ⟨cb, 268, none⟩ (.int .i64 x)) cb ({ s with next := x }.cells cb) 82 := by
  rw [← cells_set s cb 2 (.int .i64 x) (s' := { s with next := x }) rfl rfl]; exact h.set 268 _
theorem Core.setSteps (x : Int) : Blk (w.setCell ⟨cb, 269, none⟩ (.int .i64 x)) cb ({ s with steps := x }.cells cb) 82 := by
  rw [← cells_set s cb 3 (.int .i64 x) (s' := { s with steps := x }) rfl rfl]; exact h.set 269 _
theorem Core.setErr (x : Int) : Blk (w.setCell ⟨cb, 270, none⟩ (.int .i64 x)) cb ({ s with err := x }.cells cb) 82 := by
  rw [← cells_set s cb 4 (.int .i64 x) (s' := { s with err := x }) rfl rfl]; exact h.set 270 _
theorem Core.setSilent (x : Bool) : Blk (w.setCell ⟨cb, 271, none⟩ (.bool x)) cb ({ s with silent := x }.cells cb) 82 := by
  rw [← cells_set s cb 5 (.bool x) (s' := { s with silent := x }) rfl rfl]; exact h.set 271 _
theorem Core.setEnds (x : Bool) : Blk (w.setCell ⟨cb, 272, none⟩ (.bool x)) cb ({ s with ends := x }.cells cb) 82 := by
  rw [← cells_set s cb 6 (.bool x) (s' := { s with ends := x }) rfl rfl]; exact h.set 272 _
theorem Core.setAnew (x : Bool) : Blk (w.setCell ⟨cb, 273, none⟩ (.bool x)) cb ({ s with anew := x }.cells cb) 82 := by
  rw [← cells_set s cb 7 (.bool x) (s' := { s with anew := x }) rfl rfl]; exact h.set 273 _
end

set_option maxHeartbeats 800000 in
/-- goTo behind the last command. -/
theorem goTo_end (cb : Nat) (co : Option Addr) (n c : Nat) (i : Int) (atv : Value) (w : World) (h1 : w.cell? ⟨cb, 1, none⟩ = some (.slice co n c)) (h9 : w.cell? ⟨cb, 267, none⟩ = some atv)
    (hf : ∀ o, w.frozen? ⟨cb, o, none⟩ = false) (hi : (n : Int) ≤ i) :
    Calls Tryz.prog 28 #[.pointer (some ⟨cb, 0, none⟩), .int .i64 i] w fun e w' => e = .returned (.tuple #[]) ∧ w.setCell ⟨cb, 267, none⟩ (.int .i64 i) = w' := by
  have hd : decide (i < (n : Int)) = false := by simpa using hi
  go_enter Tryz.func28, Tryz.ntmps28
  go_wp2
  refine wp_loop_rounds 1 ?_
  rw [rounds_succ]
  go_wp2
  go_end0
  exact ⟨rfl, rfl⟩

set_option maxHeartbeats 800000 in
/-- goTo the first command, which is neither } nor a label. -/
theorem goTo_first (cb ab : Nat) (n c : Nat) (nm : Int) (atv : Value) (w : World) (h1 : w.cell? ⟨cb, 1, none⟩ = some (.slice (some ⟨ab, 0, none⟩) n c)) (h9 : w.cell? ⟨cb, 267, none⟩ = some atv)
    (hf : ∀ o, w.frozen? ⟨cb, o, none⟩ = false) (hn : 0 < n) (hc : w.cell? ⟨ab, 7, none⟩ = some (.int .u8 nm)) (e1 : (nm == 125) = false) (e2 : (nm == 58) = false) :
    Calls Tryz.prog 28 #[.pointer (some ⟨cb, 0, none⟩), .int .i64 0] w fun e w' => e = .returned (.tuple #[]) ∧ w.setCell ⟨cb, 267, none⟩ (.int .i64 0) = w' := by
  have hd : decide ((0 : Int) < (n : Int)) = true := by simpa using hn
  go_enter Tryz.func28, Tryz.ntmps28
  go_wp2
  refine wp_loop_rounds 1 ?_
  rw [rounds_succ]
  go_wp2
  go_end0
  exact ⟨rfl, rfl⟩

end Go.Proofs.YtaelokmcmflmiaaGreatDoor
