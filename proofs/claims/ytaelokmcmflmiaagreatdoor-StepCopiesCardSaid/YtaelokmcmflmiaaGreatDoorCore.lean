/-
  Contracts of the core: row, flush, read, end.
-/
import Derived.Test.YtaelokmcmflmiaaGreatDoorMach
namespace Go.Proofs.YtaelokmcmflmiaaGreatDoor
open Go.RowKit

theorem meth_Out (a : Addr) (w : World) : (method 461 35 (.pointer (some a)) "Out").run Tryz.prog w = .ok (217, .pointer (some a)) w := by kernel_rfl
theorem meth_Next (a : Addr) (w : World) : (method 461 35 (.pointer (some a)) "Next").run Tryz.prog w = .ok (216, .pointer (some a)) w := by kernel_rfl
theorem meth_Line (a : Addr) (w : World) : (method 461 35 (.pointer (some a)) "Line").run Tryz.prog w = .ok (215, .pointer (some a)) w := by kernel_rfl
theorem meth_Last (a : Addr) (w : World) : (method 461 35 (.pointer (some a)) "Last").run Tryz.prog w = .ok (214, .pointer (some a)) w := by kernel_rfl

/-- The world is one that keeps what it is told, and refuses nothing; its lists have room. -/
structure Calm (s : WS) (A : List Int) (cn : Nat) (gx : List Value) : Prop where
  deaf : s.deaf = false
  most : s.most = 0
  fail : s.fail = 0
  outs0 : 0 ≤ s.outs
  outs1 : s.outs ≤ 1000000000000
  cn : cn ≤ 1000000000000
  gx : gx.length ≤ 1000000000000
  A : A.length ≤ 35184372088832

def RowPost (F : Nat → Prop) (wb : Nat) (s : WS) (A : List Int) (cn : Nat) (gx lx wx : List Value) (w : World) (e : Ending) (w' : World) : Prop :=
  e = .returned (.int .i64 0) ∧ ∃ x calls got all cn' cx' gx', WInv (Up F w) w' wb { s with outs := s.outs + 1, sum := x, calls := calls, got := got, all := all } A cn' cx' gx' lx wx ∧ cn' ≤ cn + mu s ∧ gx'.length ≤ gx.length + mu s ∧ Keep F w w'

set_option maxRecDepth 100000 in
set_option maxHeartbeats 1000000 in
theorem row_ok (F : Nat → Prop) (cb wb : Nat) (s : WS) (A : List Int) (cn : Nat) (cx gx lx wx : List Value) (ao : Option Addr) (n c : Nat) (bs : List Int) (w : World)
    (h5 : w.cell? ⟨cb, 5, none⟩ = some (.iface 35 (.pointer (some ⟨wb, 0, none⟩))))
    (h : WInv F w wb s A cn cx gx lx wx) (hcalm : Calm s A cn gx) (hF : ∀ k, F k → k < w.heap.size) (hcb : ¬ F cb)
    (hn : n = bs.length) (hno : ao = none → n = 0 ∧ c = 0) (hc : Cs w ao (U8 bs)) (hbig : n ≤ 1000000000000) :
    Calls Tryz.prog 63 #[.pointer (some ⟨cb, 0, none⟩), .slice ao n c] w (RowPost F wb s (A ++ (bs ++ [10])) cn gx lx wx w) := by
  have HN := hid hn
  have HO := hid hno
  have HC := hid hc
  have H := hid h
  have HA := hid hcalm
  have HF := hid hF
  have HB := hid hcb
  clear hn hno hc h hcalm hF hcb
  have m1 := meth_Out
  go_enter Tryz.func63, Tryz.ntmps63
  go_wp2_with fail
  go_region_held3 (fun w' => w'.cell? ⟨cb, 5, none⟩ = some (.iface 35 (.pointer (some ⟨wb, 0, none⟩))))
    (first | go_keep | exact h55 | exact h56)
    (first
      | (go_at_call 93; go_must (refine (Line_any ao n c bs _ HN.out HO.out HC.out.drew (by omega)).mono ?_); rintro e w2 ⟨v, rfl, ⟨ao', c', rfl, g1, g2⟩, g3, g4⟩; have h55 := (g4.cell (p := ⟨cb, 5, none⟩) (block_lt_of_cell h5)).trans h5)
      | (go_at_call 217; go_must (refine (Out_ok ao' _ c' (bs ++ [10]) w2 ((H.out.drewN 1).below g4) HA.out.deaf HA.out.most HA.out.outs0 HA.out.outs1 HA.out.fail (U8_len _) g1 g2 (by rw [U8_len]; simp; rw [← HN.out]; omega) (fun a ha hf => by have h1 := (g3 a.block (by subst ha; rfl)).1; have h2 := HF.out _ hf; simp at h1; omega) HA.out.cn HA.out.gx HA.out.A).mono ?_); rintro e w3 ⟨rfl, x, calls, got, all, cn', cx', gx', k1, k2, k3, k4⟩; have h56 : w3.cell? ⟨cb, 5, none⟩ = some (.iface 35 (.pointer (some ⟨wb, 0, none⟩))) := (World.cell?_of_block (w := w2) (k4.block cb (block_lt_of_cell h55) HB.out)).trans h55))
  have K1 := hid k1
  have K4 := hid k4
  have G4 := hid g4
  clear k1 k4 g4 g1 g2 g3
  go_wp2
  go_ret
  have s2 : w.heap.size ≤ w2.heap.size := G4.out.size
  exact ⟨rfl, x, calls, got, all, cn', cx', gx', K1.out.mono (fun k hk => hk.elim (fun h => .inl h) (fun h => .inr (by omega))), k2, k3, (((Keep.refl F w).drewN 1).new G4.out).trans K4.out (fun _ _ h => h)⟩

def queueL (l : Value) : List Value := [.bool true, l]

set_option maxHeartbeats 800000 in
/-- Flush of a queue in which nothing waits. -/
theorem Flush_empty (qb : Nat) (f g : Value) (w : World) (h : Blk w qb (queueL (.slice none 0 0)) 108) :
    Calls Tryz.prog 95 #[.pointer (some ⟨qb, 0, none⟩), f, g] w fun e w' => e = .returned (.int .i64 0) ∧ w.setCell ⟨qb, 1, none⟩ (.slice none 0 0) = w' := by
  have c0 := h.cell 0 (v := .bool true) rfl
  have c1 := h.cell 1 (v := .slice none 0 0) rfl
  have f1 := h.free
  clear h
  go_enter Tryz.func95, Tryz.ntmps95
  go_wp2
  refine wp_loop_rounds 1 ?_
  rw [rounds_succ]
  go_wp2
  go_ret
  exact ⟨rfl, rfl⟩

set_option maxRecDepth 100000 in
set_option maxHeartbeats 1000000 in
/-- flush where nothing waits. -/
theorem flush_empty (cb qb wb : Nat) (w : World) (hq : Blk w qb (queueL (.slice none 0 0)) 108)
    (h5 : w.cell? ⟨cb, 5, none⟩ = some (.iface 35 (.pointer (some ⟨wb, 0, none⟩)))) (h8 : w.cell? ⟨cb, 8, none⟩ = some (.pointer (some ⟨qb, 0, none⟩))) (hne : qb ≠ cb) :
    Calls Tryz.prog 64 #[.pointer (some ⟨cb, 0, none⟩)] w fun e w' => e = .returned (.int .i64 0) ∧ ∃ q, (w.setCell ⟨qb, 1, none⟩ (.slice none 0 0)).drewN q = w' := by
  have HQ := hid hq
  have hmf : ∀ (fn : Fn) (first cap : Array Value) (w : World), (Instr.makeFunc fn first cap).run Tryz.prog w = .ok (.func fn first cap) w := fun _ _ _ _ => rfl
  clear hq
  go_enter Tryz.func64, Tryz.ntmps64
  go_wp2_with fail
  go_region_held3 (fun w' => w'.cell? ⟨cb, 5, none⟩ = some (.iface 35 (.pointer (some ⟨wb, 0, none⟩))) ∧ w'.cell? ⟨cb, 8, none⟩ = some (.pointer (some ⟨qb, 0, none⟩)))
    (first | go_keep)
    (first
      | (go_at_call 95; go_must (refine (Flush_empty qb _ _ _ HQ.out.drew).mono ?_); rintro e w2 ⟨rfl, rfl⟩))
  all_goals
    go_wp2
    go_ret
    exact ⟨rfl, 1, rfl⟩

end Go.Proofs.YtaelokmcmflmiaaGreatDoor
