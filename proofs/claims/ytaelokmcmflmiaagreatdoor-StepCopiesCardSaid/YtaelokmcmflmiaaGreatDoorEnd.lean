/-
  Contract of the core: end, where the cycle neither ends the run nor goes on anew.
-/
import Derived.Test.YtaelokmcmflmiaaGreatDoorRead
namespace Go.Proofs.YtaelokmcmflmiaaGreatDoor
open Go.RowKit

def EndPost (F : Nat → Prop) (cb qb wb : Nat) (cs : CS) (s : WS) (A : List Int) (cn : Nat) (gx lx wx : List Value) (k : Nat) (w : World) (e : Ending) (w' : World) : Prop :=
  e = .returned (.int .i64 0) ∧ ∃ x calls got all cn' cx' gx', Blk w' cb ({ cs with silent := false, next := -1 }.cells cb) 82 ∧ Blk w' qb (queueL (.slice none 0 0)) 108 ∧
    WInv (fun i => F i ∨ (w.heap.size ≤ i ∧ i < w'.heap.size)) w' wb { s with outs := s.outs + k, sum := x, calls := calls, got := got, all := all } A cn' cx' gx' lx wx ∧ (cn' ≤ cn + k * mu s ∧ gx'.length ≤ gx.length + k * mu s) ∧ Keep (fun i => F i ∨ i = cb ∨ i = qb) w w'

set_option maxRecDepth 100000 in
set_option maxHeartbeats 2000000 in
/-- end: the pattern space is written. -/
theorem end_loud (F : Nat → Prop) (cb sp qb wb : Nat) (cs : CS) (pat hold : Value) (most : Int) (s : WS) (A : List Int) (cn : Nat) (cx gx lx wx : List Value) (bs : List Int) (w : World)
    (hc : Blk w cb (cs.cells cb) 82) (hwb : cs.wb = wb) (hspe : cs.sp = sp) (hqbe : cs.qb = qb) (hsp : Blk w sp (spaceL pat hold most) 116) (hq : Blk w qb (queueL (.slice none 0 0)) 108)
    (hpat : Sl w pat (U8 bs)) (hbig : bs.length ≤ 1000000000000) (h : WInv F w wb s A cn cx gx lx wx) (hcalm : Calm s A cn gx) (hF : ∀ k, F k → k < w.heap.size) (hcb : ¬ F cb) (hqb : ¬ F qb)
    (e1 : cs.quiet = false) (e2 : cs.silent = false) (e3 : cs.ends = false) (e4 : cs.anew = false) :
    Calls Tryz.prog 26 #[.pointer (some ⟨cb, 0, none⟩)] w (EndPost F cb qb wb cs s (A ++ (bs ++ [10])) cn gx lx wx 1 w) := by
  have HC := hid hc
  have HW := hid hwb
  have HS := hid hspe
  have HQE := hid hqbe
  have HSP := hid hsp
  have HQ := hid hq
  have HP := hid hpat
  have H := hid h
  have HA := hid hcalm
  have HF := hid hF
  have HB := hid hcb
  have HQB := hid hqb
  have E1 := hid e1
  have E2 := hid e2
  have E3 := hid e3
  have E4 := hid e4
  have c0 : w.cell? ⟨cb, 0, none⟩ = some (.pointer (some ⟨sp, 0, none⟩)) := by rw [← hspe]; exact Core.sp hc
  have c4 : w.cell? ⟨cb, 4, none⟩ = some (.bool false) := by rw [← e1]; exact Core.quiet hc
  have c13 : w.cell? ⟨cb, 271, none⟩ = some (.bool false) := by rw [← e2]; exact Core.silent hc
  clear hc hwb hspe hqbe hsp hq hpat h hcalm hF hcb hqb e1 e2 e3 e4
  go_enter Tryz.func26, Tryz.ntmps26
  go_wp2_with fail
  refine (Pattern_any sp pat hold most bs w HSP.out HP.out (by omega)).mono ?_
  rintro e w1 ⟨v, rfl, ⟨ao, c, rfl, n1, n2⟩, n3, n4⟩
  have N1 := hid n1
  have N2 := hid n2
  have N4 := hid n4
  have HF1 := hid (fun k hk => Nat.lt_of_lt_of_le (HF.out k hk) n4.size)
  have C1 := hid (HC.out.below n4 HC.out.lt)
  have Q1 := hid (HQ.out.below n4 HQ.out.lt)
  clear n1 n2 n3 n4 c0 c4 c13
  go_wp2_with fail
  refine (row_ok F cb wb s A cn cx gx lx wx ao _ c bs w1 (by rw [← HW.out]; exact Core.wb C1.out) (H.out.below N4.out) HA.out HF1.out HB.out (U8_len _) N1.out N2.out (by rw [U8_len]; exact hbig)).mono ?_
  rintro e w2 ⟨rfl, x, calls, got, all, cn', cx', gx', r1, r2, r3, r4⟩
  have R1 := hid r1
  have R4 := hid r4
  have C2 := hid (C1.out.keep r4 HB.out)
  have Q2 := hid (Q1.out.keep r4 HQB.out)
  have c13 := Core.silent C2.out
  have f2 := C2.out.free
  clear r1 r4
  go_wp2_with fail
  have C3 := hid (Core.setSilent C2.out false)
  have hne : qb ≠ cb := fun e => by subst e; exact absurd (Blk.inj C2.out Q2.out).2 (by decide)
  have Q3 := hid (Q2.out.setO (a := ⟨cb, 271, none⟩) hne (.bool false))
  refine (flush_empty cb qb wb _ Q3.out (by have h := Core.wb C3.out; rw [← HW.out]; exact h) (by have h := Core.qb C3.out; rw [← HQE.out]; exact h) hne).mono ?_
  rintro e w3 ⟨rfl, q, rfl⟩
  have C4 := hid ((C3.out.setO (a := ⟨qb, 1, none⟩) (fun e => hne e.symm) (.slice none 0 0)).drewN q)
  have Q4 := hid ((Q3.out.set 1 (.slice none 0 0)).drewN q)
  have K4 := hid (((Keep.one w2 cb 271 (.bool false)).mono (G := fun i => i = cb ∨ i = qb) (fun i _ h => .inl h)).trans ((Keep.one (w2.setCell ⟨cb, 271, none⟩ (.bool false)) qb 1 (.slice none 0 0)).drewN q) (fun i _ h => .inr h))
  generalize ((w2.setCell ⟨cb, 271, none⟩ (.bool false)).setCell ⟨qb, 1, none⟩ (.slice none 0 0)).drewN q = w4 at *
  have d14 : w4.cell? ⟨cb, 272, none⟩ = some (.bool false) := by have h := Core.ends C4.out; rw [← E3.out]; exact h
  have d15 : w4.cell? ⟨cb, 273, none⟩ = some (.bool false) := by have h := Core.anew C4.out; rw [← E4.out]; exact h
  have d10 := Core.next C4.out
  have f4 := C4.out.free
  clear c13 f2
  go_wp2_with fail
  go_ret
  have K5 := Keep.one w4 cb 268 (.int .i64 (-1))
  have hB := HB.out
  have hQ := HQB.out
  have s1 := N4.out.size
  have s2 := R4.out.size
  have s4 := K4.out.size
  have l1 := HC.out.lt
  have l2 := HQ.out.lt
  refine ⟨rfl, x, calls, got, all, cn', cx', gx', Core.setNext C4.out (-1), Q4.out.setO hne _, ?_, ⟨by rw [Nat.one_mul]; exact r2, by rw [Nat.one_mul]; exact r3⟩, ?_⟩
  · have t1 := R1.out.tight.mono (G := fun k => F k ∨ (w.heap.size ≤ k ∧ k < w2.heap.size)) (fun k hk => hk.1.elim (fun h => .inl h) (fun h => .inr ⟨by omega, hk.2⟩))
    have t2 := (t1.keep K4.out (by
      rintro k (h | h) (rfl | rfl)
      · exact hB h
      · exact hQ h
      · omega
      · omega)).keep K5 (by
      rintro k (h | h) rfl
      · exact hB h
      · omega)
    refine t2.mono ?_
    rintro k (h | h)
    · exact .inl h
    · exact .inr ⟨h.1, by simp; omega⟩
  · exact ((((Keep.refl (fun i => F i ∨ i = cb ∨ i = qb) w).new N4.out).trans R4.out (fun i _ h => .inl h)).trans K4.out (fun i _ h => .inr h)).trans K5 (fun i _ h => .inr (.inl h))

set_option maxRecDepth 100000 in
set_option maxHeartbeats 2000000 in
/-- end of a quiet program, or of a silent cycle: nothing is written. -/
theorem end_quiet (F : Nat → Prop) (cb qb wb : Nat) (cs : CS) (s : WS) (A : List Int) (cn : Nat) (cx gx lx wx : List Value) (w : World)
    (hc : Blk w cb (cs.cells cb) 82) (hwb : cs.wb = wb) (hqbe : cs.qb = qb) (hq : Blk w qb (queueL (.slice none 0 0)) 108)
    (h : WInv F w wb s A cn cx gx lx wx) (hF : ∀ k, F k → k < w.heap.size) (hcb : ¬ F cb) (hqb : ¬ F qb)
    (e1 : cs.quiet = true) (e3 : cs.ends = false) (e4 : cs.anew = false) :
    Calls Tryz.prog 26 #[.pointer (some ⟨cb, 0, none⟩)] w (EndPost F cb qb wb cs s A cn gx lx wx 0 w) := by
  have HC := hid hc
  have HW := hid hwb
  have HQE := hid hqbe
  have HQ := hid hq
  have H := hid h
  have HB := hid hcb
  have HQB := hid hqb
  have E3 := hid e3
  have E4 := hid e4
  have c4 : w.cell? ⟨cb, 4, none⟩ = some (.bool true) := by rw [← e1]; exact Core.quiet hc
  have c13 := Core.silent hc
  have f2 := hc.free
  clear hc hwb hqbe hq h hF hcb hqb e1 e3 e4
  go_enter Tryz.func26, Tryz.ntmps26
  go_wp2_with fail
  have C3 := hid (Core.setSilent HC.out false)
  have hne : qb ≠ cb := fun e => by subst e; exact absurd (Blk.inj HC.out HQ.out).2 (by decide)
  have Q3 := hid (HQ.out.setO (a := ⟨cb, 271, none⟩) hne (.bool false))
  refine (flush_empty cb qb wb _ Q3.out (by have h := Core.wb C3.out; rw [← HW.out]; exact h) (by have h := Core.qb C3.out; rw [← HQE.out]; exact h) hne).mono ?_
  rintro e w3 ⟨rfl, q, rfl⟩
  have C4 := hid ((C3.out.setO (a := ⟨qb, 1, none⟩) (fun e => hne e.symm) (.slice none 0 0)).drewN q)
  have Q4 := hid ((Q3.out.set 1 (.slice none 0 0)).drewN q)
  have K4 := hid (((Keep.one w cb 271 (.bool false)).mono (G := fun i => i = cb ∨ i = qb) (fun i _ h => .inl h)).trans ((Keep.one (w.setCell ⟨cb, 271, none⟩ (.bool false)) qb 1 (.slice none 0 0)).drewN q) (fun i _ h => .inr h))
  generalize ((w.setCell ⟨cb, 271, none⟩ (.bool false)).setCell ⟨qb, 1, none⟩ (.slice none 0 0)).drewN q = w4 at *
  have d14 : w4.cell? ⟨cb, 272, none⟩ = some (.bool false) := by have h := Core.ends C4.out; rw [← E3.out]; exact h
  have d15 : w4.cell? ⟨cb, 273, none⟩ = some (.bool false) := by have h := Core.anew C4.out; rw [← E4.out]; exact h
  have d10 := Core.next C4.out
  have f4 := C4.out.free
  clear c13 f2
  go_wp2_with fail
  go_ret
  have K5 := Keep.one w4 cb 268 (.int .i64 (-1))
  have hB := HB.out
  have hQ := HQB.out
  refine ⟨rfl, s.sum, s.calls, s.got, s.all, cn, cx, gx, Core.setNext C4.out (-1), Q4.out.setO hne _, ?_, ⟨by omega, by omega⟩, ?_⟩
  · have t2 := (H.out.keep K4.out (by
      rintro k h (rfl | rfl)
      · exact hB h
      · exact hQ h)).keep K5 (by
      rintro k h rfl
      exact hB h)
    rw [show s.outs + ((0 : Nat) : Int) = s.outs from by simp]
    exact t2.mono (fun k h => .inl h)
  · exact (K4.out.mono (G := fun i => F i ∨ i = cb ∨ i = qb) (fun i _ h => .inr h)).trans K5 (fun i _ h => .inr (.inl h))

end Go.Proofs.YtaelokmcmflmiaaGreatDoor
