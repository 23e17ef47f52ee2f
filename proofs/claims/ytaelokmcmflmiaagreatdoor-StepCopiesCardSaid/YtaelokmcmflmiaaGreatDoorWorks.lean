/-
  The law's works: a line is written twice.
-/
import Derived.Test.YtaelokmcmflmiaaGreatDoorFresh
namespace Go.Proofs.YtaelokmcmflmiaaGreatDoor
open Go.RowKit

theorem turn_below {G F : Nat → Prop} {w w3 w4 : World} {lo : Nat} {p : Pl} {cs : CS} {n : Nat} {P : List Int} {x : WX} (hb : Below lo w w3) (h : Sys G F w3 p cs n P x) (hk : Keep (Turn F p) w3 w4) (hG : ∀ k, G k → lo ≤ k) : Below lo w w4 :=
  hb.trans ⟨hk.os, hk.tape, hk.output, hk.size, fun i hi => hk.block i (Nat.lt_of_lt_of_le hi (by have := hG _ h.g.1; have := h.m.lt; omega)) (fun ht => by have := hG _ (h.turn_g ht); omega)⟩
theorem mu_le (s : WS) : mu s ≤ 1 := by unfold mu; split <;> omega
theorem Sys.ats {G F : Nat → Prop} {w : World} {p : Pl} {cs : CS} {n : Nat} {P : List Int} {x : WX} (h : Sys G F w p cs n P x) :
    w.cell? ⟨p.mb, 0, none⟩ = some (.pointer (some ⟨p.cb, 0, none⟩)) ∧ w.cell? ⟨p.cb, 267, none⟩ = some (.int .i64 cs.at_) ∧ w.cell? ⟨p.cb, 269, none⟩ = some (.int .i64 cs.steps) :=
  ⟨h.m.cell 0 rfl, Core.pos h.core, Core.steps h.core⟩

set_option maxRecDepth 100000 in
set_option maxHeartbeats 2000000 in
theorem works_any (w : World) : Calls Tryz.prog 5 #[] w fun e w' => e = .returned (.bool true) ∧ Below w.heap.size w w' := by
  have hcv := Lib.run_convert_bytes_const (P := Tryz.prog) w 33 5 #[.int .u8 97, .int .u8 98] 2 2 Tryz.underlying33 Tryz.underlying5
  go_enter Tryz.func5, Tryz.ntmps5
  go_wp2_with fail
  clear hcv
  generalize hw1 : World.alloc _ (Obj.cells _ 42) = w1
  have B1 := hid (show Below w.heap.size w w1 by rw [← hw1]; exact (((Below.refl _ w).alloc (Nat.le_refl _) _).alloc (by simp) _).alloc (by simp; omega) _)
  have W1 := hid (show Blk w1 (w.heap.size + 1 + 1) (ws0 (.slice (some ⟨w.heap.size + 1, 0, none⟩) 1 1) false).cells 42 by rw [← hw1]; exact Blk.newAt (by simp) (ws0 (.slice (some ⟨w.heap.size + 1, 0, none⟩) 1 1) false).cells _)
  have L1 := hid (show Lines (fun k => k = w.heap.size ∨ k = w.heap.size + 1) w1 (.slice (some ⟨w.heap.size + 1, 0, none⟩) 1 1) [[97, 98]] by
    rw [← hw1]
    refine ⟨_, _, rfl, fun k r hk => ?_⟩
    match k, hk with
    | 0, hk =>
      simp at hk
      subst hk
      refine ⟨_, 0, some ⟨w.heap.size, 0, none⟩, 2, rfl, .inr rfl, ?_, fun a e _ => by cases e; exact .inl rfl, ?_⟩
      · exact ((Blk.newAt (w := w.alloc (.cells #[.int .u8 97, .int .u8 98] 5 (2, 3))) (by simp) [.slice (some ⟨w.heap.size, 0, none⟩) 2 2] 33).alloc _).cell 0 rfl
      · exact ((show Cs (w.alloc (.cells #[.int .u8 97, .int .u8 98] 5 (2, 3))) (some ⟨w.heap.size, 0, none⟩) (U8 [97, 98]) from fun j u hu => ⟨_, _, rfl, range_new w [.int .u8 97, .int .u8 98] 5 (2, 3) j u hu⟩).alloc _).alloc _)
  have z1 : w1.heap.size = w.heap.size + 3 := by rw [← hw1]; simp
  have z1 := hid z1
  clear hw1
  generalize hwb : w.heap.size + 1 + 1 = wb at *
  refine (prints_any w1).mono ?_
  rintro e w2 ⟨ab, tb, rfl, r2, c2, b2, hab, htb⟩
  have B2 := hid (B1.out.trans (b2.mono B1.out.size))
  have W2 := hid (W1.out.below b2 W1.out.lt)
  have L2 := hid (L1.out.keep (Keep.of_below (F := fun _ => False) b2) (fun _ _ f => f))
  have z2 := hid b2.size
  have R2 := hid r2
  have T2 := hid c2
  clear r2 c2 b2 B1 W1 L1
  go_wp2_with fail
  refine (New_p_sys false wb _ false ab 1 tb 1 cmdP w2 W2.out cmdP_is R2.out T2.out).mono ?_
  rintro e w3 ⟨p, cs, rfl, b3, hpw, H3, S3⟩
  have B3 := hid (B2.out.trans (b3.mono B2.out.size))
  have L3 := hid (L2.out.keep (Keep.of_below (F := fun _ => False) b3) (fun _ _ f => f))
  have z3 := hid b3.size
  have G3 : Hid (∀ k, Own wb w2.heap.size w3.heap.size k → w.heap.size + 2 ≤ k) := hid (fun k ho => by have h1 := z1.out; have h2 := z2.out; rcases ho with h | h <;> omega)
  clear b3 B2 W2 L2 R2 T2
  obtain ⟨a1, a2, a3⟩ := S3.out.ats
  rw [H3.out.2.1] at a2
  go_wp2_with fail
  refine (At_any p.mb p.cb (-1) w3 a1 a2).mono ?_
  rintro e w4 ⟨rfl, rfl⟩
  clear a1 a2 a3
  go_wp2_with fail
  refine wp_loop_rounds 5 ?_
  rw [rounds_succ]
  go_wp2_with fail
  obtain ⟨x3, hx3⟩ : ∃ x : WX, x = ⟨ws0 (.slice (some ⟨w.heap.size + 1, 0, none⟩) 1 1) false, [], 0, [], [], [], []⟩ := ⟨_, rfl⟩
  rw [← hx3] at S3
  have X3 : Hid (x3.s.lines = .slice (some ⟨w.heap.size + 1, 0, none⟩) 1 1 ∧ x3.s.n = 0 ∧ x3.s.outs = 0 ∧ x3.A = [] ∧ x3.cn = 0 ∧ x3.gx.length = 0 ∧ x3.lx.length = 0 ∧ x3.wx.length = 0) := hid (by rw [hx3]; exact ⟨rfl, rfl, rfl, rfl, rfl, rfl, rfl, rfl⟩)
  clear hx3
  have T3 := hid (Step_read _ _ _ p cs 1 [] x3 [[97, 98]] 0 [97, 98] w3 S3.out H3.out.2.1 (by rw [X3.out.1]; exact L3.out) (fun k hk ho => by have := G3.out k ho; omega) (fun k hk => by have h1 := z1.out; have h2 := z2.out; have h3 := z3.out; omega) X3.out.2.1 rfl (by decide) (by decide)
    (by have h := X3.out; have := mu_le x3.s; exact ⟨by omega, by omega, by omega, by omega⟩))
  refine T3.out.mono ?_
  rintro e w4 ⟨rfl, F4, cs4, x4, S4', f4, K4, r4⟩
  have S4 := hid S4'
  have B4 := hid (turn_below B3.out S3.out K4 (fun k hk => by have := G3.out k hk; omega))
  have L4 := hid (L3.out.keep K4 (fun k hk ht => by have := G3.out k (S3.out.turn_g ht); omega))
  have G4 : Hid (∀ k, Got (Own wb w2.heap.size w3.heap.size) w3 w4 k → w.heap.size + 2 ≤ k) := hid (fun k ho => ho.elim (G3.out k) (fun h => by have h1 := z1.out; have h2 := z2.out; have h3 := z3.out; omega))
  have R4 := hid r4
  have z4 := hid K4.size
  clear S4' f4 K4 r4
  clear T3
  go_wp2_with fail
  rw [rounds_succ]
  go_wp2_with fail
  have T4 := hid (Step_cmd _ _ p cs4 [97, 98] x4 _ _ _ (R4.out.2.2.2.1.trans X3.out.1) w4 S4.out R4.out.1 (by have := R4.out.2.1; have := H3.out.2.2; omega) (by
    obtain ⟨r1, r2, r3, r4, r5, r6, r7, r8, r9, r10, r11, r12⟩ := R4.out
    have h := X3.out; have := mu_le x3.s
    exact ⟨by rw [r7]; omega, by omega, by omega, by rw [r8, h.2.2.2.1]; decide⟩))
  refine T4.out.mono ?_
  rintro e w5 ⟨rfl, F5, cs5, x5, S5', f5, K5, r5⟩
  have S5 := hid S5'
  have B5 := hid (turn_below B4.out S4.out K5 (fun k hk => by have := G4.out k hk; omega))
  have L5 := hid (L4.out.keep K5 (fun k hk ht => by have := G4.out k (S4.out.turn_g ht); omega))
  have G5 : Hid (∀ k, Got (Got (Own wb w2.heap.size w3.heap.size) w3 w4) w4 w5 k → w.heap.size + 2 ≤ k) := hid (fun k ho => ho.elim (G4.out k) (fun h => by have h1 := z1.out; have h2 := z2.out; have h3 := z3.out; have h4 := z4.out; omega))
  have R5 := hid r5
  have z5 := hid K5.size
  clear S5' f5 K5 r5 T4
  go_wp2_with fail
  rw [rounds_succ]
  go_wp2_with fail
  have T5 := hid (Step_end _ _ p cs5 1 [97, 98] x5 1 [97, 98, 10, 97, 98, 10] (.inr ⟨R5.out.2.2.1.trans (R4.out.2.2.1.trans H3.out.1), rfl, by rw [R5.out.2.2.2.2.2.2.2.1, R4.out.2.2.2.2.2.2.2.1, X3.out.2.2.2.1]; rfl⟩) w5 S5.out R5.out.1 (by
    obtain ⟨r1, r2, r3, r4, r5, r6, r7, r8, r9, r10, r11, r12⟩ := R4.out
    obtain ⟨q1, q2, q3, q4, q5, q6, q7, q8, q9, q10, q11, q12⟩ := R5.out
    have h := X3.out; have := mu_le x3.s; have := mu_le x4.s
    exact ⟨by rw [q7, r7]; omega, by omega, by omega, by rw [q8, r8, h.2.2.2.1]; decide⟩))
  refine T5.out.mono ?_
  rintro e w6 ⟨rfl, F6, cs6, x6, S6', f6, K6, r6⟩
  have S6 := hid S6'
  have B6 := hid (turn_below B5.out S5.out K6 (fun k hk => by have := G5.out k hk; omega))
  have L6 := hid (L5.out.keep K6 (fun k hk ht => by have := G5.out k (S5.out.turn_g ht); omega))
  have G6 : Hid (∀ k, Got (Got (Got (Own wb w2.heap.size w3.heap.size) w3 w4) w4 w5) w5 w6 k → w.heap.size + 2 ≤ k) := hid (fun k ho => ho.elim (G5.out k) (fun h => by have h1 := z1.out; have h2 := z2.out; have h3 := z3.out; have h4 := z4.out; have h5 := z5.out; omega))
  have R6 := hid r6
  have z6 := hid K6.size
  clear S6' f6 K6 r6 T5
  go_wp2_with fail
  rw [rounds_succ]
  go_wp2_with fail
  have T6 := hid (Step_none _ _ _ p cs6 1 [97, 98] x6 [[97, 98]] 1 w6 S6.out R6.out.1 (by rw [R6.out.2.2.2.1, R5.out.2.2.2.1, R4.out.2.2.2.1, X3.out.1]; exact L6.out) (fun k hk ho => by have := G6.out k ho; omega) (by rw [R6.out.2.2.2.2.2.1, R5.out.2.2.2.2.2.1, R4.out.2.2.2.2.2.1]; rfl) (by decide) (by
    obtain ⟨r1, r2, r3, r4, r5, r6, r7, r8, r9, r10, r11, r12⟩ := R4.out
    obtain ⟨q1, q2, q3, q4, q5, q6, q7, q8, q9, q10, q11, q12⟩ := R5.out
    obtain ⟨p1, p2, p3, p4, p5, p6, p7, p8, p9, p10, p11, p12⟩ := R6.out
    have h := X3.out; have := mu_le x3.s; have := mu_le x4.s; have := mu_le x5.s
    exact ⟨by omega, by omega⟩))
  refine T6.out.mono ?_
  rintro e w7 ⟨rfl, F7, cs7, x7, S7', f7, K7, r7⟩
  have S7 := hid S7'
  have B7 := hid (turn_below B6.out S6.out K7 (fun k hk => by have := G6.out k hk; omega))
  have R7 := hid r7
  have st : Hid (cs7.steps = 1) := hid (by rw [r7.2.1, R6.out.2.1, R5.out.2.1, R4.out.2.1, H3.out.2.2]; rfl)
  have hA : Hid (x7.A = [97, 98, 10, 97, 98, 10]) := hid (by rw [r7.2.2.2.2.2.1, R6.out.2.2.2.2.2.2.2.1])
  clear S7' f7 K7 r7 T6
  obtain ⟨a1, a2, a3⟩ := S7.out.ats
  rw [R7.out.1] at a2
  rw [st.out] at a3
  clear L3 L4 L5 L6 G3 G4 G5 G6 S3 S4 S5 S6 R4 R5 R6 B3 B4 B5 B6 z1 z2 z3 z4 z5 z6 H3 X3
  go_wp2_with fail
  rw [rounds_succ]
  go_wp2_with fail
  refine (At_any p.mb p.cb (-2) w7 a1 a2).mono ?_
  rintro e w8 ⟨rfl, rfl⟩
  go_wp2_with fail
  refine (Steps_any p.mb p.cb 1 w7 a1 a3).mono ?_
  rintro e w8 ⟨rfl, rfl⟩
  obtain ⟨ao, ac, hall, hcs, _, _, hno⟩ := Cs.of_row S7.out.world.all
  rw [hA.out] at hall hcs hno
  have c19 : w7.cell? ⟨wb, 19, none⟩ = some (.slice ao 6 ac) := by rw [← hpw, S7.out.world.blk.cell 19 rfl, hall]; rfl
  have hcv := Lib.run_convert_bytes_const (P := Tryz.prog) w7 33 5 #[.int .u8 97, .int .u8 98, .int .u8 10, .int .u8 97, .int .u8 98, .int .u8 10] 6 6 Tryz.underlying33 Tryz.underlying5
  have SA := hid (show Sl w7 (.slice ao 6 ac) (U8 [97, 98, 10, 97, 98, 10]) from ⟨ao, ac, rfl, hno, hcs⟩)
  clear hall hcs hno
  go_wp2_with fail
  clear hcv c19 a1 a2 a3
  generalize hw8 : World.alloc w7 _ = w8
  have SA8 := hid (show Sl w8 (.slice ao 6 ac) (U8 [97, 98, 10, 97, 98, 10]) by rw [← hw8]; exact SA.out.below ((Below.refl _ _).alloc (Nat.le_refl _) _))
  have SB8 := hid (show Sl w8 (.slice (some ⟨w7.heap.size, 0, none⟩) 6 6) (U8 [97, 98, 10, 97, 98, 10]) by
    rw [← hw8]; exact ⟨_, 6, rfl, (fun h => by cases h), fun j u hu => ⟨_, _, rfl, range_new w7 (U8 [97, 98, 10, 97, 98, 10]) 5 (6, 7) j u hu⟩⟩)
  have K8 := hid (show Below w7.heap.size w7 w8 by rw [← hw8]; exact (Below.refl _ _).alloc (Nat.le_refl _) _)
  clear hw8 SA
  refine (EqBytes_any _ _ _ _ w8 SA8.out SB8.out (by decide)).mono ?_
  rintro e w9 ⟨rfl, q, rfl⟩
  go_wp2_with fail
  obtain ⟨pat, hold, s1, s2, s3⟩ := S7.out.space
  have b9 : Below w7.heap.size w7 (w8.drewN q) := below_drewN K8.out q
  refine (MPattern_any p.mb p.cb p.sp pat hold 1048576 [97, 98] (w8.drewN q) ((b9.cell (p := ⟨p.mb, 0, none⟩) S7.out.m.lt).trans (S7.out.m.cell 0 rfl)) ((b9.cell (p := ⟨p.cb, 0, none⟩) S7.out.core.lt).trans (by rw [← S7.out.esp]; exact Core.sp S7.out.core)) (s1.below b9 s1.lt) (s2.below b9) (by decide)).mono ?_
  rintro e w10 ⟨v, rfl, n1, n2, n3⟩
  have B10 := hid (B7.out.trans ((b9.trans (n3.mono (by have := b9.size; exact this))).mono B7.out.size))
  have SP := hid n1
  clear s1 s2 s3 b9 n1 n2 n3 SA8 SB8 K8
  have hcv := Lib.run_convert_bytes_const (P := Tryz.prog) w10 33 5 #[.int .u8 97, .int .u8 98] 2 2 Tryz.underlying33 Tryz.underlying5
  go_wp2_with fail
  clear hcv
  generalize hw11 : World.alloc w10 _ = w11
  have SP11 := hid (show Sl w11 v (U8 [97, 98]) by rw [← hw11]; exact SP.out.below ((Below.refl _ _).alloc (Nat.le_refl _) _))
  have SB11 := hid (show Sl w11 (.slice (some ⟨w10.heap.size, 0, none⟩) 2 2) (U8 [97, 98]) by
    rw [← hw11]; exact ⟨_, 2, rfl, (fun h => by cases h), fun j u hu => ⟨_, _, rfl, range_new w10 (U8 [97, 98]) 5 (2, 3) j u hu⟩⟩)
  have B11 := hid (show Below w.heap.size w w11 by rw [← hw11]; exact B10.out.alloc B10.out.size _)
  clear hw11 SP
  refine (EqBytes_any _ _ _ _ w11 SP11.out SB11.out (by decide)).mono ?_
  rintro e w12 ⟨rfl, q', rfl⟩
  go_wp2_with fail
  go_ret
  exact ⟨rfl, below_drewN B11.out q'⟩

end Go.Proofs.YtaelokmcmflmiaaGreatDoor
