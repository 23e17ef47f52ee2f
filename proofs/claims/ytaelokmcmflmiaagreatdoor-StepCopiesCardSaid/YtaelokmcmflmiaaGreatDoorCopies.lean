/-
  The law StepCopies: its walk.
-/
import Derived.Test.YtaelokmcmflmiaaGreatDoorWorks
namespace Go.Proofs.YtaelokmcmflmiaaGreatDoor
open Go.RowKit

/-- The law's two rows, in new memory. -/
structure Two (w0 w : World) (ov tv : Value) (xs ys : List Int) : Prop where
  o : w.ownsRow 0 5 1 ov xs.length (U8 xs)
  t : w.ownsRow 0 5 1 tv ys.length (U8 ys)
  fo : ∀ k, ov.ownBlock = some k → w0.heap.size ≤ k
  ft : ∀ k, tv.ownBlock = some k → w0.heap.size ≤ k
  ne : ∀ k, ov.ownBlock = some k → tv.ownBlock ≠ some k
  b : Below w0.heap.size w0 w

theorem Two.alloc {w0 w : World} {ov tv : Value} {xs ys : List Int} (h : Two w0 w ov tv xs ys) (o : Obj) : Two w0 (w.alloc o) ov tv xs ys :=
  { h with
    o := ownsRow_keep (F := fun _ => False) h.o ((Keep.refl _ w).alloc o) (fun _ _ f => f)
    t := ownsRow_keep (F := fun _ => False) h.t ((Keep.refl _ w).alloc o) (fun _ _ f => f)
    b := h.b.alloc h.b.size o }
theorem Two.pushO {w0 w w' : World} {ov tv ov' : Value} {xs ys xs' : List Int} (h : Two w0 w ov tv xs ys) (ho : w'.ownsRow 0 5 1 ov' xs'.length (U8 xs')) (hg : w.grownBy w' ov.ownBlock) (hb : ∀ k, ov'.ownBlock = some k → ov.ownBlock = some k ∨ w.heap.size ≤ k) : Two w0 w' ov' tv xs' ys :=
  { o := ho
    t := row_kept h.t hg (fun k e f => h.ne k e f)
    fo := fun k e => (hb k e).elim (h.fo k) (fun f => Nat.le_trans h.b.size f)
    ft := h.ft
    ne := fun k e f => (hb k e).elim (fun g => h.ne k g f) (fun g => by have := (h.t.lt k f).2; omega)
    b := h.b.grown hg h.b.size (fun k e => h.fo k e) }
theorem Two.pushT {w0 w w' : World} {ov tv tv' : Value} {xs ys ys' : List Int} (h : Two w0 w ov tv xs ys) (ho : w'.ownsRow 0 5 1 tv' ys'.length (U8 ys')) (hg : w.grownBy w' tv.ownBlock) (hb : ∀ k, tv'.ownBlock = some k → tv.ownBlock = some k ∨ w.heap.size ≤ k) : Two w0 w' ov tv' xs ys' :=
  { o := row_kept h.o hg (fun k e f => h.ne k f e)
    t := ho
    fo := h.fo
    ft := fun k e => (hb k e).elim (h.ft k) (fun f => Nat.le_trans h.b.size f)
    ne := fun k e f => (hb k f).elim (fun g => h.ne k e g) (fun g => by have := (h.o.lt k e).2; omega)
    b := h.b.grown hg h.b.size (fun k e => h.ft k e) }

/-- What a world has kept, at the end. -/
def AllIs (H : Nat → Prop) (w : World) (wb : Nat) (A : List Int) : Prop := ∃ v, w.cell? ⟨wb, 19, none⟩ = some v ∧ Sl w v (U8 A) ∧ H wb ∧ ∀ k, v.ownBlock = some k → H k
theorem AllIs.keep {H G : Nat → Prop} {w w' : World} {wb : Nat} {A : List Int} (h : AllIs H w wb A) (hk : Keep G w w') (hd : ∀ k, H k → ¬ G k) : AllIs H w' wb A := by
  obtain ⟨v, h1, h2, h3, h4⟩ := h
  exact ⟨v, (World.cell?_of_block (w := w) (hk.block wb (block_lt_of_cell h1) (hd _ h3))).trans h1, h2.keep hk (fun k e => hd _ (h4 k e)), h3, h4⟩
theorem Ph.all {G0 : Nat → Prop} {w0 w : World} {p : Pl} {n : Nat} {quiet : Bool} {R : List (List Int)} {lines : Value} {N : Nat} (h : Ph G0 w0 p n quiet R lines N (-2) w) (hn : n = 0 ∨ n = 1) : AllIs (Got G0 w0 w) w p.wb (outs n quiet R) ∧ Keep G0 w0 w := by
  obtain ⟨F, cs, P, x, hs, hk, _, _, _, _, _, k, _, _, _, hph⟩ := h
  have hA : x.A = outs n quiet R := by
    rcases hph with ⟨_, h, _⟩ | ⟨j, _, _, _, ⟨_, _, h, _⟩ | ⟨_, h, _⟩⟩ | ⟨_, _, _, h⟩
    · cases h
    · cases h
    · rcases hn with rfl | rfl <;> omega
    · exact h
  obtain ⟨ao, c, hv, hcs, _, _, hno⟩ := Cs.of_row hs.world.all
  refine ⟨⟨x.s.all, hs.world.blk.cell 19 rfl, ?_, hs.fg _ hs.world.fb, fun k e => hs.fg _ (hs.world.fall k e)⟩, hk⟩
  rw [hv, hA] at *
  exact ⟨ao, c, by rw [U8_len], by rw [U8_len]; exact hno, hcs⟩

theorem outs_quiet (R : List (List Int)) : outs 1 true R = outs 0 false R := by
  unfold outs
  congr 1
  refine List.map_congr_left (fun P _ => ?_)
  simp [outL]
theorem own_keep {wb lo hi : Nat} {w w1 w2 : World} {B : Nat} (hb : Below B w w1) (hk : Keep (Own wb lo hi) w1 w2) (hB : B ≤ wb) (hlo : B ≤ lo) (hs : B ≤ w1.heap.size) : Below B w w2 :=
  hb.trans ⟨hk.os, hk.tape, hk.output, hk.size, fun i hi' => hk.block i (by omega) (fun h => by rcases h with h | h <;> omega)⟩

theorem outs_le (n : Nat) (quiet : Bool) (R : List (List Int)) (j : Nat) : (outs n quiet (R.take j)).length ≤ 2 * sumL R := by
  refine Nat.le_trans (outs_len n quiet (R.take j)) ?_
  have : ∀ (R : List (List Int)) (j : Nat), ((R.take j).map (fun P => P.length + 1)).sum ≤ (R.map (fun P => P.length + 1)).sum := by
    intro R
    induction R with
    | nil => intro j; simp
    | cons P R ih =>
      intro j
      cases j with
      | zero => simp
      | succ j => have := ih j; simp only [List.take_succ_cons, List.map_cons, List.sum_cons]; omega
  have := this R j
  unfold sumL
  omega

set_option maxRecDepth 100000 in
set_option maxHeartbeats 1000000 in
theorem copies_long (L : Nat → Prop) (ao : Option Addr) (lc : Nat) (R : List (List Int)) (w : World) (hl : Lines L w (.slice ao R.length lc) R) (hT : 2147483647 < sumL R) (hR : R.length ≤ 140737488355328) (hrow : ∀ P ∈ R, P.length ≤ 140737488355328) :
    Calls Tryz.prog 3 #[.slice ao R.length lc] w fun e w' => e = .returned (.bool true) ∧ Below w.heap.size w w' := by
  have H := hid (long_yes L ao lc R)
  have HL := hid hl
  have HR := hid hrow
  clear hl hrow
  go_enter Tryz.func3, Tryz.ntmps3
  go_wp2_with fail
  refine (H.out _ (HL.out.keep ((Keep.refl (fun _ => False) w).alloc _) (fun _ _ f => f)) hT hR HR.out).mono ?_
  rintro e w1 ⟨rfl, b1⟩
  go_wp2_with fail
  go_ret
  exact ⟨rfl, bel1 b1⟩

set_option maxRecDepth 100000 in
set_option maxHeartbeats 4000000 in
theorem copies_any (L : Nat → Prop) (ao : Option Addr) (lc : Nat) (R : List (List Int)) (w : World) (hl : Lines L w (.slice ao R.length lc) R) (hL : ∀ k, L k → k < w.heap.size) (hnil : ∀ (lb lo k n c : Nat), ao = some ⟨lb, lo, none⟩ → k < R.length → w.cell? ⟨lb, lo + k, none⟩ = some (.slice none n c) → c = 0) (hT : sumL R ≤ 2147483647) :
    Calls Tryz.prog 3 #[.slice ao R.length lc] w fun e w' => e = .returned (.bool true) ∧ Below w.heap.size w w' := by
  have HL := hid hl
  have HLT := hid hL
  have HT := hid hT
  have HN := hid hnil
  have hR : R.length ≤ 2147483647 := by have := cnt_le R 0; rw [cnt_zero] at this; omega
  obtain ⟨i0, hi, hz0, hz1, hz2⟩ := info_parts info_u8
  clear hl hL hT hnil
  go_enter Tryz.func3, Tryz.ntmps3
  go_wp2_with fail
  refine (long_no L ao lc R _ (HL.out.keep ((Keep.refl (fun _ => False) w).alloc _) (fun _ _ f => f)) HT.out).mono ?_
  rintro e w1 ⟨rfl, b1⟩
  have B1 := hid (bel1 b1)
  clear b1
  go_wp2_with fail
  go_loopw [4, 5, 6] (fun ov tv i wr => ∃ j : Nat, j ≤ R.length ∧ i = .int .i64 j ∧ Hid (∀ k P, k < j → R[k]? = some P → P.length ≤ 1048576) ∧ Hid (Two w wr ov tv (outs 0 false (R.take j)) (outs 1 false (R.take j)))) (fun _ _ i _ => R.length - (intOf i).toNat)
  case atStart =>
    refine ⟨0, by omega, rfl, hid (fun k P h => by omega), hid ?_⟩
    exact { o := World.ownsRow_nil _ _ _ _, t := World.ownsRow_nil _ _ _ _, fo := (fun k e => by cases e), ft := (fun k e => by cases e), ne := (fun k e => by cases e), b := B1.out }
  case round =>
    obtain ⟨j, hj, rfl, hjl, htw⟩ := hrel
    by_cases hlt : j < R.length
    · obtain ⟨lb, lo, ro, c, h1, h2, h3, h4, h5⟩ : ∃ lb lo ro c, ao = some ⟨lb, lo, none⟩ ∧ L lb ∧ w.cell? ⟨lb, lo + j, none⟩ = some (.slice ro R[j].length c) ∧ (∀ a, ro = some a → R[j] ≠ [] → L a.block) ∧ Cs w ro (U8 R[j]) := by
        obtain ⟨ao', lc', hv, h⟩ := HL.out
        cases hv
        exact h j _ (List.getElem?_eq_getElem hlt)
      subst h1
      have hblt : lb < w.heap.size := HLT.out lb h2
      have hc : wr.cell? ⟨lb, lo + j, none⟩ = some (.slice ro R[j].length c) := (htw.out.b.cell (p := ⟨lb, lo + j, none⟩) hblt).trans h3
      by_cases hbig : R[j].length ≤ 1048576
      · have ht : decide ((1048576 : Int) < (R[j].length : Int)) = false := by simp; omega
        have hno : ro = none → R[j].length = 0 ∧ c = 0 := fun e => by
          subst e
          refine ⟨?_, HN.out lb lo j _ c rfl hlt h3⟩
          cases hr : R[j] with
          | nil => rfl
          | cons a t => rw [hr] at h5; obtain ⟨b, off, e, _⟩ := h5 0 (.int .u8 a) rfl; cases e
        have HCC := hid (show w.cell? ⟨lb, lo + j, none⟩ = some (.slice ro R[j].length c) from h3)
        have HC := hid (fun W (hb : Below w.heap.size w W) => h5.below hb)
        have HO := hid hno
        have la := outs_le 0 false R j
        have lt := outs_le 1 false R j
        have lT := HT.out
        obtain ⟨A0, hA0⟩ : ∃ A0, A0 = outs 0 false (R.take j) := ⟨_, rfl⟩
        obtain ⟨Y0, hY0⟩ : ∃ Y0, Y0 = outs 1 false (R.take j) := ⟨_, rfl⟩
        obtain ⟨P, hP⟩ : ∃ P, P = R[j] := ⟨_, rfl⟩
        rw [← hA0] at htw la
        rw [← hY0] at htw lt
        rw [← hP] at hc hbig ht HC HO HCC
        have EA := hid hA0
        have EY := hid hY0
        have EP := hid hP
        clear h2 h3 h4 h5 hno hA0 hY0 hP
        obtain ⟨A1, E1, l1⟩ : ∃ A1, Hid (A1 = A0 ++ P) ∧ A1.length ≤ A0.length + P.length := ⟨_, hid rfl, by simp⟩
        obtain ⟨A2, E2, l2⟩ : ∃ A2, Hid (A2 = A1 ++ [10]) ∧ A2.length ≤ A1.length + 1 := ⟨_, hid rfl, by simp⟩
        obtain ⟨Y1, E3, l3⟩ : ∃ Y1, Hid (Y1 = Y0 ++ P) ∧ Y1.length ≤ Y0.length + P.length := ⟨_, hid rfl, by simp⟩
        obtain ⟨Y2, E4, l4⟩ : ∃ Y2, Hid (Y2 = Y1 ++ [10]) ∧ Y2.length ≤ Y1.length + 1 := ⟨_, hid rfl, by simp⟩
        obtain ⟨Y3, E5, l5⟩ : ∃ Y3, Hid (Y3 = Y2 ++ P) ∧ Y3.length ≤ Y2.length + P.length := ⟨_, hid rfl, by simp⟩
        obtain ⟨Y4, E6, l6⟩ : ∃ Y4, Hid (Y4 = Y3 ++ [10]) ∧ Y4.length ≤ Y3.length + 1 := ⟨_, hid rfl, by simp⟩
        go_wp2_with fail
        refine wp_loop_rounds 4 ?_
        rw [rounds_succ]
        go_wp2_with (first | (at_builtin; refine wpList_append_row _ rfl (.tmp 43) (.tmp 47) 33 rfl 5 i0 (.int .u8 0) 1 1 Tryz.underlying33 hi hz0 hz1 hz2 rfl (by decide) u4 A0.length (U8 A0) rfl htw.out.o ro P.length c (U8 P) rfl (by rw [U8_len]; omega) HO.out (HC.out _ htw.out.b) (U8_one _) (by unfold maxLen; omega) (by omega) A1.length (U8 A1) (by rw [E1.out]; simp) (by rw [E1.out]; simp [U8]) ?_; intro av1a cv1a w1a h1 h2 h3; have T1a := hid (htw.out.pushO h1 h2 h3); clear h1 h2 h3) | (at_builtin; refine wpList_append_row _ rfl (.tmp 49) (.tmp 50) 33 rfl 5 i0 (.int .u8 0) 1 1 Tryz.underlying33 hi hz0 hz1 hz2 rfl (by decide) (.slice av1a A1.length cv1a) A1.length (U8 A1) rfl (T1a.out.alloc _).o (some ⟨w1a.heap.size, 0, none⟩) 1 1 ([.int .u8 10]) rfl rfl (fun h => by cases h) (one_new _ _ _) (by intro u hu; simp at hu; subst hu; rfl) (by unfold maxLen; omega) (by omega) A2.length (U8 A2) (by rw [E2.out]; simp) (by rw [E2.out]; simp [U8]) ?_; intro av1b cv1b w1b h1 h2 h3; have T1b := hid ((T1a.out.alloc _).pushO h1 h2 h3); clear h1 h2 h3))
        have hc2 : w1b.cell? ⟨lb, lo + j, none⟩ = some (.slice ro P.length c) := (T1b.out.b.cell (p := ⟨lb, lo + j, none⟩) hblt).trans HCC.out
        rw [rounds_succ]
        go_wp2_with (first | (at_builtin; refine wpList_append_row _ rfl (.tmp 52) (.tmp 56) 33 rfl 5 i0 (.int .u8 0) 1 1 Tryz.underlying33 hi hz0 hz1 hz2 rfl (by decide) u5 Y0.length (U8 Y0) rfl T1b.out.t ro P.length c (U8 P) rfl (by rw [U8_len]; omega) HO.out (HC.out _ T1b.out.b) (U8_one _) (by unfold maxLen; omega) (by omega) Y1.length (U8 Y1) (by rw [E3.out]; simp) (by rw [E3.out]; simp [U8]) ?_; intro av2a cv2a w2a h1 h2 h3; have T2a := hid (T1b.out.pushT h1 h2 h3); clear h1 h2 h3) | (at_builtin; refine wpList_append_row _ rfl (.tmp 58) (.tmp 59) 33 rfl 5 i0 (.int .u8 0) 1 1 Tryz.underlying33 hi hz0 hz1 hz2 rfl (by decide) (.slice av2a Y1.length cv2a) Y1.length (U8 Y1) rfl (T2a.out.alloc _).t (some ⟨w2a.heap.size, 0, none⟩) 1 1 ([.int .u8 10]) rfl rfl (fun h => by cases h) (one_new _ _ _) (by intro u hu; simp at hu; subst hu; rfl) (by unfold maxLen; omega) (by omega) Y2.length (U8 Y2) (by rw [E4.out]; simp) (by rw [E4.out]; simp [U8]) ?_; intro av2b cv2b w2b h1 h2 h3; have T2b := hid ((T2a.out.alloc _).pushT h1 h2 h3); clear h1 h2 h3))
        have hc3 : w2b.cell? ⟨lb, lo + j, none⟩ = some (.slice ro P.length c) := (T2b.out.b.cell (p := ⟨lb, lo + j, none⟩) hblt).trans HCC.out
        rw [rounds_succ]
        go_wp2_with (first | (at_builtin; refine wpList_append_row _ rfl (.tmp 52) (.tmp 56) 33 rfl 5 i0 (.int .u8 0) 1 1 Tryz.underlying33 hi hz0 hz1 hz2 rfl (by decide) (.slice av2b Y2.length cv2b) Y2.length (U8 Y2) rfl T2b.out.t ro P.length c (U8 P) rfl (by rw [U8_len]; omega) HO.out (HC.out _ T2b.out.b) (U8_one _) (by unfold maxLen; omega) (by omega) Y3.length (U8 Y3) (by rw [E5.out]; simp) (by rw [E5.out]; simp [U8]) ?_; intro av3a cv3a w3a h1 h2 h3; have T3a := hid (T2b.out.pushT h1 h2 h3); clear h1 h2 h3) | (at_builtin; refine wpList_append_row _ rfl (.tmp 58) (.tmp 59) 33 rfl 5 i0 (.int .u8 0) 1 1 Tryz.underlying33 hi hz0 hz1 hz2 rfl (by decide) (.slice av3a Y3.length cv3a) Y3.length (U8 Y3) rfl (T3a.out.alloc _).t (some ⟨w3a.heap.size, 0, none⟩) 1 1 ([.int .u8 10]) rfl rfl (fun h => by cases h) (one_new _ _ _) (by intro u hu; simp at hu; subst hu; rfl) (by unfold maxLen; omega) (by omega) Y4.length (U8 Y4) (by rw [E6.out]; simp) (by rw [E6.out]; simp [U8]) ?_; intro av3b cv3b w3b h1 h2 h3; have T3b := hid ((T3a.out.alloc _).pushT h1 h2 h3); clear h1 h2 h3))
        rw [rounds_succ]
        go_wp2_with fail
        have hP' : R[j]? = some P := by rw [EP.out]; exact List.getElem?_eq_getElem hlt
        have eA : Hid (outs 0 false (R.take (j + 1)) = A2) := hid (by rw [outs_next 0 false R j P hP', E2.out, E1.out, EA.out]; simp [outL])
        have eY : Hid (outs 1 false (R.take (j + 1)) = Y4) := hid (by rw [outs_next 1 false R j P hP', E6.out, E5.out, E4.out, E3.out, EY.out]; simp [outL])
        go_roundw
        case rel =>
          refine ⟨j + 1, by omega, by go_num, hid (fun k Q hk hQ => ?_), hid (by rw [eA.out, eY.out]; exact T3b.out)⟩
          by_cases e : k < j
          · exact hjl.out k Q e hQ
          · obtain rfl : k = j := by omega
            rw [hP'] at hQ
            cases hQ
            exact hbig
        case measure => simp [intOf]; omega
      · have ht : decide ((1048576 : Int) < (R[j].length : Int)) = true := by simp; omega
        clear h2 h3 h4 h5
        go_wp2_with fail
        refine (works_any _).mono ?_
        rintro e w2 ⟨rfl, b2⟩
        go_wp2_with fail
        go_ret
        exact ⟨rfl, htw.out.b.trans (b2.mono htw.out.b.size)⟩
    · obtain rfl : j = R.length := by omega
      have hlen := hid (fun k P (h : R[k]? = some P) => hjl.out k P (List.getElem?_eq_some_iff.1 h).1 h)
      rw [List.take_length] at htw
      clear hlt hjl hj
      go_wp2_with fail
      generalize hw3 : World.alloc (World.alloc (World.alloc wr _) _) _ = w3
      have HB := hid (p := w.heap.size ≤ wr.heap.size) htw.out.b.size
      have VA := hid (show Blk w3 wr.heap.size (ws0 (.slice ao R.length lc) true).cells 42 by rw [← hw3]; exact ((Blk.new wr (ws0 (.slice ao R.length lc) true).cells _).alloc _).alloc _)
      have VB := hid (show Blk w3 (wr.heap.size + 1) (ws0 (.slice ao R.length lc) true).cells 42 by rw [← hw3]; exact (Blk.newAt (by simp) (ws0 (.slice ao R.length lc) true).cells _).alloc _)
      have VC := hid (show Blk w3 (wr.heap.size + 1 + 1) (ws0 (.slice ao R.length lc) true).cells 42 by rw [← hw3]; exact Blk.newAt (by simp) (ws0 (.slice ao R.length lc) true).cells _)
      have TW := hid (show Two w w3 u4 u5 (outs 0 false R) (outs 1 false R) by rw [← hw3]; exact ((htw.out.alloc _).alloc _).alloc _)
      have TLO := hid (show (∀ k, u4.ownBlock = some k → k < wr.heap.size) ∧ (∀ k, u5.ownBlock = some k → k < wr.heap.size) from ⟨fun k e => (htw.out.o.lt k e).2, fun k e => (htw.out.t.lt k e).2⟩)
      have Z3 := hid (show w3.heap.size = wr.heap.size + 3 by rw [← hw3]; simp)
      clear hw3 htw B1
      generalize hwa : wr.heap.size = wa at *
      generalize hwb : wa + 1 = wb at *
      generalize hwc : wb + 1 = wc at *
      refine (prints_any w3).mono ?_
      rintro e w4 ⟨ab, tb, rfl, r4, c4, b4, hab, htb⟩
      have RA := hid r4
      have TB := hid c4
      have lab : ab < w4.heap.size := block_lt_of_cell (by have := r4 0 _ cmdP_is.c0; simpa using this)
      have ltb : tb < w4.heap.size := block_lt_of_cell c4
      have VA4 := hid (VA.out.below b4 VA.out.lt)
      have VB4 := hid (VB.out.below b4 VB.out.lt)
      have VC4 := hid (VC.out.below b4 VC.out.lt)
      have Z4 := hid b4.size
      have B4 := hid (TW.out.b.trans (b4.mono TW.out.b.size))
      have K4 := hid (Keep.of_below (F := fun _ => False) b4)
      clear r4 c4 b4 VA VB VC hab htb
      go_wp2_with fail
      generalize hw5 : World.alloc w4 _ = w5
      have X5 := hid (show Blk w5 w4.heap.size [.slice (some ⟨ab, 0, none⟩) 1 1, .slice (some ⟨tb, 0, none⟩) 1 1, .slice none 0 0, .bool true] 32 by rw [← hw5]; exact Blk.new w4 [.slice (some ⟨ab, 0, none⟩) 1 1, .slice (some ⟨tb, 0, none⟩) 1 1, .slice none 0 0, .bool true] _)
      have b5 : Below w4.heap.size w4 w5 := by rw [← hw5]; exact (Below.refl _ _).alloc (Nat.le_refl _) _
      have RA5 := hid (show w5.rangeAt ab 0 cmdP by rw [← hw5]; exact World.rangeAt_alloc RA.out _)
      have TB5 := hid ((b5.cell (p := ⟨tb, 0, none⟩) ltb).trans TB.out)
      have VA5 := hid (VA4.out.below b5 VA4.out.lt)
      have VB5 := hid (VB4.out.below b5 VB4.out.lt)
      have VC5 := hid (VC4.out.below b5 VC4.out.lt)
      have Z5 := hid b5.size
      have B5 := hid (B4.out.trans (b5.mono B4.out.size))
      have K5 := hid (K4.out.trans (Keep.of_below (F := fun _ => False) b5) (fun _ _ f => f))
      have Q5 := hid X5.out.lt
      clear hw5 b5 RA TB VA4 VB4 VC4 B4 K4
      generalize hqx : w4.heap.size = qx at *
      refine (New_nil_sys false wa _ true w5 VA5.out).mono ?_
      rintro e w6 ⟨p1, cs1, rfl, b6, hp1, H1, S1⟩
      have X6 := hid (X5.out.below b6 X5.out.lt)
      have RA6 := hid (show w6.rangeAt ab 0 cmdP from fun j v hv => (b6.cell (p := ⟨ab, 0 + j, none⟩) (by show ab < _; have := Q5.out; omega)).trans (RA5.out j v hv))
      have TB6 := hid ((b6.cell (p := ⟨tb, 0, none⟩) (by show tb < _; have := Q5.out; omega)).trans TB5.out)
      have VB6 := hid (VB5.out.below b6 VB5.out.lt)
      have VC6 := hid (VC5.out.below b6 VC5.out.lt)
      have Z6 := hid b6.size
      have B6 := hid (B5.out.trans (b6.mono B5.out.size))
      have K6 := hid (K5.out.trans (Keep.of_below (F := fun _ => False) b6) (fun _ _ f => f))
      clear b6 X5 RA5 TB5 VA5 VB5 VC5 B5 K5
      go_wp2_with fail
      refine (prints_any w6).mono ?_
      rintro e w7 ⟨ab2, tb2, rfl, r7, c7, b7, _, _⟩
      have RB7 := hid r7
      have TB27 := hid c7
      have X7 := hid (X6.out.below b7 X6.out.lt)
      have RA7 := hid (show w7.rangeAt ab 0 cmdP from fun j v hv => (b7.cell (p := ⟨ab, 0 + j, none⟩) (by show ab < _; have := Q5.out; have := Z6.out; omega)).trans (RA6.out j v hv))
      have TB7 := hid ((b7.cell (p := ⟨tb, 0, none⟩) (by show tb < _; have := Q5.out; have := Z6.out; omega)).trans TB6.out)
      have VB7 := hid (VB6.out.below b7 VB6.out.lt)
      have VC7 := hid (VC6.out.below b7 VC6.out.lt)
      have Z7 := hid b7.size
      have B7 := hid (B6.out.trans (b7.mono B6.out.size))
      have K7 := hid (K6.out.trans (Keep.of_below (F := fun _ => False) b7) (fun _ _ f => f))
      have S17 := hid (S1.out.keep (Keep.of_below (F := fun _ => False) b7) (fun _ _ f => f))
      clear r7 c7 b7 X6 RA6 TB6 VB6 VC6 B6 K6 S1
      go_wp2_with fail
      refine (New_p_sys false wb _ true ab2 1 tb2 1 cmdP w7 VB7.out cmdP_is RB7.out TB27.out).mono ?_
      rintro e w8 ⟨p2, cs2, rfl, b8, hp2, H2, S2⟩
      have X8 := hid (X7.out.below b8 X7.out.lt)
      have RA8 := hid (show w8.rangeAt ab 0 cmdP from fun j v hv => (b8.cell (p := ⟨ab, 0 + j, none⟩) (by show ab < _; have := Q5.out; have := Z6.out; have := Z7.out; omega)).trans (RA7.out j v hv))
      have TB8 := hid ((b8.cell (p := ⟨tb, 0, none⟩) (by show tb < _; have := Q5.out; have := Z6.out; have := Z7.out; omega)).trans TB7.out)
      have VC8 := hid (VC7.out.below b8 VC7.out.lt)
      have Z8 := hid b8.size
      have B8 := hid (B7.out.trans (b8.mono B7.out.size))
      have K8 := hid (K7.out.trans (Keep.of_below (F := fun _ => False) b8) (fun _ _ f => f))
      have S18 := hid (S17.out.keep (Keep.of_below (F := fun _ => False) b8) (fun _ _ f => f))
      clear b8 X7 RA7 TB7 VB7 VC7 B7 K7 S17 RB7 TB27
      have x0 := X8.out.cell 0 rfl
      have x1 := X8.out.cell 1 rfl
      have x2 := X8.out.cell 2 rfl
      have x3 := X8.out.cell 3 rfl
      go_wp2_with fail
      clear x0 x1 x2 x3
      refine (New_p_sys true wc _ true ab 1 tb 1 cmdP w8 VC8.out cmdP_is RA8.out TB8.out).mono ?_
      rintro e w9 ⟨p3, cs3, rfl, b9, hp3, H3, S3⟩
      have Z9 := hid b9.size
      have B9 := hid (B8.out.trans (b9.mono B8.out.size))
      have K9 := hid (K8.out.trans (Keep.of_below (F := fun _ => False) b9) (fun _ _ f => f))
      have S19 := hid (S18.out.keep (Keep.of_below (F := fun _ => False) b9) (fun _ _ f => f))
      have S29 := hid (S2.out.keep (Keep.of_below (F := fun _ => False) b9) (fun _ _ f => f))
      clear b9 X8 RA8 TB8 VC8 B8 K8 S18 S2
      go_wp2_with fail
      have L9 := hid (HL.out.keep (Keep.of_below (F := fun _ => False) B9.out) (fun _ _ f => f))
      have DL : Hid (∀ k, L k → k < wa ∧ k < w5.heap.size ∧ k < w7.heap.size ∧ k < w8.heap.size ∧ k < w9.heap.size) := hid (fun k hk => by
        have := HLT.out k hk; have := HB.out; have := Z3.out; have := Z4.out; have := Z5.out; have := Z6.out; have := Z7.out; have := Z8.out; have := Z9.out; omega)
      have NL1 : Hid (∀ k, L k → ¬ Own wa w5.heap.size w6.heap.size k) := hid (fun k hk ho => by have := DL.out k hk; rcases ho with h | h <;> omega)
      have NL2 : Hid (∀ k, L k → ¬ Own wb w7.heap.size w8.heap.size k) := hid (fun k hk ho => by have := DL.out k hk; rcases ho with h | h <;> omega)
      have NL3 : Hid (∀ k, L k → ¬ Own wc w8.heap.size w9.heap.size k) := hid (fun k hk ho => by have := DL.out k hk; rcases ho with h | h <;> omega)
      have N12 : Hid (∀ k, Own wb w7.heap.size w8.heap.size k → ¬ Own wa w5.heap.size w6.heap.size k) := hid (fun k ho ho' => by
        have := Z3.out; have := Z4.out; have := Z5.out; have := Z6.out; have := Z7.out; have := Z8.out; rcases ho with h | h <;> rcases ho' with h' | h' <;> omega)
      have N13 : Hid (∀ k, Own wc w8.heap.size w9.heap.size k → ¬ Own wa w5.heap.size w6.heap.size k) := hid (fun k ho ho' => by
        have := Z3.out; have := Z4.out; have := Z5.out; have := Z6.out; have := Z7.out; have := Z8.out; rcases ho with h | h <;> rcases ho' with h' | h' <;> omega)
      have N23 : Hid (∀ k, Own wc w8.heap.size w9.heap.size k → ¬ Own wb w7.heap.size w8.heap.size k) := hid (fun k ho ho' => by
        have := Z3.out; have := Z4.out; have := Z5.out; have := Z6.out; have := Z7.out; have := Z8.out; rcases ho with h | h <;> rcases ho' with h' | h' <;> omega)
      have LA : Hid (∀ k, Own wa w5.heap.size w6.heap.size k → k < w9.heap.size ∧ wa ≤ k) := hid (fun k ho => by
        have := Z3.out; have := Z4.out; have := Z5.out; have := Z6.out; have := Z7.out; have := Z8.out; have := Z9.out; rcases ho with h | h <;> omega)
      have LB : Hid (∀ k, Own wb w7.heap.size w8.heap.size k → k < w9.heap.size ∧ wa ≤ k) := hid (fun k ho => by
        have := Z3.out; have := Z4.out; have := Z5.out; have := Z6.out; have := Z7.out; have := Z8.out; have := Z9.out; rcases ho with h | h <;> omega)
      have LC : Hid (∀ k, Own wc w8.heap.size w9.heap.size k → k < w9.heap.size ∧ wa ≤ k) := hid (fun k ho => by
        have := Z3.out; have := Z4.out; have := Z5.out; have := Z6.out; have := Z7.out; have := Z8.out; have := Z9.out; rcases ho with h | h <;> omega)
      have hsum : Hid ((R.map (fun P => P.length + 1)).sum ≤ 2147483647) := HT
      have SA : Hid (Sl w9 u4 (U8 (outs 0 false R))) := hid ((Sl.of_row TW.out.o).keep K9.out (fun _ _ f => f))
      have SB : Hid (Sl w9 u5 (U8 (outs 1 false R))) := hid ((Sl.of_row TW.out.t).keep K9.out (fun _ _ f => f))
      clear TW K9 HN HLT HL lab ltb
      have P1 : Ph (Own wa w5.heap.size w6.heap.size) w9 p1 0 false R (.slice ao R.length lc) 0 (-1) w9 := Ph.start R (by rw [hp1]; exact S19.out) H1.out.1 H1.out.2.1 H1.out.2.2
      have T1 := run_any _ L w9 p1 0 false R _ ((0 + 2) * R.length + 1) (3 * R.length + 3) P1 (.inl rfl) L9.out NL1.out (fun k hk => (DL.out k hk).2.2.2.2) hsum.out hlen.out rfl (by omega) (by omega)
      rw [hp1] at T1
      refine T1.mono ?_
      clear T1 P1
      rintro e w10 ⟨rfl, q1⟩
      have A10 := hid (q1.all (.inl rfl)).1
      have k10 := (q1.all (.inl rfl)).2
      have B10 := hid (own_keep B9.out k10 HB.out (by have := B9.out.size; have := HB.out; have := Z3.out; have := Z4.out; have := Z5.out; omega) B9.out.size)
      have L10 := hid (L9.out.keep k10 NL1.out)
      have S210 := hid (S29.out.keep k10 N12.out)
      have S310 := hid (S3.out.keep k10 N13.out)
      have SA10 := hid (SA.out.keep k10 (fun k e ho => by have := (LA.out k ho).2; have := TLO.out.1 k e; omega))
      have SB10 := hid (SB.out.keep k10 (fun k e ho => by have := (LA.out k ho).2; have := TLO.out.2 k e; omega))
      have Z10 := hid k10.size
      clear q1 k10 B9 L9 S29 S3 SA SB S19
      go_wp2_with fail
      have P2 : Ph (Own wb w7.heap.size w8.heap.size) w10 p2 1 false R (.slice ao R.length lc) 0 (-1) w10 := Ph.start R (by rw [hp2]; exact S210.out) H2.out.1 H2.out.2.1 H2.out.2.2
      have T2 := run_any _ L w10 p2 1 false R _ ((1 + 2) * R.length + 1) (3 * R.length + 3) P2 (.inr rfl) L10.out NL2.out (fun k hk => Nat.lt_of_lt_of_le (DL.out k hk).2.2.2.2 Z10.out) hsum.out hlen.out rfl (by omega) (by omega)
      rw [hp2] at T2
      refine T2.mono ?_
      clear T2 P2
      rintro e w11 ⟨rfl, q2⟩
      have C11 := hid (q2.all (.inr rfl)).1
      have k11 := (q2.all (.inr rfl)).2
      have A11 := hid (A10.out.keep k11 (fun k hk ho => hk.elim (fun h => N12.out k ho h) (fun h => by have := (LB.out k ho).1; omega)))
      have B11 := hid (own_keep B10.out k11 (by have := HB.out; omega) (by have := HB.out; have := Z3.out; have := Z4.out; have := Z5.out; have := Z6.out; have := Z7.out; omega) B10.out.size)
      have L11 := hid (L10.out.keep k11 NL2.out)
      have S311 := hid (S310.out.keep k11 N23.out)
      have SA11 := hid (SA10.out.keep k11 (fun k e ho => by have := (LB.out k ho).2; have := TLO.out.1 k e; omega))
      have SB11 := hid (SB10.out.keep k11 (fun k e ho => by have := (LB.out k ho).2; have := TLO.out.2 k e; omega))
      have Z11 := hid k11.size
      clear q2 k11 A10 B10 L10 S210 S310 SA10 SB10
      go_wp2_with fail
      have P3 : Ph (Own wc w8.heap.size w9.heap.size) w11 p3 1 true R (.slice ao R.length lc) 0 (-1) w11 := Ph.start R (by rw [hp3]; exact S311.out) H3.out.1 H3.out.2.1 H3.out.2.2
      have T3 := run_any _ L w11 p3 1 true R _ ((1 + 2) * R.length + 1) (3 * R.length + 3) P3 (.inr rfl) L11.out NL3.out (fun k hk => by have := (DL.out k hk).2.2.2.2; have := Z10.out; have := Z11.out; omega) hsum.out hlen.out rfl (by omega) (by omega)
      rw [hp3] at T3
      refine T3.mono ?_
      clear T3 P3
      rintro e w12 ⟨rfl, q3⟩
      have D12 := hid (q3.all (.inr rfl)).1
      have k12 := (q3.all (.inr rfl)).2
      have A12 := hid (A11.out.keep k12 (fun k hk ho => hk.elim (fun h => N13.out k ho h) (fun h => by have := (LC.out k ho).1; omega)))
      have C12 := hid (C11.out.keep k12 (fun k hk ho => hk.elim (fun h => N23.out k ho h) (fun h => by have := (LC.out k ho).1; have := Z10.out; omega)))
      have B12 := hid (own_keep B11.out k12 (by have := HB.out; omega) (by have := HB.out; have := Z3.out; have := Z4.out; have := Z5.out; have := Z6.out; have := Z7.out; have := Z8.out; omega) B11.out.size)
      have SA12 := hid (SA11.out.keep k12 (fun k e ho => by have := (LC.out k ho).2; have := TLO.out.1 k e; omega))
      have SB12 := hid (SB11.out.keep k12 (fun k e ho => by have := (LC.out k ho).2; have := TLO.out.2 k e; omega))
      clear q3 k12 A11 C11 B11 L11 S311 SA11 SB11
      obtain ⟨v1, g1, s1, _, _⟩ := A12.out
      obtain ⟨v2, g2, s2, _, _⟩ := C12.out
      obtain ⟨v3, g3, s3, _, _⟩ := D12.out
      rw [hp1] at g1
      rw [hp2] at g2
      rw [hp3] at g3
      rw [outs_quiet] at s3
      have G2 := hid g2
      have G3 := hid g3
      have E1 := hid s1
      have E2 := hid s2
      have E3 := hid s3
      have lo := outs_le 0 false R R.length
      have lt := outs_le 1 false R R.length
      rw [List.take_length] at lo lt
      have lT := HT.out
      have HO : Hid ((outs 0 false R).length ≤ 1099511627776) := hid (by omega)
      have HT1 : Hid ((outs 1 false R).length ≤ 1099511627776) := hid (by omega)
      clear A12 C12 D12 g2 g3 s1 s2 s3 lo lt lT
      go_wp2_with fail
      refine (EqBytes_any v1 u4 _ _ w12 E1.out SA12.out HO.out).mono ?_
      rintro e w13 ⟨rfl, qa, rfl⟩
      have g2 := G2.out
      go_wp2_with fail
      refine (EqBytes_any v2 u5 _ _ (w12.drewN qa) (E2.out.below (below_drewN (Below.refl _ _) qa)) (SB12.out.below (below_drewN (Below.refl _ _) qa)) HT1.out).mono ?_
      rintro e w14 ⟨rfl, qb, rfl⟩
      have g3 := G3.out
      go_wp2_with fail
      refine (EqBytes_any v3 u4 _ _ (w12.drewN (qa + qb)) (E3.out.below (below_drewN (Below.refl _ _) _)) (SA12.out.below (below_drewN (Below.refl _ _) _)) HO.out).mono ?_
      rintro e w15 ⟨rfl, qc, rfl⟩
      go_wp2_with fail
      refine (works_any _).mono ?_
      rintro e w16 ⟨rfl, b16⟩
      have B16 := hid ((below_drewN B12.out _).trans (b16.mono B12.out.size))
      clear b16
      go_wp2_with fail
      go_ret
      exact ⟨rfl, B16.out⟩

end Go.Proofs.YtaelokmcmflmiaaGreatDoor
