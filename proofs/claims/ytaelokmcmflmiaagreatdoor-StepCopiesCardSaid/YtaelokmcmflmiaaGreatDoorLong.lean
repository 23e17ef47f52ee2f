/-
  The law's helpers: Long, long of a row without files and the empty program, prints.
-/
import Derived.Test.YtaelokmcmflmiaaGreatDoorNew
namespace Go.Proofs.YtaelokmcmflmiaaGreatDoor
open Go.RowKit
attribute [local go_sem ↓] exec_ldCmd
attribute [local go_sem ↓] exec_stCmd
attribute [local go_sem ↓] exec_bsCmd

set_option maxHeartbeats 400000 in
theorem Long_no (n : Int) (w : World) (h : n ≤ 2147483647) : Calls Tryz.prog 11 #[.int .i64 n] w fun e w' => e = .returned (.bool false) ∧ w = w' := by
  have hd : decide (2147483647 < n) = false := by simpa using h
  have hd' : decide (n > 2147483647) = false := hd
  go_enter Tryz.func11, Tryz.ntmps11
  go_wp2
  go_ret
  exact ⟨rfl, rfl⟩
set_option maxHeartbeats 400000 in
theorem Long_yes (n : Int) (w : World) (h : 2147483647 < n) : Calls Tryz.prog 11 #[.int .i64 n] w fun e w' => e = .returned (.bool true) ∧ w = w' := by
  have hd : decide (2147483647 < n) = true := by simpa using h
  have hd' : decide (n > 2147483647) = true := hd
  go_enter Tryz.func11, Tryz.ntmps11
  go_wp2
  go_ret
  exact ⟨rfl, rfl⟩

def sumL (R : List (List Int)) : Nat := (R.map (fun P => P.length + 1)).sum
/-- What has been counted ahead of the k-th row. -/
def cnt (R : List (List Int)) (k : Nat) : Nat := R.length + ((R.take k).map List.length).sum
theorem cnt_zero (R : List (List Int)) : cnt R 0 = R.length := by simp [cnt]
theorem cnt_succ (R : List (List Int)) (k : Nat) (P : List Int) (h : R[k]? = some P) : cnt R (k + 1) = cnt R k + P.length := by
  obtain ⟨hk, rfl⟩ := List.getElem?_eq_some_iff.1 h
  unfold cnt
  rw [List.take_succ_eq_append_getElem hk]
  simp only [List.map_append, List.map_cons, List.map_nil, List.sum_append, List.sum_cons, List.sum_nil]
  omega
theorem cnt_le (R : List (List Int)) (k : Nat) : cnt R k ≤ sumL R := by
  have : ∀ (R : List (List Int)) (k : Nat), R.length + ((R.take k).map List.length).sum ≤ (R.map (fun P => P.length + 1)).sum := by
    intro R
    induction R with
    | nil => intro k; simp
    | cons P R ih =>
      intro k
      cases k with
      | zero => have := ih 0; simp only [List.take_zero, List.map_nil, List.sum_nil, List.map_cons, List.sum_cons, List.length_cons] at *; omega
      | succ k => have := ih k; simp only [List.take_succ_cons, List.map_cons, List.sum_cons, List.length_cons] at *; omega
  exact this R k
theorem cnt_all (R : List (List Int)) : cnt R R.length = sumL R := by
  unfold cnt sumL
  rw [List.take_length]
  induction R with
  | nil => rfl
  | cons P R ih => simp only [List.map_cons, List.sum_cons, List.length_cons] at *; omega

set_option maxRecDepth 100000 in
set_option maxHeartbeats 1000000 in
theorem long_no (L : Nat → Prop) (ao : Option Addr) (lc : Nat) (R : List (List Int)) (w : World) (hl : Lines L w (.slice ao R.length lc) R) (hT : sumL R ≤ 2147483647) :
    Calls Tryz.prog 4 #[.agg #[.slice ao R.length lc, .slice none 0 0, .int .i64 0, .int .i64 0, .bool false], .agg #[.slice none 0 0, .slice none 0 0, .slice none 0 0, .bool false]] w fun e w' => e = .returned (.bool false) ∧ Below w.heap.size w w' := by
  have HL := hid hl
  have HC := hid (fun k => Nat.le_trans (cnt_le R k) hT)
  have hR : R.length ≤ 2147483647 := by have := cnt_le R 0; rw [cnt_zero] at this; omega
  clear hl hT
  go_enter Tryz.func4, Tryz.ntmps4
  go_wp2_with fail
  go_loop [5, 6] (fun n i => ∃ k : Nat, k ≤ R.length ∧ i = .int .i64 k ∧ n = .int .i64 (cnt R k : Nat)) (fun _ i => R.length - (intOf i).toNat)
  case atStart => exact ⟨0, by omega, rfl, by rw [cnt_zero]⟩
  case round =>
    obtain ⟨k, hk, rfl, rfl⟩ := hrel
    have hck := HC.out k
    by_cases hlt : k < R.length
    · obtain ⟨lb, lo, ro, c, h1, h2, h3, h4, h5⟩ : ∃ lb lo ro c, ao = some ⟨lb, lo, none⟩ ∧ L lb ∧ w.cell? ⟨lb, lo + k, none⟩ = some (.slice ro R[k].length c) ∧ (∀ a, ro = some a → R[k] ≠ [] → L a.block) ∧ Cs w ro (U8 R[k]) := by
        obtain ⟨ao', lc', hv, h⟩ := HL.out
        cases hv
        exact h k _ (List.getElem?_eq_getElem hlt)
      subst h1
      have hlen : R[k].length ≤ 2147483647 := by have := HC.out (k + 1); rw [cnt_succ R k R[k] (List.getElem?_eq_getElem hlt)] at this; omega
      have hs := hid (cnt_succ R k R[k] (List.getElem?_eq_getElem hlt))
      have hblt : lb < w.heap.size := block_lt_of_cell h3
      have ht : decide ((cnt R k : Nat) < (2147483648 : Int)) = true := by simp; omega
      clear h2 h4 h5
      go_wp2_with fail
      go_round
      case rel => exact ⟨k + 1, by omega, by go_num, by rw [hs.out]; simp⟩
      case measure => simp [intOf]; omega
    · have hkn : k = R.length := by omega
      have hkn' := hid hkn
      have hd : decide ((k : Int) < (R.length : Int)) = false := by simp; omega
      clear hkn HL
      go_wp2_with fail
      refine wp_loop_rounds 1 ?_
      rw [rounds_succ]
      go_wp2_with fail
      refine wp_loop_rounds 1 ?_
      rw [rounds_succ]
      go_wp2_with fail
      refine (Long_no _ _ (by omega)).mono ?_
      rintro e w' ⟨rfl, rfl⟩
      go_wp2_with fail
      go_ret
      exact ⟨rfl, ((Below.refl _ w).alloc (Nat.le_refl _) _).alloc (by simp) _⟩

set_option maxRecDepth 100000 in
set_option maxHeartbeats 1000000 in
theorem long_yes (L : Nat → Prop) (ao : Option Addr) (lc : Nat) (R : List (List Int)) (w : World) (hl : Lines L w (.slice ao R.length lc) R) (hT : 2147483647 < sumL R) (hR : R.length ≤ 140737488355328) (hrow : ∀ P ∈ R, P.length ≤ 140737488355328) :
    Calls Tryz.prog 4 #[.agg #[.slice ao R.length lc, .slice none 0 0, .int .i64 0, .int .i64 0, .bool false], .agg #[.slice none 0 0, .slice none 0 0, .slice none 0 0, .bool false]] w fun e w' => e = .returned (.bool true) ∧ Below w.heap.size w w' := by
  have HL := hid hl
  have HT := hid hT
  have HW := hid hrow
  clear hl hT hrow
  go_enter Tryz.func4, Tryz.ntmps4
  go_wp2_with fail
  go_loop [5, 6] (fun n i => ∃ k : Nat, k ≤ R.length ∧ cnt R k ≤ 140737488355328 + 2147483648 ∧ i = .int .i64 k ∧ n = .int .i64 (cnt R k : Nat)) (fun _ i => R.length - (intOf i).toNat)
  case atStart => exact ⟨0, by omega, by rw [cnt_zero]; omega, rfl, by rw [cnt_zero]⟩
  case round =>
    obtain ⟨k, hk, hck, rfl, rfl⟩ := hrel
    by_cases hlt : k < R.length ∧ cnt R k < 2147483648
    · obtain ⟨hlt, hcs⟩ := hlt
      obtain ⟨lb, lo, ro, c, h1, h2, h3, h4, h5⟩ : ∃ lb lo ro c, ao = some ⟨lb, lo, none⟩ ∧ L lb ∧ w.cell? ⟨lb, lo + k, none⟩ = some (.slice ro R[k].length c) ∧ (∀ a, ro = some a → R[k] ≠ [] → L a.block) ∧ Cs w ro (U8 R[k]) := by
        obtain ⟨ao', lc', hv, h⟩ := HL.out
        cases hv
        exact h k _ (List.getElem?_eq_getElem hlt)
      subst h1
      have hlen : R[k].length ≤ 140737488355328 := HW.out _ (List.getElem_mem hlt)
      have hs := hid (cnt_succ R k R[k] (List.getElem?_eq_getElem hlt))
      have hblt : lb < w.heap.size := block_lt_of_cell h3
      have ht : decide ((cnt R k : Nat) < (2147483648 : Int)) = true := by simp; omega
      clear h2 h4 h5
      go_wp2_with fail
      go_round
      case rel => exact ⟨k + 1, by omega, by rw [hs.out]; omega, by go_num, by rw [hs.out]; simp⟩
      case measure => simp [intOf]; omega
    · have hbig : 2147483647 < cnt R k := by
        by_cases h : k < R.length
        · have : ¬ cnt R k < 2147483648 := fun h2 => hlt ⟨h, h2⟩
          omega
        · have hkn : k = R.length := by omega
          rw [hkn, cnt_all]; exact HT.out
      have ht : decide ((cnt R k : Nat) < (2147483648 : Int)) = false := by simp; omega
      clear hlt HL
      by_cases hkn : k < R.length
      all_goals
        go_wp2_with fail
        refine wp_loop_rounds 1 ?_
        rw [rounds_succ]
        go_wp2_with fail
        refine wp_loop_rounds 1 ?_
        rw [rounds_succ]
        go_wp2_with fail
        refine (Long_yes _ _ (by omega)).mono ?_
        rintro e w' ⟨rfl, rfl⟩
        go_wp2_with fail
        go_ret
        exact ⟨rfl, ((Below.refl _ w).alloc (Nat.le_refl _) _).alloc (by simp) _⟩

end Go.Proofs.YtaelokmcmflmiaaGreatDoor
