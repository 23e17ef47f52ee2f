/-
  Contracts: galleyref00.EqBytes, CopyBytes.
-/
import Derived.Test.YtaelokmcmflmiaaGreatDoorSmall
namespace Go.Proofs.YtaelokmcmflmiaaGreatDoor
open Go.RowKit

theorem U8_get (ys : List Int) (k : Nat) (h : k < ys.length) : (U8 ys)[k]? = some (.int .u8 (ys.getD k 0)) := by
  simp [U8, List.getD, List.getElem?_eq_getElem h]

theorem take_next (xs ys : List Int) (k : Nat) (ha : k < xs.length) (hb : k < ys.length) (h : xs.take k = ys.take k) (e : xs.getD k 0 = ys.getD k 0) : xs.take (k + 1) = ys.take (k + 1) := by
  rw [List.take_succ_eq_append_getElem ha, List.take_succ_eq_append_getElem hb, h]
  simp [List.getD, List.getElem?_eq_getElem ha, List.getElem?_eq_getElem hb] at e
  rw [e]

set_option maxHeartbeats 800000 in
theorem EqBytes_pos (b off b' off' n c c' : Nat) (xs ys : List Int) (w : World) (ha : xs.length = n) (hb : ys.length = n) (hca : Cs w (some ⟨b, off, none⟩) (U8 xs)) (hcb : Cs w (some ⟨b', off', none⟩) (U8 ys)) (hn : n ≤ 1099511627776) :
    Calls Tryz.prog 9 #[.slice (some ⟨b, off, none⟩) n c, .slice (some ⟨b', off', none⟩) n c'] w fun e w' => e = .returned (.bool (decide (xs = ys))) ∧ ∃ q, w' = w.drewN q := by
  have HA := hid ha
  have HB := hid hb
  have CA := hid hca
  have CB := hid hcb
  clear ha hb hca hcb
  go_enter Tryz.func9, Tryz.ntmps9
  go_wp2
  go_loopw [5] (fun i wr => ∃ k q : Nat, k ≤ n ∧ i = .int .i64 k ∧ Hid (xs.take k = ys.take k) ∧ Hid (wr = w.drewN q)) (fun i _ => n - (intOf i).toNat)
  case atStart => exact ⟨0, 0, by omega, rfl, by simp [Hid], rfl⟩
  case round =>
    obtain ⟨k, q, hk, rfl, ht, hw⟩ := hrel
    have hw' := hw.out
    subst hw'
    clear hw
    by_cases hlt : k < n
    · have ca := CA.out.cell k (U8_get xs k (by rw [HA.out]; exact hlt))
      have cb := CB.out.cell k (U8_get ys k (by rw [HB.out]; exact hlt))
      obtain ⟨x, hx⟩ : ∃ x, x = xs.getD k 0 := ⟨_, rfl⟩
      obtain ⟨y, hy⟩ : ∃ y, y = ys.getD k 0 := ⟨_, rfl⟩
      rw [← hx] at ca
      rw [← hy] at cb
      have HX := hid hx
      have HY := hid hy
      clear hx hy
      by_cases hxy : x = y
      · have e0 : (x != y) = false := by simp [hxy]
        have HE := hid hxy
        clear hxy
        go_wp2
        go_quiet (fail)
        go_wp2
        go_roundw
        case rel => exact ⟨k + 1, _, by omega, by go_num, take_next xs ys k (by rw [HA.out]; exact hlt) (by rw [HB.out]; exact hlt) ht.out (by rw [← HX.out, ← HY.out]; exact HE.out), rfl⟩
        case measure => simp [intOf]; omega
      · have e0 : (x != y) = true := by simp [hxy]
        have HE := hid hxy
        clear hxy
        go_wp2
        go_quiet (fail)
        go_wp2
        go_ret
        refine ⟨?_, q + nq, by simp⟩
        have : ¬ xs = ys := fun h => HE.out (by rw [HX.out, HY.out, h])
        simp [this]
    · have hkn : Hid (k = n) := by show k = n; omega
      go_wp2
      go_ret
      refine ⟨?_, _, rfl⟩
      have h1 := ht.out
      rw [List.take_of_length_le (by rw [HA.out, hkn.out]; omega), List.take_of_length_le (by rw [HB.out, hkn.out]; omega)] at h1
      simp [h1]

set_option maxHeartbeats 400000 in
theorem EqBytes_zero (ao bo : Option Addr) (c c' : Nat) (w : World) :
    Calls Tryz.prog 9 #[.slice ao 0 c, .slice bo 0 c'] w fun e w' => e = .returned (.bool true) ∧ w = w' := by
  go_enter Tryz.func9, Tryz.ntmps9
  go_wp2
  refine wp_loop_rounds 1 ?_
  rw [rounds_succ]
  go_wp2
  go_ret
  exact ⟨rfl, rfl⟩

set_option maxHeartbeats 400000 in
theorem EqBytes_len (ao bo : Option Addr) (n m c c' : Nat) (w : World) (h : n ≠ m) :
    Calls Tryz.prog 9 #[.slice ao n c, .slice bo m c'] w fun e w' => e = .returned (.bool false) ∧ w = w' := by
  have h' : ((n : Int) != (m : Int)) = true := by simp; omega
  go_enter Tryz.func9, Tryz.ntmps9
  go_wp2
  go_ret
  exact ⟨rfl, rfl⟩

/-- EqBytes of two slices that read. -/
theorem EqBytes_any (v v' : Value) (xs ys : List Int) (w : World) (h : Sl w v (U8 xs)) (h' : Sl w v' (U8 ys)) (hn : xs.length ≤ 1099511627776) :
    Calls Tryz.prog 9 #[v, v'] w fun e w' => e = .returned (.bool (decide (xs = ys))) ∧ ∃ q, w' = w.drewN q := by
  obtain ⟨ao, c, rfl, h1, h2⟩ := h
  obtain ⟨bo, c', rfl, h3, h4⟩ := h'
  by_cases hl : xs.length = ys.length
  · by_cases h0 : xs.length = 0
    · have ea : xs = [] := List.eq_nil_of_length_eq_zero h0
      have eb : ys = [] := List.eq_nil_of_length_eq_zero (by omega)
      subst ea; subst eb
      exact (EqBytes_zero ao bo c c' w).mono fun e w' ⟨a, b⟩ => ⟨by simpa using a, 0, b.symm⟩
    · obtain ⟨b, off, rfl, _⟩ := h2 0 _ (U8_get xs 0 (by omega))
      obtain ⟨b', off', rfl, _⟩ := h4 0 _ (U8_get ys 0 (by omega))
      rw [U8_len, U8_len, ← hl]
      exact EqBytes_pos b off b' off' xs.length c c' xs ys w rfl hl.symm h2 h4 hn
  · refine (EqBytes_len ao bo _ _ c c' w (by rw [U8_len, U8_len]; exact hl)).mono fun e w' ⟨a, b⟩ => ⟨?_, 0, b.symm⟩
    have : ¬ xs = ys := fun h => hl (by rw [h])
    simpa [this] using a

set_option maxHeartbeats 400000 in
theorem CopyBytes_any (ao : Option Addr) (n c : Nat) (ys : List Int) (w : World) (hn : n = ys.length) (hno : ao = none → n = 0 ∧ c = 0) (hc : Cs w ao (U8 ys)) (hbig : n ≤ 1099511627776) :
    Calls Tryz.prog 230 #[.slice ao n c] w fun e w' => ∃ v, e = .returned v ∧ NewSl w w' v (U8 ys) := by
  obtain ⟨i0, hi, hz0, hz1, hz2⟩ := info_parts info_u8
  have HC := hid hc
  have HN := hid hn
  have HO := hid hno
  clear hc hn hno
  go_enter Tryz.func230, Tryz.ntmps230
  go_wp2_with (at_builtin; refine wpList_append_row _ rfl (.tmp 4) (.tmp 5) 33 rfl 5 i0 (.int .u8 0) 1 1 Tryz.underlying33 hi hz0 hz1 hz2 rfl (by decide) (.slice none 0 0) 0 [] rfl (World.ownsRow_nil _ _ _ _) ao n c (U8 ys) rfl (by rw [HN.out, U8_len]; omega) HO.out HC.out (U8_one ys) (by unfold maxLen; omega) (by omega) n (U8 ys) (by omega) (by simp) ?_; intro av2 cv2 w2 h1 h2 h3; have O2 := hid h1; have G2 := hid h2; have B2 := hid h3; clear h1 h2 h3)
  go_ret
  refine ⟨_, rfl, NewSl.of_row O2.out (fun k hk => ?_) ?_⟩
  · rcases B2.out k hk with h | h
    · cases h
    · exact h
  · exact (Below.refl _ w).grown G2.out (Nat.le_refl _) (by intro k hk; cases hk)

end Go.Proofs.YtaelokmcmflmiaaGreatDoor
