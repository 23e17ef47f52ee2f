/-
  Contract: galleyref00.WideBytes: a copy with 64 marks behind it.
-/
import Derived.Test.YtaelokmcmflmiaaGreatDoorEq
namespace Go.Proofs.YtaelokmcmflmiaaGreatDoor
open Go.RowKit

theorem Blk.of_full {w : World} {B g e n : Nat} {xs : List Value} (h : w.ownsRow B e 1 (.slice (some ⟨g, 0, none⟩) n n) n xs) : Blk w g xs e := by
  obtain ⟨h1, h2⟩ := h
  rcases h2 with ⟨h2, _⟩ | ⟨g', cap, cur, hv, hb, hg, hnc, hm, hs, ht⟩
  · cases h2
  · simp only [Value.slice.injEq, Option.some.injEq, Addr.mk.injEq, and_true, true_and] at hv
    obtain ⟨rfl, rfl⟩ := hv
    unfold Blk
    rw [List.take_of_length_le (by simp [hs])] at ht
    rw [hg, ← ht]

/-- The byte that stands as a mark at a place. -/
def markB (i : Nat) : Int := IntKind.u8.wrap (279 + 7 * (i : Int) + 3)
def marks (n : Nat) : List Int := (List.range' n 64).map markB
def wide (bs : List Int) : List Int := bs ++ marks bs.length
theorem wide_len (bs : List Int) : (wide bs).length = bs.length + 64 := by simp [wide, marks]
theorem wide_lo (bs : List Int) (k : Nat) (h : k < bs.length) : (wide bs).getD k 0 = bs.getD k 0 := by
  simp [wide, List.getD, List.getElem?_append_left h]
theorem wide_hi (bs : List Int) (k : Nat) (h : ¬ k < bs.length) (h' : k < bs.length + 64) : (wide bs).getD k 0 = markB k := by
  unfold wide marks List.getD
  rw [List.getElem?_append_right (by omega), List.getElem?_map, List.getElem?_range' (by omega)]
  simp only [Option.map_some, Option.getD_some, Nat.one_mul]
  rw [show bs.length + (k - bs.length) = k from by omega]

/-- The row of WideBytes after k rounds. -/
def wrow (full : List Int) (m k : Nat) : List Value := U8 (full.take k) ++ List.replicate (m - k) (.int .u8 0)
theorem wrow_set (full : List Int) (m k : Nat) (hk : k < m) (hm : full.length = m) {x : Int} (hx : x = full.getD k 0) : (wrow full m k).set k (.int .u8 x) = wrow full m (k + 1) := by
  unfold wrow
  rw [List.take_succ_eq_append_getElem (by omega)]
  have e : m - k = (m - (k + 1)) + 1 := by omega
  rw [e, List.replicate_succ]
  have hl : (U8 (full.take k)).length = k := by rw [U8_len]; simp; omega
  rw [List.set_append_right _ _ (by omega), hl]
  subst hx
  simp only [U8, Nat.sub_self, List.set_cons_zero, List.map_append, List.map_cons, List.map_nil, List.append_assoc, List.cons_append, List.nil_append, List.getD, List.getElem?_eq_getElem (show k < full.length by omega), Option.getD_some]
theorem wrow_get (full : List Int) (m k : Nat) (hk : k < m) (hm : full.length = m) : (wrow full m k)[k]? = some (.int .u8 0) := by
  unfold wrow
  have hl : (U8 (full.take k)).length = k := by rw [U8_len]; simp; omega
  rw [List.getElem?_append_right (by omega), hl, Nat.sub_self]
  rw [show m - k = (m - (k + 1)) + 1 from by omega, List.replicate_succ]
  rfl

set_option maxHeartbeats 800000 in
theorem WideBytes_any (ao : Option Addr) (n c : Nat) (bs : List Int) (w : World) (hn : n = bs.length) (hc : Cs w ao (U8 bs)) (hbig : n ≤ 1099511627776) :
    Calls Tryz.prog 235 #[.slice ao n c] w fun e w' => ∃ g, e = .returned (.slice (some ⟨g, 0, none⟩) n (n + 64)) ∧ w.heap.size ≤ g ∧ Blk w' g (U8 (wide bs)) 5 ∧ Below w.heap.size w w' := by
  obtain ⟨i0, hi, hz0, hz1, hz2⟩ := info_parts info_u8
  have HC := hid hc
  have HN := hid hn
  obtain ⟨m, hm⟩ : ∃ m, m = n + 64 := ⟨_, rfl⟩
  have HM := hid hm
  have hnm : n + 64 ≤ m := by omega
  have hmb : m ≤ 1099511627840 := by omega
  have HW : Hid ((wide bs).length = m) := by show _ = _; rw [wide_len, ← hn]; exact hm.symm
  clear hc hn hm
  go_enter Tryz.func235, Tryz.ntmps235
  go_wp2_with (at_make; refine wpList_make_full _ rfl _ _ 33 rfl 0 5 i0 (.int .u8 0) 1 Tryz.underlying33 hi hz0 hz1 .i64 .i64 _ _ m rfl rfl (by rw [HM.out]; omega) (by rw [HM.out]; omega) (by rw [hz2]; omega) (by unfold maxLen; omega) (Nat.zero_le _) ?_; intro w1 h1 h2; have O1 := hid h1; have G1 := hid h2; clear h1 h2)
  obtain ⟨g, hg⟩ : ∃ g, g = w.heap.size := ⟨_, rfl⟩
  have HG := hid hg
  rw [← hg]
  have B1 : Hid (Blk w1 g (wrow (wide bs) m 0) 5) := by
    show Blk _ _ _ _
    have h := O1.out
    rw [← hg] at h
    have h2 := Blk.of_full h
    simp only [Value.cells, toList_madeCells_one, Nat.mul_one] at h2
    simpa [wrow, U8] using h2
  have K1 : Hid (Below g w w1) := by
    show Below _ _ _
    exact (Below.refl _ w).grown G1.out (by rw [HG.out]; exact Nat.le_refl _) (by intro k h; cases h)
  clear O1 G1 hg
  go_loopw [4] (fun i wr => ∃ k : Nat, k ≤ m ∧ i = .int .i64 k ∧ Hid (Blk wr g (wrow (wide bs) m k) 5) ∧ Hid (Below g w wr)) (fun i _ => m - (intOf i).toNat)
  case atStart => exact ⟨0, by omega, rfl, B1, K1⟩
  case round =>
    obtain ⟨k, hk, rfl, hb, hw⟩ := hrel
    clear B1 K1
    by_cases hlt : k < m
    · have f0 := hb.out.free
      have c0 := hb.out.cell k (wrow_get _ _ _ hlt HW.out)
      by_cases hkn : k < n
      · obtain ⟨b, off, rfl, hcell⟩ := HC.out k _ (U8_get bs k (by rw [← HN.out]; exact hkn))
        have hcell' := (hw.out.cell (p := ⟨b, off + k, none⟩) (by rw [HG.out]; exact block_lt_of_cell hcell)).trans hcell
        clear hcell
        obtain ⟨x, hx⟩ : ∃ x, x = bs.getD k 0 := ⟨_, rfl⟩
        rw [← hx] at hcell'
        have HX := hid hx
        clear hx
        go_wp2
        go_roundw
        case rel =>
          refine ⟨k + 1, by omega, by go_num, ?_, ?_⟩
          · show Blk _ _ _ _
            rw [← wrow_set (wide bs) m k hlt HW.out (x := x) (by rw [wide_lo _ _ (by rw [← HN.out]; exact hkn)]; exact HX.out)]
            exact hb.out.set k _
          · exact hw.out.setCell (Nat.le_refl _) _
        case measure => simp [intOf]; omega
      · go_wp2
        go_roundw
        case rel =>
          refine ⟨k + 1, by omega, by go_num, ?_, ?_⟩
          · show Blk _ _ _ _
            have e := wrow_set (wide bs) m k hlt HW.out (x := markB k) (by rw [wide_hi _ _ (by rw [← HN.out]; exact hkn) (by rw [← HN.out, ← HM.out]; exact hlt)])
            rw [← e]
            exact hb.out.set k _
          · exact hw.out.setCell (Nat.le_refl _) _
        case measure => simp [intOf]; omega
    · have hkn : Hid (k = m) := by show k = m; omega
      go_wp2
      go_ret
      refine ⟨g, ?_, by rw [HG.out]; exact Nat.le_refl _, ?_, by rw [← HG.out]; exact hw.out⟩
      · show Ending.returned (.slice (some ⟨g, 0, none⟩) n m) = _
        rw [HM.out]
      · have h := hb.out
        rw [hkn.out] at h
        unfold wrow at h
        rw [List.take_of_length_le (by rw [HW.out]; exact Nat.le_refl _), Nat.sub_self] at h
        simpa using h

end Go.Proofs.YtaelokmcmflmiaaGreatDoor
