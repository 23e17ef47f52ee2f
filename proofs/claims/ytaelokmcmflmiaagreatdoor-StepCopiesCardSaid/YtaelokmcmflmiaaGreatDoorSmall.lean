/-
  Contracts of the small functions on byte slices: bytes.Clone, step.line, CopyBytes, the space's Put, Pattern, none.
-/
import Derived.Test.YtaelokmcmflmiaaGreatDoorRows
import Derived.Test.YtaelokmcmflmiaaGreatDoorBase
namespace Go.Proofs.YtaelokmcmflmiaaGreatDoor
open Go.RowKit

theorem info_u8 : (Tryz.prog.info? 5).map (fun i => (i.zero, i.size, i.bytes)) = some (some (.int .u8 0), 1, 1) := by kernel_rfl

/-- v is a slice that reads as xs. -/
def Sl (w : World) (v : Value) (xs : List Value) : Prop := ∃ ao c, v = .slice ao xs.length c ∧ (ao = none → xs.length = 0 ∧ c = 0) ∧ Cs w ao xs
theorem Sl.keep {F : Nat → Prop} {w w' : World} {v : Value} {xs : List Value} (h : Sl w v xs) (hk : Keep F w w') (hn : ∀ k, v.ownBlock = some k → ¬ F k) : Sl w' v xs := by
  obtain ⟨ao, c, rfl, h1, h2⟩ := h
  exact ⟨ao, c, rfl, h1, h2.keep hk (fun a e => hn _ (by subst e; rfl))⟩
theorem Sl.below {w w' : World} {v : Value} {xs : List Value} (h : Sl w v xs) (hk : Below w.heap.size w w') : Sl w' v xs :=
  h.keep (F := fun _ => False) (Keep.of_below hk) (fun _ _ f => f)
theorem Sl.nil (w : World) : Sl w (.slice none 0 0) [] := ⟨none, 0, rfl, fun _ => ⟨rfl, rfl⟩, Cs.nil _ _⟩
theorem Sl.of_row {w : World} {B e n : Nat} {v : Value} {xs : List Value} (h : w.ownsRow B e 1 v n xs) : Sl w v xs := by
  obtain ⟨ao, c, rfl, hcs, _, _, hno⟩ := Cs.of_row h
  have e1 : n = xs.length := by have := h.1; omega
  exact ⟨ao, c, by rw [e1], by rw [← e1]; exact hno, hcs⟩
/-- v is a slice in memory of the call's own that reads as xs; what was there is as it was. -/
def NewSl (w w' : World) (v : Value) (xs : List Value) : Prop :=
  Sl w' v xs ∧ (∀ k, v.ownBlock = some k → w.heap.size ≤ k ∧ k < w'.heap.size) ∧ Below w.heap.size w w'
theorem NewSl.nil (w : World) : NewSl w w (.slice none 0 0) [] := ⟨Sl.nil w, (fun k h => by cases h), Below.refl _ _⟩
/-- A row that the call laid or grew, told as a slice of new memory. -/
theorem NewSl.of_row {w w' : World} {e n : Nat} {v : Value} {xs : List Value} (h : w'.ownsRow 0 e 1 v n xs) (hb : ∀ k, v.ownBlock = some k → w.heap.size ≤ k) (hB : Below w.heap.size w w') : NewSl w w' v xs :=
  ⟨Sl.of_row h, fun k hk => ⟨hb k hk, (h.lt k hk).2⟩, hB⟩

def U8 (bs : List Int) : List Value := bs.map (Value.int .u8)
theorem U8_len (bs : List Int) : (U8 bs).length = bs.length := by simp [U8]
theorem U8_one (bs : List Int) : ∀ u ∈ U8 bs, u.oneCell' = true := ints_one _ _

set_option maxHeartbeats 400000 in
theorem Clone_some (a : Addr) (n c : Nat) (bs : List Int) (w : World) (hn : n = bs.length) (hc : Cs w (some a) (U8 bs)) (hbig : n ≤ 1099511627776) :
    Calls Tryz.prog 62 #[.slice (some a) n c] w fun e w' => ∃ v, e = .returned v ∧ NewSl w w' v (U8 bs) := by
  obtain ⟨i0, hi, hz0, hz1, hz2⟩ := info_parts info_u8
  have qT : ∀ (w : World) (a : Option Addr) (n c n' c' : Nat), (binOp .eql 33 (.slice a n c) (.slice none n' c')).run Tryz.prog w = .ok (.bool a.isNone) w := fun w a n c n' c' => Lib.run_eql_slice_nil w _ _ a n c n' c' Tryz.underlying33
  have HC := hid hc
  have HN := hid hn
  clear hc hn
  go_enter Tryz.func62, Tryz.ntmps62
  go_wp2_with (at_builtin; refine wpList_append_row _ rfl _ _ 33 rfl 5 i0 (.int .u8 0) 1 1 Tryz.underlying33 hi hz0 hz1 hz2 rfl (by decide) _ _ _ rfl (World.ownsRow_made w #[] 0 (Nat.zero_le _) (Nat.zero_le _) rfl) (some a) n c (U8 bs) rfl ?qc1 ?qc2 ?qc3 ?qc4 ?qc5 ?qc6 n (U8 bs) (by omega) (by simp) ?_)
  case qc1 => rw [HN.out, U8_len]; omega
  case qc2 => intro h; cases h
  case qc3 => exact HC.out.alloc _
  case qc4 => exact U8_one bs
  case qc5 => unfold maxLen; omega
  case qc6 => omega
  intro av cv w1 hown hgrow hblk
  have HO := hid hown
  have HG := hid hgrow
  have HB := hid hblk
  clear hown hgrow hblk
  go_wp2
  go_ret
  refine ⟨_, rfl, NewSl.of_row HO.out (fun k hk => ?_) ?_⟩
  · rcases HB.out k hk with h | h
    · simp [Value.ownBlock] at h; omega
    · omega
  · exact (((Below.refl _ w).alloc (Nat.le_refl _) _).grown HG.out (by simp) (by intro k hk; simp [Value.ownBlock] at hk; omega))

set_option maxHeartbeats 400000 in
theorem Clone_none (n c : Nat) (w : World) :
    Calls Tryz.prog 62 #[.slice none n c] w fun e w' => e = .returned (.slice none 0 0) ∧ w = w' := by
  have qT : ∀ (w : World) (a : Option Addr) (n c n' c' : Nat), (binOp .eql 33 (.slice a n c) (.slice none n' c')).run Tryz.prog w = .ok (.bool a.isNone) w := fun w a n c n' c' => Lib.run_eql_slice_nil w _ _ a n c n' c' Tryz.underlying33
  go_enter Tryz.func62, Tryz.ntmps62
  go_wp2
  go_ret
  exact ⟨rfl, rfl⟩

/-- bytes.Clone, whatever slice. -/
theorem Clone_any (ao : Option Addr) (n c : Nat) (bs : List Int) (w : World) (hn : n = bs.length) (hno : ao = none → n = 0 ∧ c = 0) (hc : Cs w ao (U8 bs)) (hbig : n ≤ 1099511627776) :
    Calls Tryz.prog 62 #[.slice ao n c] w fun e w' => ∃ v, e = .returned v ∧ NewSl w w' v (U8 bs) := by
  cases ao with
  | some a => exact Clone_some a n c bs w hn hc hbig
  | none =>
    obtain ⟨h0, _⟩ := hno rfl
    have hb : bs = [] := List.eq_nil_of_length_eq_zero (by omega)
    subst hb
    refine (Clone_none n c w).mono ?_
    rintro e w' ⟨rfl, rfl⟩
    exact ⟨_, rfl, NewSl.nil w⟩

set_option maxHeartbeats 400000 in
theorem space_none (b : Nat) (w : World) (h : w.cell? ⟨b, 3, none⟩ = some (.bool true)) :
    Calls Tryz.prog 61 #[.pointer (some ⟨b, 0, none⟩)] w fun e w' => e = .returned (.bool false) ∧ w = w' := by
  go_enter Tryz.func61, Tryz.ntmps61
  go_wp2
  go_ret
  exact ⟨rfl, rfl⟩

/-- The space's cells. -/
def spaceL (pat hold : Value) (most : Int) : List Value := [pat, hold, .int .i64 most, .bool true]

set_option maxHeartbeats 400000 in
theorem Put_fits (sb : Nat) (pat hold : Value) (most : Int) (ao : Option Addr) (n c : Nat) (bs : List Int) (w : World)
    (hs : Blk w sb (spaceL pat hold most) 116) (hn : n = bs.length) (hno : ao = none → n = 0 ∧ c = 0) (hc : Cs w ao (U8 bs)) (hm : (n : Int) ≤ most) (hbig : n ≤ 1099511627776) :
    Calls Tryz.prog 25 #[.pointer (some ⟨sb, 0, none⟩), .slice ao n c] w fun e w' =>
      ∃ v, e = .returned (.int .i64 0) ∧ Blk w' sb (spaceL v hold most) 116 ∧ Sl w' v (U8 bs) ∧ (∀ k, v.ownBlock = some k → w.heap.size ≤ k ∧ k < w'.heap.size) ∧ Keep (· = sb) w w' := by
  have HS := hid hs
  have HC := hid hc
  have HN := hid hn
  have HO := hid hno
  have c2 := hs.cell 2 (v := .int .i64 most) rfl
  have c3 := hs.cell 3 (v := .bool true) rfl
  clear hs hc hn hno
  go_enter Tryz.func25, Tryz.ntmps25
  go_wp2_with fail
  refine (space_none sb w c3).mono ?_
  rintro e w' ⟨rfl, rfl⟩
  go_wp2_with fail
  refine (Clone_any ao n c bs w HN.out HO.out HC.out hbig).mono ?_
  rintro e w1 ⟨v, rfl, hsl, hblk, hbel⟩
  obtain ⟨ao', c', rfl, hno', hcs'⟩ := hsl
  have b1 := HS.out.below hbel HS.out.lt
  have c0 := b1.cell 0 (v := pat) rfl
  have f0 := b1.free
  have HB := hid b1
  have H1 := hid hno'
  have H2 := hid hcs'
  have H3 := hid hblk
  have H4 := hid hbel
  clear b1 hno' hcs' hblk hbel
  go_wp2_with fail
  go_ret
  have hne : ∀ k, (Value.slice ao' (U8 bs).length c').ownBlock = some k → k ≠ sb := fun k hk => by have := H3.out k hk; have := HS.out.lt; omega
  refine ⟨_, rfl, HB.out.set 0 _, ?_, fun k hk => by simpa using H3.out k hk, ?_⟩
  · exact Sl.keep (F := (· = sb)) (w := w1) ⟨ao', c', rfl, H1.out, H2.out⟩ ((Keep.refl (· = sb) _).setCell (fun _ => rfl) _) hne
  · refine Keep.setCell ((Keep.refl _ _).new H4.out) ?_ _
    exact fun _ => rfl

set_option maxHeartbeats 400000 in
theorem Pattern_any (sb : Nat) (pat hold : Value) (most : Int) (bs : List Int) (w : World)
    (hs : Blk w sb (spaceL pat hold most) 116) (hp : Sl w pat (U8 bs)) (hbig : bs.length ≤ 1099511627776) :
    Calls Tryz.prog 29 #[.pointer (some ⟨sb, 0, none⟩)] w fun e w' => ∃ v, e = .returned v ∧ NewSl w w' v (U8 bs) := by
  obtain ⟨ao, c, rfl, h1, h2⟩ := hp
  have c0 := hs.cell 0 rfl
  have c3 := hs.cell 3 (v := .bool true) rfl
  have H1 := hid h1
  have H2 := hid h2
  clear hs h1 h2
  go_enter Tryz.func29, Tryz.ntmps29
  go_wp2_with fail
  refine (space_none sb w c3).mono ?_
  rintro e w' ⟨rfl, rfl⟩
  go_wp2_with fail
  refine (Clone_any ao (U8 bs).length c bs w (U8_len _) H1.out H2.out (by rw [U8_len]; exact hbig)).mono ?_
  rintro e w1 ⟨v, rfl, hnew⟩
  have HN := hid hnew
  clear hnew
  go_wp2_with fail
  go_ret
  exact ⟨v, rfl, HN.out⟩

set_option maxHeartbeats 400000 in
theorem Line_any (ao : Option Addr) (n c : Nat) (bs : List Int) (w : World) (hn : n = bs.length) (hno : ao = none → n = 0 ∧ c = 0) (hc : Cs w ao (U8 bs)) (hbig : n ≤ 1099511627776) :
    Calls Tryz.prog 93 #[.slice ao n c] w fun e w' => ∃ v, e = .returned v ∧ NewSl w w' v (U8 (bs ++ [10])) := by
  obtain ⟨i0, hi, hz0, hz1, hz2⟩ := info_parts info_u8
  have HC := hid hc
  have HN := hid hn
  have HO := hid hno
  clear hc hn hno
  go_enter Tryz.func93, Tryz.ntmps93
  go_wp2_with (first
    | (at_make; refine wpList_make_own _ rfl _ _ 33 rfl 0 5 i0 (.int .u8 0) 1 Tryz.underlying33 hi hz0 hz1 .i64 .i64 _ (n + 1) rfl rfl (by omega) (by rw [hz2]; omega) (by unfold maxLen; omega) (Nat.zero_le _) ?_; intro w1 h1 h2; have O1 := hid h1; have G1 := hid h2; clear h1 h2)
    | (at_builtin; refine wpList_append_row _ rfl (.tmp 6) (.tmp 7) 33 rfl 5 i0 (.int .u8 0) 1 1 Tryz.underlying33 hi hz0 hz1 hz2 rfl (by decide) (.slice (some ⟨w.heap.size, 0, none⟩) 0 (n + 1)) 0 [] rfl O1.out ao n c (U8 bs) rfl (by rw [HN.out, U8_len]; omega) HO.out (HC.out.keep (F := fun _ => False) ((Keep.refl _ _).grown G1.out (by intro k h; cases h)) (fun _ _ f => f)) (U8_one bs) (by unfold maxLen; omega) (by omega) n (U8 bs) (by omega) (by simp) ?_; intro av2 cv2 w2 h1 h2 h3; have O2 := hid h1; have G2 := hid h2; have B2 := hid h3; clear h1 h2 h3)
    | (at_builtin; refine wpList_append_row _ rfl (.tmp 8) (.tmp 9) 33 rfl 5 i0 (.int .u8 0) 1 1 Tryz.underlying33 hi hz0 hz1 hz2 rfl (by decide) (.slice av2 n cv2) n (U8 bs) rfl (O2.out.alloc _) _ 1 1 [.int .u8 10] rfl rfl (by intro h; cases h) (one_new _ _ _) (by intro u hu; simp at hu; subst hu; rfl) (by unfold maxLen; omega) (by omega) (n + 1) (U8 (bs ++ [10])) rfl (by simp [U8]) ?_; intro av3 cv3 w3 h1 h2 h3; have O3 := hid h1; have G3 := hid h2; have B3 := hid h3; clear h1 h2 h3))
  go_ret
  have s0 := (O1.out.lt _ rfl).2
  have s1 := G1.out.size
  have s2 := G2.out.size
  have bk2 : ∀ k, (Value.slice av2 n cv2).ownBlock = some k → w.heap.size ≤ k := fun k hk => by
    rcases B2.out k hk with h | h
    · simp [Value.ownBlock] at h; omega
    · omega
  have hb : Below w.heap.size w w2 := ((Below.refl _ w).grown G1.out (Nat.le_refl _) (by intro k h; cases h)).grown G2.out (by omega) (by intro k hk; simp [Value.ownBlock] at hk; omega)
  refine ⟨_, rfl, NewSl.of_row O3.out (fun k hk => ?_) ?_⟩
  · rcases B3.out k hk with h | h
    · exact bk2 k h
    · simp at h; omega
  · exact (hb.alloc (by omega) _).grown G3.out (by simp; omega) bk2

end Go.Proofs.YtaelokmcmflmiaaGreatDoor
