/-
  Contracts of the world's methods: told, Last, Line, lends, Next, Out.
-/
import Derived.Test.YtaelokmcmflmiaaGreatDoorWorld
namespace Go.Proofs.YtaelokmcmflmiaaGreatDoor
open Go.RowKit
variable {F : Nat → Prop} {b : Nat} {s : WS} {A : List Int} {cn : Nat} {cx gx lx wx : List Value}

set_option maxHeartbeats 400000 in
/-- told: no call is refused here. -/
theorem told_ok (w : World) (h : WInv F w b s A cn cx gx lx wx) (ho : s.outs ≠ s.fail) (hm : s.most = 0) :
    Calls Tryz.prog 220 #[.pointer (some ⟨b, 0, none⟩)] w fun e w' => e = .returned (.int .i64 0) ∧ ∃ q, w' = w.drewN q := by
  have c17 := h.blk.cell 17 (v := .int .i64 s.outs) rfl
  have c5 := h.blk.cell 5 (v := .int .i64 s.fail) rfl
  have c7 := h.blk.cell 7 (v := .int .i64 0) (by rw [← hm]; rfl)
  have e0 : (s.outs == s.fail) = false := by simpa using ho
  clear h ho hm
  go_enter Tryz.func220, Tryz.ntmps220
  go_wp2
  go_quiet (fail)
  go_wp2
  go_quiet (fail)
  go_wp2
  go_ret
  exact ⟨rfl, _, World.drewN_drewN _ _ _⟩

set_option maxHeartbeats 400000 in
/-- told: this one is. -/
theorem told_no (w : World) (h : WInv F w b s A cn cx gx lx wx) (ho : s.outs = s.fail) :
    Calls Tryz.prog 220 #[.pointer (some ⟨b, 0, none⟩)] w fun e w' => e = .returned (.int .i64 s.err) ∧ ∃ q, w' = w.drewN q := by
  have c17 := h.blk.cell 17 (v := .int .i64 s.fail) (by rw [← ho]; rfl)
  have c5 := h.blk.cell 5 (v := .int .i64 s.fail) rfl
  have c6 := h.blk.cell 6 (v := .int .i64 s.err) rfl
  clear h ho
  go_enter Tryz.func220, Tryz.ntmps220
  go_wp2
  go_quiet (fail)
  go_wp2
  go_ret
  exact ⟨rfl, _, rfl⟩

set_option maxHeartbeats 400000 in
theorem LineNo_any (w : World) (h : WInv F w b s A cn cx gx lx wx) :
    Calls Tryz.prog 215 #[.pointer (some ⟨b, 0, none⟩)] w fun e w' => e = .returned (.int .i64 s.n) ∧ w = w' := by
  have c1 := h.blk.cell 1 (v := .pointer none) rfl
  have c16 := h.blk.cell 16 (v := .int .i64 s.n) rfl
  clear h
  go_enter Tryz.func215, Tryz.ntmps215
  go_wp2
  go_ret
  exact ⟨rfl, rfl⟩

/-- Is it the last line? -/
def lastB (s : WS) (ln : Nat) : Bool := !s.late && decide (0 < s.n) && decide ((ln : Int) ≤ s.n)

set_option maxHeartbeats 400000 in
theorem Last_any (w : World) (h : WInv F w b s A cn cx gx lx wx) (ao : Option Addr) (ln c : Nat) (hl : s.lines = .slice ao ln c) :
    Calls Tryz.prog 214 #[.pointer (some ⟨b, 0, none⟩)] w fun e w' => e = .returned (.bool (lastB s ln)) ∧ ∃ q, w' = w.drewN q := by
  have c0 := h.blk.cell 0 (v := .slice ao ln c) (by rw [← hl]; rfl)
  have c1 := h.blk.cell 1 (v := .pointer none) rfl
  have c14 := h.blk.cell 14 (v := .bool s.late) rfl
  have c16 := h.blk.cell 16 (v := .int .i64 s.n) rfl
  clear h hl
  obtain ⟨l, hl⟩ : ∃ l, l = s.late := ⟨_, rfl⟩
  obtain ⟨n, hn⟩ : ∃ n, n = s.n := ⟨_, rfl⟩
  have e : lastB s ln = (!l && decide (0 < n) && decide ((ln : Int) ≤ n)) := by rw [hl, hn]; rfl
  rw [e]
  rw [← hl] at c14
  rw [← hn] at c16
  clear e hl hn
  cases l with
  | true =>
    go_enter Tryz.func214, Tryz.ntmps214
    go_wp2
    go_ret
    exact ⟨rfl, 0, rfl⟩
  | false =>
    by_cases h0 : 0 < n
    · by_cases h1 : (ln : Int) ≤ n
      · go_enter Tryz.func214, Tryz.ntmps214
        go_wp2
        go_quiet (fail)
        go_wp2
        go_ret
        exact ⟨by simp [h0, h1], _, rfl⟩
      · have h1' : decide ((ln : Int) ≤ n) = false := by simpa using h1
        go_enter Tryz.func214, Tryz.ntmps214
        go_wp2
        go_quiet (fail)
        go_wp2
        go_ret
        exact ⟨by simp [h0, h1], _, rfl⟩
    · have h0' : decide (0 < n) = false := by simpa using h0
      go_enter Tryz.func214, Tryz.ntmps214
      go_wp2
      go_quiet (fail)
      go_wp2
      go_ret
      exact ⟨by simp only [h0', Bool.not_false, Bool.true_and, Bool.false_and]; rfl, _, rfl⟩

set_option maxHeartbeats 400000 in
/-- lends of a mute world. -/
theorem lends_mute (w : World) (h : WInv F w b s A cn cx gx lx wx) (hm : s.mute = true) (ao : Option Addr) (n c : Nat) (bs : List Int) (hn : n = bs.length) (hc : Cs w ao (U8 bs)) (hbig : n ≤ 1099511627776) :
    Calls Tryz.prog 225 #[.pointer (some ⟨b, 0, none⟩), .slice ao n c] w fun e w' => ∃ v, e = .returned v ∧ NewSl w w' v (U8 bs) := by
  have HC := hid hc
  have HN := hid hn
  have H := hid h
  have HM := hid hm
  clear hc hn h hm
  go_enter Tryz.func225, Tryz.ntmps225
  go_wp2_with fail
  refine (WideBytes_any ao n c bs w HN.out HC.out hbig).mono ?_
  rintro e w1 ⟨g, rfl, hg, hblk, hbel⟩
  have c12 := (H.out.blk.below hbel H.out.blk.lt).cell 12 (v := .bool true) (by rw [← HM.out]; rfl)
  have HG := hid hg
  have HB := hid hblk
  have HL := hid hbel
  clear hg hblk hbel
  go_wp2
  go_ret
  refine ⟨_, rfl, ⟨some ⟨g, 0, none⟩, n + 64, by rw [U8_len, ← HN.out]; rfl, (by intro h; cases h), ?_⟩, fun k hk => ?_, HL.out⟩
  · intro j u hu
    refine ⟨g, 0, rfl, ?_⟩
    rw [Nat.zero_add]
    refine HB.out.cell j ?_
    have hj := (List.getElem?_eq_some_iff.1 hu).1
    rw [wide, U8, List.map_append, List.getElem?_append_left (by simpa [U8] using hj)]
    exact hu
  · simp [Value.ownBlock] at hk
    subst hk
    exact ⟨HG.out, HB.out.lt⟩

/-- The lists of a world have room for more. -/
structure Room (cn : Nat) (gx lx wx : List Value) (m : Nat) : Prop where
  c : cn ≤ m
  g : gx.length ≤ m
  l : lx.length ≤ m
  w : wx.length ≤ m

def LendPost (F : Nat → Prop) (b : Nat) (s : WS) (A : List Int) (cn : Nat) (cx gx lx wx : List Value) (bs : List Int) (x : Value) (w : World) (e : Ending) (w' : World) : Prop :=
  ∃ v lent was, e = .returned v ∧ Sl w' v (U8 bs) ∧ InF (fun k => w.heap.size ≤ k) v ∧ WInv (Up F w) w' b { s with lent := lent, was := was } A cn cx gx (lx ++ [v]) (wx ++ [x]) ∧ Keep F w w'

set_option maxRecDepth 100000 in
set_option maxHeartbeats 1000000 in
/-- lends of a world that is not mute. -/
theorem lends_loud (w : World) (h : WInv F w b s A cn cx gx lx wx) (hm : s.mute = false) (ao : Option Addr) (n c : Nat) (bs : List Int) (hn : n = bs.length) (hc : Cs w ao (U8 bs)) (hbig : n ≤ 1099511627776)
    (hl : lx.length ≤ 1000000000000) (hw : wx.length ≤ 1000000000000) (hlen : (lx.length : Int) < 1000) :
    Calls Tryz.prog 225 #[.pointer (some ⟨b, 0, none⟩), .slice ao n c] w (LendPost F b s A cn cx gx lx wx bs (.slice ao n c) w) := by
  obtain ⟨j0, gi, gz0, gz1, gz2⟩ := info_parts info_bytes
  have HC := hid hc
  have HN := hid hn
  have H := hid h
  have HM := hid hm
  obtain ⟨al, cl, hsl, _⟩ := Cs.of_row h.lent
  have HS := hid hsl
  clear hc hn h hm hsl
  go_enter Tryz.func225, Tryz.ntmps225
  go_wp2_with fail
  refine (WideBytes_any ao n c bs w HN.out HC.out hbig).mono ?_
  rintro e w1 ⟨g, rfl, hg, hblk, hbel⟩
  have I1 := hid (H.out.below hbel)
  have K1 := hid (Keep.of_below (F := F) hbel)
  have c12 := I1.out.blk.cell 12 (v := .bool false) (by rw [← HM.out]; rfl)
  have c23 := I1.out.blk.cell 23 (v := .slice al lx.length cl) (by rw [← HS.out]; rfl)
  have f1 := I1.out.blk.free
  have HG := hid hg
  have HB := hid hblk
  have HL := hid hbel
  have l1 := I1.out.blk.lt
  clear hg hblk hbel
  go_wp2_with (first
    | (at_builtin; refine wpList_append_row _ rfl (.tmp 25) (.tmp 27) 22 rfl 33 j0 (.slice none 0 0) 1 24 Tryz.underlying22 gi gz0 gz1 gz2 rfl (by decide) s.lent lx.length lx HS.out.symm (I1.out.lent.alloc _) _ 1 1 [.slice (some ⟨g, 0, none⟩) n (n + 64)] rfl rfl (by intro h; cases h) (one_new_at (by simp)) (by intro u hu; simp at hu; subst hu; rfl) (by unfold maxLen; omega) (by omega) (lx.length + 1) (lx ++ [.slice (some ⟨g, 0, none⟩) n (n + 64)]) rfl rfl ?_
       intro av5 cv5 w5 ho5 hg5 hb5
       have b5 := (I1.out.blk.alloc (.cells #[.slice (some ⟨g, 0, none⟩) n (n + 64)] 33)).grown hg5 (blk_apart I1.out.blk I1.out.lent (by decide))
       have c5a := b5.cell 23 (v := s.lent) rfl
       have c5b := b5.cell 24 (v := s.was) rfl
       have f5 := b5.free
       have I5 := hid ((I1.out.below ((Below.refl _ _).alloc (Nat.le_refl _) (.cells #[.slice (some ⟨g, 0, none⟩) n (n + 64)] 33))).pushLent (lx ++ [.slice (some ⟨g, 0, none⟩) n (n + 64)]) _ (by simpa using ho5) hg5 hb5 (Up F w) (fun k h => .inl h) (fun k h => .inr (by have := HL.out.size; simp at h; omega)))
       have K5 := hid (Keep.setCell (Keep.grown (K1.out.alloc (.cells #[.slice (some ⟨g, 0, none⟩) n (n + 64)] 33)) hg5 (fun k e _ => I1.out.flent k e)) (p := ⟨b, 23, none⟩) (fun _ => H.out.fb) (.slice av5 (lx.length + 1) cv5))
       have B5 := hid (HB.out.alloc (.cells #[.slice (some ⟨g, 0, none⟩) n (n + 64)] 33))
       have G5 := hid hg5
       clear ho5 hg5 hb5 b5)
    | (at_builtin; refine wpList_append_row _ rfl (.tmp 35) (.tmp 37) 22 rfl 33 j0 (.slice none 0 0) 1 24 Tryz.underlying22 gi gz0 gz1 gz2 rfl (by decide) s.was wx.length wx rfl (I5.out.was.alloc _) _ 1 1 [.slice ao n c] rfl rfl (by intro h; cases h) (one_new_at (by simp)) (by intro u hu; simp at hu; subst hu; rfl) (by unfold maxLen; omega) (by omega) (wx.length + 1) (wx ++ [.slice ao n c]) rfl rfl ?_
       intro av6 cv6 w6 ho6 hg6 hb6
       have b6 := (I5.out.blk.alloc (.cells #[.slice ao n c] 33)).grown hg6 (blk_apart I5.out.blk I5.out.was (by decide))
       have c6a := b6.cell 24 (v := s.was) rfl
       have f6 := b6.free
       have I6 := hid ((I5.out.below ((Below.refl _ _).alloc (Nat.le_refl _) (.cells #[.slice ao n c] 33))).pushWas (wx ++ [.slice ao n c]) _ (by simpa using ho6) hg6 hb6 (Up F w) (fun k h => h) (fun k h => .inr (by have := K5.out.size; simp at h this; omega)))
       have K6 := hid (Keep.setCell (Keep.grown (K5.out.alloc (.cells #[.slice ao n c] 33)) hg6 (fun k e hlt => (I5.out.fwas k e).elim id (fun h => by omega))) (p := ⟨b, 24, none⟩) (fun _ => H.out.fb) (.slice av6 (wx.length + 1) cv6))
       have G6 := hid hg6
       clear ho6 hg6 hb6 b6))
  go_ret
  have gb : g ≠ b := by have := HG.out; have := H.out.blk.lt; omega
  have gl : s.lent.ownBlock ≠ some g := fun e => by have := (H.out.lent.lt g e).2; have := HG.out; omega
  have gw : s.was.ownBlock ≠ some g := fun e => by have := (H.out.was.lt g e).2; have := HG.out; omega
  have b7 := (((((HB.out.alloc (.cells #[.slice (some ⟨g, 0, none⟩) n (n + 64)] 33)).grown G5.out gl).setO (a := ⟨b, 23, none⟩) gb (.slice av5 (lx.length + 1) cv5)).alloc (.cells #[.slice ao n c] 33)).grown G6.out gw).setO (a := ⟨b, 24, none⟩) gb (.slice av6 (wx.length + 1) cv6)
  refine ⟨_, _, _, rfl, ⟨some ⟨g, 0, none⟩, n + 64, by rw [U8_len, ← HN.out]; rfl, (by intro h; cases h), ?_⟩, fun k hk => ?_, I6.out, K6.out⟩
  · intro j u hu
    refine ⟨g, 0, rfl, ?_⟩
    rw [Nat.zero_add]
    refine b7.cell j ?_
    have hj := (List.getElem?_eq_some_iff.1 hu).1
    rw [wide, U8, List.map_append, List.getElem?_append_left (by simpa [U8] using hj)]
    exact hu
  · simp [Value.ownBlock] at hk
    subst hk
    exact HG.out

end Go.Proofs.YtaelokmcmflmiaaGreatDoor
