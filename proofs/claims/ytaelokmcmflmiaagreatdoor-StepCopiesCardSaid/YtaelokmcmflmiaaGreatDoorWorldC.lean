/-
  Contracts of the world's methods: Next, Out.
-/
import Derived.Test.YtaelokmcmflmiaaGreatDoorWorldB
namespace Go.Proofs.YtaelokmcmflmiaaGreatDoor
open Go.RowKit

theorem Cs.keepU {F : Nat → Prop} {w w' : World} {ao : Option Addr} {bs : List Int} (h : Cs w ao (U8 bs)) (hk : Keep F w w') (hn : ∀ a, ao = some a → bs ≠ [] → ¬ F a.block) : Cs w' ao (U8 bs) := by
  by_cases hb : bs = []
  · subst hb; exact Cs.nil _ _
  · exact h.keep hk (fun a ha => hn a ha hb)
variable {F : Nat → Prop} {b : Nat} {s : WS} {A : List Int} {cn : Nat} {cx gx lx wx : List Value}

/-- How much a note adds to a world's lists. -/
def mu (s : WS) : Nat := if s.mute then 0 else 1

def NotePost (F : Nat → Prop) (b : Nat) (s : WS) (A : List Int) (cn : Nat) (gx lx wx : List Value) (w : World) (e : Ending) (w' : World) : Prop :=
  e = .returned (.tuple #[]) ∧ ∃ x calls got cn' cx' gx', WInv (Up F w) w' b { s with sum := x, calls := calls, got := got } A cn' cx' gx' lx wx ∧ cn' ≤ cn + mu s ∧ gx'.length ≤ gx.length + mu s ∧ Keep F w w'

/-- note, whatever world. -/
theorem note_any (kind : Int) (nm : ByteArray) (ao : Option Addr) (n c : Nat) (bs : List Int) (w : World)
    (h : WInv F w b s A cn cx gx lx wx) (hn : n = bs.length) (hno : ao = none → n = 0 ∧ c = 0) (hc : Cs w ao (U8 bs)) (hbig : n ≤ 1099511627776) (hF : ∀ a, ao = some a → ¬ F a.block) (hcn : cn ≤ 1000000000000) (hgn : gx.length ≤ 1000000000000) :
    Calls Tryz.prog 219 #[.pointer (some ⟨b, 0, none⟩), .int .i64 kind, .string nm, .slice ao n c] w (NotePost F b s A cn gx lx wx w) := by
  cases hm : s.mute with
  | true =>
    refine (note_mute F b s A cn cx gx lx wx kind nm ao n c w h hm).mono ?_
    rintro e w' ⟨rfl, h1, h2⟩
    exact ⟨rfl, _, _, _, _, _, _, h1.mono (fun k hk => .inl hk), by simp [mu, hm], by simp [mu, hm], h2⟩
  | false =>
    refine (note_loud F b s A cn cx gx lx wx kind nm ao n c bs w h hm hn hno hc hbig hF hcn hgn).mono ?_
    rintro e w' ⟨rfl, ⟨v, calls, got, gx', h1, h3⟩, h2⟩
    exact ⟨rfl, _, _, _, _, _, _, h1, by simp [mu, hm], by simpa [mu, hm] using h3, h2⟩

def LendAny (F : Nat → Prop) (b : Nat) (s : WS) (A : List Int) (cn : Nat) (cx gx lx wx : List Value) (bs : List Int) (w : World) (e : Ending) (w' : World) : Prop :=
  ∃ ao c lent was lx' wx', e = .returned (.slice ao bs.length c) ∧ (ao = none → bs.length = 0 ∧ c = 0) ∧ Cs w' ao (U8 bs) ∧ (∀ a, ao = some a → w.heap.size ≤ a.block) ∧ WInv (Up F w) w' b { s with lent := lent, was := was } A cn cx gx lx' wx' ∧ lx'.length ≤ lx.length + mu s ∧ wx'.length ≤ wx.length + mu s ∧ Keep F w w'

theorem lends_any (w : World) (h : WInv F w b s A cn cx gx lx wx) (ao : Option Addr) (n c : Nat) (bs : List Int) (hn : n = bs.length) (hc : Cs w ao (U8 bs)) (hbig : n ≤ 1099511627776)
    (hl : lx.length < 1000) (hw : wx.length ≤ 1000000000000) :
    Calls Tryz.prog 225 #[.pointer (some ⟨b, 0, none⟩), .slice ao n c] w (LendAny F b s A cn cx gx lx wx bs w) := by
  cases hm : s.mute with
  | true =>
    refine (lends_mute w h hm ao n c bs hn hc hbig).mono ?_
    rintro e w' ⟨v, rfl, ⟨ao', c', rfl, h1, h2⟩, h3, h4⟩
    rw [U8_len] at *
    exact ⟨ao', c', _, _, _, _, rfl, h1, h2, fun a ha => (h3 a.block (by subst ha; rfl)).1, (h.below h4).mono (fun k hk => .inl hk), by simp [mu, hm], by simp [mu, hm], Keep.of_below h4⟩
  | false =>
    refine (lends_loud w h hm ao n c bs hn hc hbig (by omega) hw (by omega)).mono ?_
    rintro e w' ⟨v, lent, was, rfl, ⟨ao', c', rfl, h1, h2⟩, h3, h4, h5⟩
    rw [U8_len] at *
    exact ⟨ao', c', _, _, _, _, rfl, h1, h2, fun a ha => h3 a.block (by subst ha; rfl), h4, by simp [mu, hm], by simp [mu, hm], h5⟩

def NextPost (F : Nat → Prop) (b : Nat) (s : WS) (A : List Int) (cn : Nat) (gx lx wx : List Value) (bs : List Int) (w : World) (e : Ending) (w' : World) : Prop :=
  ∃ ao c x calls got lent was cn' cx' gx' lx' wx', e = .returned (.tuple #[.slice ao bs.length c, .bool true]) ∧ (ao = none → bs.length = 0 ∧ c = 0) ∧ Cs w' ao (U8 bs) ∧ (∀ a, ao = some a → w.heap.size ≤ a.block) ∧
    WInv (Up F w) w' b { s with n := s.n + 1, sum := x, calls := calls, got := got, lent := lent, was := was } A cn' cx' gx' lx' wx' ∧
    (cn' ≤ cn + mu s ∧ gx'.length ≤ gx.length + mu s ∧ lx'.length ≤ lx.length + mu s ∧ wx'.length ≤ wx.length + mu s) ∧ Keep F w w'

set_option maxRecDepth 100000 in
set_option maxHeartbeats 1000000 in
theorem Next_some (lb lo ln lc k : Nat) (ao : Option Addr) (m c : Nat) (bs : List Int) (w : World)
    (h : WInv F w b s A cn cx gx lx wx) (hlines : s.lines = .slice (some ⟨lb, lo, none⟩) ln lc) (hk : s.n = k) (hlt : k < ln) (hln : ln ≤ 1099511627776)
    (hrow : w.cell? ⟨lb, lo + k, none⟩ = some (.slice ao m c)) (hm : m = bs.length) (hc : Cs w ao (U8 bs)) (hbig : m ≤ 1099511627776)
    (hFl : ¬ F lb) (hFr : ∀ a, ao = some a → bs ≠ [] → ¬ F a.block) (hcn : cn ≤ 1000000000000) (hgn : gx.length ≤ 1000000000000) (hl : lx.length < 1000) (hw : wx.length ≤ 1000000000000) :
    Calls Tryz.prog 216 #[.pointer (some ⟨b, 0, none⟩)] w (NextPost F b s A cn gx lx wx bs w) := by
  have H := hid h
  have HL := hid hlines
  have HK := hid hk
  have HR := hid hrow
  have HM := hid hm
  have HC := hid hc
  have HF1 := hid hFl
  have HF2 := hid hFr
  clear h hlines hk hrow hm hc hFl hFr
  go_enter Tryz.func216, Tryz.ntmps216
  go_wp2_with fail
  refine (note_any 0 _ none 0 0 [] w H.out rfl (fun _ => ⟨rfl, rfl⟩) (Cs.nil _ _) (by omega) (by intro a h; cases h) hcn hgn).mono ?_
  rintro e w1 ⟨rfl, x, calls, got, cn', cx', gx', h1, h2, h3, h4⟩
  have I1 := hid h1
  have K1 := hid h4
  have c0 := I1.out.blk.cell 0 (v := .slice (some ⟨lb, lo, none⟩) ln lc) (by rw [← HL.out]; rfl)
  have c1 := I1.out.blk.cell 1 (v := .pointer none) rfl
  have c16 := I1.out.blk.cell 16 (v := .int .i64 (k : Int)) (by rw [← HK.out]; rfl)
  have f1 := I1.out.blk.free
  have hrow1 : w1.cell? ⟨lb, lo + k, none⟩ = some (.slice ao m c) := by
    rw [World.cell?_of_block (w := w) (K1.out.block lb (block_lt_of_cell HR.out) HF1.out)]; exact HR.out
  have hne : lb ≠ b := fun e => HF1.out (by subst e; exact H.out.fb)
  have hne' : b ≠ lb := fun e => hne e.symm
  have HU : ¬ Up F w lb := fun h => h.elim HF1.out (fun h => by have := block_lt_of_cell HR.out; simp at this; omega)
  clear h1 h4
  go_wp2
  go_quiet (fail)
  go_wp2
  have I2 := hid ((I1.out.drewN nq).setCell 16 (.int .i64 ((k : Int) + 1)) (s' := { s with n := (k : Int) + 1, sum := x, calls := calls, got := got }) rfl rfl rfl rfl rfl rfl)
  have K2 := hid ((K1.out.drewN nq).setCell (p := ⟨b, 16, none⟩) (fun _ => H.out.fb) (.int .i64 ((k : Int) + 1)))
  have hrow2 : ((w1.drewN nq).setCell ⟨b, 16, none⟩ (.int .i64 ((k : Int) + 1))).cell? ⟨lb, lo + k, none⟩ = some (.slice ao m c) := by
    rw [World.cell?_setCell_far _ _ _ _ hne']; exact hrow1
  generalize hw2 : (w1.drewN nq).setCell ⟨b, 16, none⟩ (.int .i64 ((k : Int) + 1)) = w2 at *
  clear hw2
  have d0 := I2.out.blk.cell 0 (v := .slice (some ⟨lb, lo, none⟩) ln lc) (by rw [← HL.out]; rfl)
  have d16 := I2.out.blk.cell 16 (v := .int .i64 ((k : Int) + 1)) rfl
  clear c0 c1 c16 f1 hrow1
  have hk0 : (0 : Int) ≤ (k : Int) := by omega
  have hk1 : (k : Int) < (ln : Int) := by omega
  have hwr : IntKind.i64.wrap ((k : Int) + 1 - 1) = (k : Int) := by rw [show (k : Int) + 1 - 1 = (k : Int) by omega]; exact IntWalk.i64_in _ (by omega)
  have hwr2 : IntKind.i64.wrap (k : Int) = (k : Int) := IntWalk.i64_in _ (by omega)
  go_region_held3 (fun w' => w'.cell? ⟨b, 0, none⟩ = some (.slice (some ⟨lb, lo, none⟩) ln lc) ∧ w'.cell? ⟨b, 16, none⟩ = some (.int .i64 ((k : Int) + 1)) ∧ w'.cell? ⟨lb, lo + k, none⟩ = some (.slice ao m c))
    (first | go_keep | exact ⟨k0, k16, krow⟩)
    (first | (go_at_call 225; go_must (refine (lends_any _ (I2.out.drewN 1) ao m c bs HM.out (HC.out.keepU (K2.out.drewN 1) HF2.out) hbig hl hw).mono ?_); rintro e w3 ⟨ao', c', lent, was, lx', wx', rfl, g1, g2, g3, g4, g5, g6, g7⟩; have k0 := g4.blk.cell 0 (v := .slice (some ⟨lb, lo, none⟩) ln lc) (by rw [← HL.out]; rfl); have k16 := g4.blk.cell 16 (v := .int .i64 ((k : Int) + 1)) rfl; have krow : w3.cell? ⟨lb, lo + k, none⟩ = some (.slice ao m c) := by (rw [World.cell?_of_block (w := w2.drewN 1) (g7.block lb (block_lt_of_cell hrow2) HU)]; exact hrow2)))
  have G1 := hid g1
  have G2 := hid g2
  have G3 := hid g3
  have G4 := hid g4
  have G7 := hid g7
  clear g1 g2 g3 g4 g7 k0 k16 krow d0 d16 hrow2
  go_wp2
  go_ret2
  have s2 := K2.out.size
  refine ⟨ao', c', x, calls, got, lent, was, cn', cx', gx', lx', wx', rfl, G1.out, G2.out, fun a ha => ?_, ?_, ⟨h2, h3, g5, g6⟩, (K2.out.drewN 1).trans G7.out (fun i hi h => h.elim id (fun h => by omega))⟩
  · have := G3.out a ha
    simp at this
    omega
  · have h := G4.out.mono (G := Up F w) (fun i hi => hi.elim id (fun h => .inr (by simp at h; omega)))
    rw [HK.out]
    exact h

/-- Next: there is no line. -/
def NonePost (F : Nat → Prop) (b : Nat) (s : WS) (A : List Int) (cn : Nat) (gx lx wx : List Value) (w : World) (e : Ending) (w' : World) : Prop :=
  e = .returned (.tuple #[.slice none 0 0, .bool false]) ∧ ∃ x calls got cn' cx' gx', WInv (Up F w) w' b { s with sum := x, calls := calls, got := got } A cn' cx' gx' lx wx ∧ cn' ≤ cn + mu s ∧ gx'.length ≤ gx.length + mu s ∧ Keep F w w'

set_option maxRecDepth 100000 in
set_option maxHeartbeats 1000000 in
theorem Next_none (ao : Option Addr) (ln lc k : Nat) (w : World)
    (h : WInv F w b s A cn cx gx lx wx) (hlines : s.lines = .slice ao ln lc) (hk : s.n = k) (hlt : ln ≤ k) (hcn : cn ≤ 1000000000000) (hgn : gx.length ≤ 1000000000000) :
    Calls Tryz.prog 216 #[.pointer (some ⟨b, 0, none⟩)] w (NonePost F b s A cn gx lx wx w) := by
  have H := hid h
  have HL := hid hlines
  have HK := hid hk
  clear h hlines hk
  go_enter Tryz.func216, Tryz.ntmps216
  go_wp2_with fail
  refine (note_any 0 _ none 0 0 [] w H.out rfl (fun _ => ⟨rfl, rfl⟩) (Cs.nil _ _) (by omega) (by intro a h; cases h) hcn hgn).mono ?_
  rintro e w1 ⟨rfl, x, calls, got, cn', cx', gx', h1, h2, h3, h4⟩
  have I1 := hid h1
  have K1 := hid h4
  have c0 := I1.out.blk.cell 0 (v := .slice ao ln lc) (by rw [← HL.out]; rfl)
  have c1 := I1.out.blk.cell 1 (v := .pointer none) rfl
  have c16 := I1.out.blk.cell 16 (v := .int .i64 (k : Int)) (by rw [← HK.out]; rfl)
  have hk1 : (ln : Int) ≤ (k : Int) := by omega
  clear h1 h4
  go_wp2
  go_quiet (fail)
  go_wp2
  go_ret2
  exact ⟨rfl, x, calls, got, cn', cx', gx', I1.out.drewN nq, h2, h3, K1.out.drewN nq⟩

def OutPost (F : Nat → Prop) (b : Nat) (s : WS) (A : List Int) (cn : Nat) (gx lx wx : List Value) (w : World) (r : Int) (e : Ending) (w' : World) : Prop :=
  e = .returned (.int .i64 r) ∧ ∃ x calls got all cn' cx' gx', WInv (Up F w) w' b { s with outs := s.outs + 1, sum := x, calls := calls, got := got, all := all } A cn' cx' gx' lx wx ∧ cn' ≤ cn + mu s ∧ gx'.length ≤ gx.length + mu s ∧ Keep F w w'

set_option maxRecDepth 100000 in
set_option maxHeartbeats 1000000 in
/-- Out of a world that keeps what it is told. -/
theorem Out_ok (ao : Option Addr) (n c : Nat) (bs : List Int) (w : World)
    (h : WInv F w b s A cn cx gx lx wx) (hd : s.deaf = false) (hm : s.most = 0) (ho1 : 0 ≤ s.outs) (ho2 : s.outs ≤ 1000000000000) (hf : s.fail = 0)
    (hn : n = bs.length) (hno : ao = none → n = 0 ∧ c = 0) (hc : Cs w ao (U8 bs)) (hbig : n ≤ 1099511627776) (hF : ∀ a, ao = some a → ¬ F a.block) (hcn : cn ≤ 1000000000000) (hgn : gx.length ≤ 1000000000000) (hA : A.length ≤ 35184372088832) :
    Calls Tryz.prog 217 #[.pointer (some ⟨b, 0, none⟩), .slice ao n c] w (OutPost F b s (A ++ bs) cn gx lx wx w 0) := by
  obtain ⟨i0, hi, hz0, hz1, hz2⟩ := info_parts info_u8
  have H := hid h
  have HD := hid hd
  have HM := hid hm
  have HF := hid hf
  have HN := hid hn
  have HO := hid hno
  have HC := hid hc
  have HFb := hid hF
  clear h hd hm hf hn hno hc hF
  go_enter Tryz.func217, Tryz.ntmps217
  go_wp2_with fail
  refine (note_any 1 _ ao n c bs w H.out HN.out HO.out HC.out hbig HFb.out hcn hgn).mono ?_
  rintro e w1 ⟨rfl, x, calls, got, cn', cx', gx', h1, h2, h3, h4⟩
  have I1 := hid h1
  have K1 := hid h4
  have c2 := I1.out.blk.cell 2 (v := .pointer none) rfl
  have c9 := I1.out.blk.cell 9 (v := .pointer none) rfl
  have c13 := I1.out.blk.cell 13 (v := .bool false) (by rw [← HD.out]; rfl)
  have c17 := I1.out.blk.cell 17 (v := .int .i64 s.outs) rfl
  have c19 := I1.out.blk.cell 19 (v := s.all) rfl
  have f1 := I1.out.blk.free
  have I2 := hid (I1.out.setCell 17 (.int .i64 (s.outs + 1)) (s' := { s with outs := s.outs + 1, sum := x, calls := calls, got := got }) rfl rfl rfl rfl rfl rfl)
  have K2 := hid (K1.out.setCell (p := ⟨b, 17, none⟩) (fun _ => H.out.fb) (.int .i64 (s.outs + 1)))
  clear h1 h4
  go_wp2_with (first
    | (at_builtin; refine wpList_append_row _ rfl (.tmp 36) (.tmp 37) 33 rfl 5 i0 (.int .u8 0) 1 1 Tryz.underlying33 hi hz0 hz1 hz2 rfl (by decide) s.all A.length (U8 A) rfl I2.out.all ao n c (U8 bs) rfl (by rw [HN.out, U8_len]; omega) HO.out (HC.out.keep K2.out HFb.out) (U8_one bs) (by unfold maxLen; omega) (by omega) (A.length + n) (U8 (A ++ bs)) rfl (by simp [U8]) ?_
       intro av5 cv5 w5 ho5 hg5 hb5
       have b5 := I2.out.blk.grown hg5 (blk_apart I2.out.blk I2.out.all (by decide))
       have c5a := b5.cell 19 (v := s.all) rfl
       have c5b := b5.cell 9 (v := .pointer none) rfl
       have f5 := b5.free
       have I5 := hid (I2.out.pushAll (A ++ bs) (.slice av5 (A.length + n) cv5) (by rw [show (A ++ bs).length = A.length + n from by rw [HN.out]; simp]; exact ho5) hg5 hb5 (Up F w) (fun k h => h) (fun k h => .inr (by have := K2.out.size; omega)))
       have K5 := hid (Keep.setCell (Keep.grown K2.out hg5 (fun k e hlt => (I2.out.fall k e).elim id (fun h => by omega))) (p := ⟨b, 19, none⟩) (fun _ => H.out.fb) (.slice av5 (A.length + n) cv5))
       clear ho5 hg5 hb5 b5))
  go_quiet (fail)
  go_wp2_with fail
  refine (told_ok _ (I5.out.drewN nq) ?_ HM.out).mono ?_
  · show s.outs + 1 ≠ s.fail
    rw [HF.out]; omega
  rintro e w6 ⟨rfl, q, rfl⟩
  go_wp2_with fail
  go_ret
  exact ⟨rfl, x, calls, got, _, cn', cx', gx', I5.out.drewN (nq + q), h2, h3, K5.out.drewN (nq + q)⟩

end Go.Proofs.YtaelokmcmflmiaaGreatDoor
