/-
  Contracts of the core: read into the pattern space.
-/
import Derived.Test.YtaelokmcmflmiaaGreatDoorCore
namespace Go.Proofs.YtaelokmcmflmiaaGreatDoor
open Go.RowKit

/-- A list of lines, in blocks of L. -/
def Lines (L : Nat → Prop) (w : World) (v : Value) (R : List (List Int)) : Prop :=
  ∃ ao lc, v = .slice ao R.length lc ∧ ∀ (k : Nat) (r : List Int), R[k]? = some r → ∃ lb lo ro c, ao = some ⟨lb, lo, none⟩ ∧ L lb ∧ w.cell? ⟨lb, lo + k, none⟩ = some (.slice ro r.length c) ∧ (∀ a, ro = some a → r ≠ [] → L a.block) ∧ Cs w ro (U8 r)

theorem Lines.keep {L G : Nat → Prop} {w w' : World} {v : Value} {R : List (List Int)} (h : Lines L w v R) (hk : Keep G w w') (hd : ∀ k, L k → ¬ G k) : Lines L w' v R := by
  obtain ⟨ao, lc, rfl, h⟩ := h
  refine ⟨ao, lc, rfl, fun k r hr => ?_⟩
  obtain ⟨lb, lo, ro, c, h1, h2, h3, h4, h5⟩ := h k r hr
  refine ⟨lb, lo, ro, c, h1, h2, ?_, h4, h5.keepU hk (fun a ha hne => hd _ (h4 a ha hne))⟩
  rw [World.cell?_of_block (w := w) (hk.block lb (block_lt_of_cell h3) (hd _ h2))]
  exact h3

/-- What a world's lists may still take. -/
structure Fits (cn : Nat) (gx lx wx : List Value) : Prop where
  c : cn ≤ 1000000000000
  g : gx.length ≤ 1000000000000
  l : lx.length < 1000
  w : wx.length ≤ 1000000000000

def ReadPost (F : Nat → Prop) (cb sp wb : Nat) (cs : CS) (hold : Value) (most : Int) (s : WS) (A : List Int) (cn : Nat) (gx lx wx : List Value) (bs : List Int) (w : World) (e : Ending) (w' : World) : Prop :=
  e = .returned (.int .i64 0) ∧ ∃ v x calls got lent was cn' cx' gx' lx' wx' sz, Blk w' cb ({ cs with flag := false }.cells cb) 82 ∧ Blk w' sp (spaceL v hold most) 116 ∧ Sl w' v (U8 bs) ∧ (∀ k, v.ownBlock = some k → sz ≤ k ∧ k < w'.heap.size) ∧ w.heap.size ≤ sz ∧
    WInv (fun k => F k ∨ (w.heap.size ≤ k ∧ k < sz)) w' wb { s with n := s.n + 1, sum := x, calls := calls, got := got, lent := lent, was := was } A cn' cx' gx' lx' wx' ∧
    (cn' ≤ cn + mu s ∧ gx'.length ≤ gx.length + mu s ∧ lx'.length ≤ lx.length + mu s ∧ wx'.length ≤ wx.length + mu s) ∧ Keep (fun k => F k ∨ k = cb ∨ k = sp) w w'

theorem WInv.tight {F : Nat → Prop} {w : World} {b : Nat} {s : WS} {A : List Int} {cn : Nat} {cx gx lx wx : List Value} (h : WInv F w b s A cn cx gx lx wx) : WInv (fun k => F k ∧ k < w.heap.size) w b s A cn cx gx lx wx :=
  { h with
    fb := ⟨h.fb, h.blk.lt⟩
    fall := fun k e => ⟨h.fall k e, (h.all.lt k e).2⟩
    fcalls := fun k e => ⟨h.fcalls k e, (h.calls.lt k e).2⟩
    fgot := fun k e => ⟨h.fgot k e, (h.got.lt k e).2⟩
    flent := fun k e => ⟨h.flent k e, (h.lent.lt k e).2⟩
    fwas := fun k e => ⟨h.fwas k e, (h.was.lt k e).2⟩ }

set_option maxRecDepth 100000 in
set_option maxHeartbeats 2000000 in
/-- read: there is a line, and it is put. -/
theorem read_some (F L : Nat → Prop) (cb sp wb k : Nat) (cs : CS) (pat hold : Value) (most : Int) (s : WS) (A : List Int) (cn : Nat) (cx gx lx wx : List Value) (R : List (List Int)) (bs : List Int) (w : World)
    (hc : Blk w cb (cs.cells cb) 82) (hwb : cs.wb = wb) (hsp : Blk w sp (spaceL pat hold most) 116)
    (h : WInv F w wb s A cn cx gx lx wx) (hF : ∀ k, F k → k < w.heap.size) (hcb : ¬ F cb) (hfs : ¬ F sp)
    (hl : Lines L w s.lines R) (hLF : ∀ k, L k → ¬ F k) (hL : ∀ k, L k → k < w.heap.size) (hk : s.n = k) (hr : R[k]? = some bs) (hR : R.length ≤ 2147483647) (hm : (bs.length : Int) ≤ most) (hbig : bs.length ≤ 1000000000000) (hfit : Fits cn gx lx wx) :
    Calls Tryz.prog 24 #[.pointer (some ⟨cb, 0, none⟩), .func (.func 25) #[.pointer (some ⟨sp, 0, none⟩)] #[]] w (ReadPost F cb sp wb cs hold most s A cn gx lx wx bs w) := by
  subst hwb
  obtain ⟨ao, lc, hlines, hrows⟩ := hl
  obtain ⟨lb, lo, ro, c, rfl, hLb, hrow, hLr, hrcs⟩ := hrows k bs hr
  have hlt : k < R.length := (List.getElem?_eq_some_iff.1 hr).1
  have HC := hid hc
  have HS := hid hsp
  have H := hid h
  have HF := hid hF
  have HB := hid hcb
  have HFS := hid hfs
  have HR := hid hrow
  have HX := hid hrcs
  have c5 : w.cell? ⟨cb, 5, none⟩ = some (.iface 35 (.pointer (some ⟨cs.wb, 0, none⟩))) := Core.wb hc
  have m1 := meth_Next
  have N1 := hid (Next_some lb lo R.length lc k ro bs.length c bs w h hlines hk hlt (by omega) hrow rfl hrcs (by omega) (hLF _ hLb) (fun a ha hne => hLF _ (hLr a ha hne)) hfit.c hfit.g hfit.l hfit.w)
  clear hc hsp h hF hcb hfs hrow hrcs hlines hrows hr hk hLF hL hLb hLr
  go_enter Tryz.func24, Tryz.ntmps24
  go_wp2_with fail
  refine N1.out.mono ?_
  rintro e w1 ⟨ao', c', x, calls, got, lent, was, cn', cx', gx', lx', wx', rfl, h1, h2, h3, h4, h5, h6⟩
  have I1 := hid h4
  have K1 := hid h6
  have D1 := hid (HC.out.keep h6 HB.out)
  have S1 := hid (HS.out.keep h6 HFS.out)
  have c8 := Core.flag D1.out
  have f1 := D1.out.free
  have E1 := hid h1
  have E2 := hid h2
  have E3 := hid h3
  clear h1 h2 h3 h4 h6 N1 m1
  have hne : cb ≠ sp := fun e => by subst e; exact absurd (Blk.inj HC.out HS.out).2 (by decide)
  have D2 := hid (Core.setFlag D1.out false)
  have S2 := hid (S1.out.setO (a := ⟨cb, 266, none⟩) (fun e => hne e.symm) (.bool false))
  have K2 := hid (Keep.setCell (F := (· = cb)) (Keep.refl _ w1) (p := ⟨cb, 266, none⟩) (fun _ => rfl) (.bool false))
  have hc1 : cb < w.heap.size := HC.out.lt
  have hs1 : sp < w.heap.size := HS.out.lt
  have hs2 : w.heap.size ≤ w1.heap.size := K1.out.size
  have E4 := hid (E2.out.keep K2.out (fun a ha e => by have := E3.out a ha; omega))
  go_wp2_with fail
  refine (Put_fits sp pat hold most ao' bs.length c' bs _ S2.out rfl E1.out E4.out hm (by omega)).mono ?_
  rintro e w3 ⟨v, rfl, p1, p2, p3, p4⟩
  have P1 := hid p1
  have P2 := hid p2
  have P3 := hid p3
  have P4 := hid p4
  clear p1 p2 p3 p4
  go_wp2_with fail
  go_ret
  have hB := HB.out
  have hFS := HFS.out
  refine ⟨rfl, v, x, calls, got, lent, was, cn', cx', gx', lx', wx', w1.heap.size, D2.out.keep P4.out hne, P1.out, P2.out, ?_, hs2, ?_, h5, ?_⟩
  · intro k hk
    have := P3.out k hk
    simpa using this
  · have t1 := I1.out.tight.mono (G := fun k => F k ∨ (w.heap.size ≤ k ∧ k < w1.heap.size)) (fun k hk => hk.1.elim (fun h => .inl h) (fun h => .inr ⟨h, hk.2⟩))
    refine (t1.keep K2.out ?_).keep P4.out ?_
    · rintro k (h | h) rfl
      · exact hB h
      · omega
    · rintro k (h | h) rfl
      · exact hFS h
      · omega
  · refine ((K1.out.mono (G := fun k => F k ∨ k = cb ∨ k = sp) (fun i _ h => .inl h)).trans K2.out (fun i _ h => .inr (.inl h))).trans P4.out (fun i _ h => .inr (.inr h))

def ReadNone (F : Nat → Prop) (cb wb : Nat) (cs : CS) (s : WS) (A : List Int) (cn : Nat) (gx lx wx : List Value) (w : World) (e : Ending) (w' : World) : Prop :=
  e = .returned (.int .i64 0) ∧ ∃ x calls got cn' cx' gx', Blk w' cb ({ cs with next := -2 }.cells cb) 82 ∧
    WInv (fun k => F k ∨ (w.heap.size ≤ k ∧ k < w'.heap.size)) w' wb { s with sum := x, calls := calls, got := got } A cn' cx' gx' lx wx ∧ (cn' ≤ cn + mu s ∧ gx'.length ≤ gx.length + mu s) ∧ Keep (fun k => F k ∨ k = cb) w w'

set_option maxRecDepth 100000 in
set_option maxHeartbeats 1000000 in
/-- read: there is no line. -/
theorem read_none (F L : Nat → Prop) (cb wb k : Nat) (put : Value) (cs : CS) (s : WS) (A : List Int) (cn : Nat) (cx gx lx wx : List Value) (R : List (List Int)) (w : World)
    (hc : Blk w cb (cs.cells cb) 82) (hwb : cs.wb = wb) (h : WInv F w wb s A cn cx gx lx wx) (hcb : ¬ F cb)
    (hl : Lines L w s.lines R) (hk : s.n = k) (hr : R.length ≤ k) (hfit : Fits cn gx lx wx) :
    Calls Tryz.prog 24 #[.pointer (some ⟨cb, 0, none⟩), put] w (ReadNone F cb wb cs s A cn gx lx wx w) := by
  subst hwb
  obtain ⟨ao, lc, hlines, _⟩ := hl
  have HC := hid hc
  have HB := hid hcb
  have c5 : w.cell? ⟨cb, 5, none⟩ = some (.iface 35 (.pointer (some ⟨cs.wb, 0, none⟩))) := Core.wb hc
  have m1 := meth_Next
  have N1 := hid (Next_none ao R.length lc k w h hlines hk hr hfit.c hfit.g)
  have hc1 : cb < w.heap.size := hc.lt
  clear hc h hcb hlines hk
  go_enter Tryz.func24, Tryz.ntmps24
  go_wp2_with fail
  refine N1.out.mono ?_
  rintro e w1 ⟨rfl, x, calls, got, cn', cx', gx', h4, h5, h6, h7⟩
  have I1 := hid h4
  have K1 := hid h7
  have D1 := hid (HC.out.keep h7 HB.out)
  have c10 := Core.next D1.out
  have f1 := D1.out.free
  clear h4 h7 N1 m1
  go_wp2_with fail
  go_ret
  have hB := HB.out
  have K2 : Keep (· = cb) w1 (w1.setCell ⟨cb, 268, none⟩ (.int .i64 (-2))) := Keep.one _ _ _ _
  refine ⟨rfl, x, calls, got, cn', cx', gx', Core.setNext D1.out (-2), ?_, ⟨h5, h6⟩, (K1.out.mono (G := fun k => F k ∨ k = cb) (fun i _ h => .inl h)).trans K2 (fun i _ h => .inr h)⟩
  have t1 := I1.out.tight.mono (G := fun k => F k ∨ (w.heap.size ≤ k ∧ k < w1.heap.size)) (fun k hk => hk.1.elim (fun h => .inl h) (fun h => .inr ⟨h, hk.2⟩))
  have t2 := t1.keep K2 (by
    rintro k (h | h) rfl
    · exact hB h
    · omega)
  simpa using t2

end Go.Proofs.YtaelokmcmflmiaaGreatDoor
