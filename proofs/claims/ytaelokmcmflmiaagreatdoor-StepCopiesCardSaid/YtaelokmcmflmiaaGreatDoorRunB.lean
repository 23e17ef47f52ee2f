/-
  The law's run, walked.
-/
import Derived.Test.YtaelokmcmflmiaaGreatDoorRun
namespace Go.Proofs.YtaelokmcmflmiaaGreatDoor
open Go.RowKit

theorem Ph.facts {G0 : Nat → Prop} {w0 w : World} {p : Pl} {n : Nat} {quiet : Bool} {R : List (List Int)} {lines : Value} {i : Nat} {a : Int} (h : Ph G0 w0 p n quiet R lines i a w) (hn : n = 0 ∨ n = 1) :
    w.cell? ⟨p.mb, 0, none⟩ = some (.pointer (some ⟨p.cb, 0, none⟩)) ∧ w.cell? ⟨p.cb, 267, none⟩ = some (.int .i64 a) ∧ (∀ o, w.frozen? ⟨p.wb, o, none⟩ = false) ∧ i ≤ (n + 2) * R.length + 1 ∧ (a = -2 ↔ i = (n + 2) * R.length + 1) ∧ (∃ v, w.cell? ⟨p.wb, 21, none⟩ = some v) ∧ (∃ v, w.cell? ⟨p.wb, 22, none⟩ = some v) := by
  obtain ⟨F, cs, P, x, hs, hk, hq, hmu, hli, hnil, hat, k, hkR, hst, hou, hph⟩ := h
  refine ⟨hs.m.cell 0 rfl, by rw [← hat]; exact Core.pos hs.core, hs.world.blk.free, ?_⟩
  rw [← and_assoc]
  refine ⟨?_, ⟨_, hs.world.blk.cell 21 rfl⟩, ⟨_, hs.world.blk.cell 22 rfl⟩⟩
  rcases hph with ⟨hi, rfl, _⟩ | ⟨j, rfl, hP, hxn, ⟨rfl, hi, rfl, hst', hou', hA⟩ | ⟨hi, rfl, hou', hA⟩⟩ | ⟨hi, _, rfl, _⟩
  · rcases hn with rfl | rfl <;> omega
  · omega
  · rcases hn with rfl | rfl <;> omega
  · omega

theorem Ph.clear {G0 : Nat → Prop} {w0 w : World} {p : Pl} {n : Nat} {quiet : Bool} {R : List (List Int)} {lines : Value} {i : Nat} {a : Int} (h : Ph G0 w0 p n quiet R lines i a w) :
    Ph G0 w0 p n quiet R lines i a ((w.setCell ⟨p.wb, 21, none⟩ (.slice none 0 0)).setCell ⟨p.wb, 22, none⟩ (.slice none 0 0)) := by
  obtain ⟨F, cs, P, x, hs, hk, hq, hmu, hli, ⟨hcn, hgx, hlx, hwx⟩, hat, hrest⟩ := h
  have K := ((Keep.one w p.wb 21 (.slice none 0 0)).trans (Keep.one _ p.wb 22 (.slice none 0 0)) (G := fun k => k = p.wb) (fun _ _ h => h))
  have hF := hs.world.fb
  have hlt : ∀ k, Got G0 w0 w k → Got G0 w0 ((w.setCell ⟨p.wb, 21, none⟩ (.slice none 0 0)).setCell ⟨p.wb, 22, none⟩ (.slice none 0 0)) k := fun k e => e.imp id (fun e => ⟨e.1, by simpa using e.2⟩)
  obtain ⟨pat, hold, h1, h2, h3⟩ := hs.space
  obtain ⟨oo, oc, h4⟩ := hs.gates
  have hw := hs.world.clear
  rw [hlx, hwx] at hw
  have hfine := hs.fine
  refine ⟨F, cs, P, ⟨{ x.s with calls := .slice none 0 0, got := .slice none 0 0 }, x.A, 0, [], [], [], []⟩, Sys.mono (G := Got G0 w0 w) { hs with
    m := hs.m.keep K (fun e => hs.nf.1 (by rw [e]; exact hF))
    core := hs.core.keep K (fun e => hs.nf.2.1 (by rw [e]; exact hF))
    space := ⟨pat, hold, h1.keep K (fun e => hs.nf.2.2.1 (by rw [e]; exact hF)), h2.keep K (fun k e f => (h3 k e).1 (by rw [f]; exact hF)), fun k e => ⟨(h3 k e).1, (h3 k e).2.1, (h3 k e).2.2.1, (h3 k e).2.2.2.1, (h3 k e).2.2.2.2.1, Nat.lt_of_lt_of_le (h3 k e).2.2.2.2.2 K.size⟩⟩
    queue := hs.queue.keep K (fun e => hs.nf.2.2.2.1 (by rw [e]; exact hF))
    gates := ⟨oo, oc, h4.keep K (fun e => hs.nf.2.2.2.2 (by rw [e]; exact hF))⟩
    world := hw
    prog := hs.prog.keep K (fun k e => .inl (fun f => e.2.1 (by rw [f]; exact hF))) rfl
    flt := fun k e => Nat.lt_of_lt_of_le (hs.flt k e) K.size
    fit := ⟨by (show (0:Nat) ≤ _); decide, by (show (0:Nat) ≤ _); decide, by (show (0:Nat) < _); decide, by (show (0:Nat) ≤ _); decide⟩
    fine := ⟨hfine.deaf, hfine.most, hfine.fail, hfine.outs0, hfine.outs1, by (show (0:Nat) ≤ _); decide, by (show (0:Nat) ≤ _); decide, hfine.A⟩ } hlt,
    hk.trans K (fun k hk e => (hs.fg k (by rw [e]; exact hF)).elim id (fun f => by omega)), hq, hmu, hli, ⟨rfl, rfl, rfl, rfl⟩, hat, hrest⟩

set_option maxRecDepth 100000 in
set_option maxHeartbeats 1000000 in
theorem run_any (G0 L : Nat → Prop) (w0 : World) (p : Pl) (n : Nat) (quiet : Bool) (R : List (List Int)) (lines : Value) (N : Nat) (most : Int)
    (h : Ph G0 w0 p n quiet R lines 0 (-1) w0) (hn : n = 0 ∨ n = 1) (hl : Lines L w0 lines R) (hLG : ∀ k, L k → ¬ G0 k) (hL : ∀ k, L k → k < w0.heap.size)
    (hsum : (R.map (fun P => P.length + 1)).sum ≤ 2147483647) (hlen : ∀ (k : Nat) P, R[k]? = some P → P.length ≤ 1048576) (hN : N = (n + 2) * R.length + 1) (hm : N ≤ most) (hm2 : most ≤ 1000000000000) :
    Calls Tryz.prog 8 #[.pointer (some ⟨p.mb, 0, none⟩), .pointer (some ⟨p.wb, 0, none⟩), .int .i64 most] w0 fun e w' => e = .returned (.bool true) ∧ Ph G0 w0 p n quiet R lines N (-2) w' := by
  have H := hid h
  have S := hid (fun i a w h ha => Step_ph G0 L w0 p n quiet R lines i a w h ha hn hl hLG hL hsum hlen)
  have HN := hid hN
  have hNb : N ≤ 1000000000000 := by omega
  clear h hl hLG hL hsum hlen hN
  go_enter Tryz.func8, Tryz.ntmps8
  go_wp2_with fail
  go_loopw [7] (fun i wr => ∃ (k : Nat) (a : Int), k ≤ N ∧ i = .int .i64 k ∧ Hid (Ph G0 w0 p n quiet R lines k a wr)) (fun i _ => N - (intOf i).toNat)
  case atStart => exact ⟨0, -1, by omega, rfl, H⟩
  case round =>
    obtain ⟨k, a, hk, rfl, hp⟩ := hrel
    obtain ⟨e1, e2, e3, e4, e5, _, _⟩ := hp.out.facts hn
    clear H
    by_cases hlt : k = N
    · have ha : a = -2 := e5.2 (by rw [hlt]; exact HN.out)
      subst ha
      subst hlt
      have E5 := hid e5
      clear e5 e3 e4 S
      go_wp2_with fail
      · refine (At_any p.mb p.cb (-2) wr e1 e2).mono ?_
        rintro e w1 ⟨rfl, rfl⟩
        go_wp2_with fail
        refine (At_any p.mb p.cb (-2) wr e1 e2).mono ?_
        rintro e w1 ⟨rfl, rfl⟩
        go_wp2_with fail
        go_ret
        exact ⟨rfl, hp.out⟩
      · refine (At_any p.mb p.cb (-2) wr e1 e2).mono ?_
        rintro e w1 ⟨rfl, rfl⟩
        go_wp2_with fail
        go_ret
        exact ⟨rfl, hp.out⟩
    · have ha : a ≠ -2 := fun e => hlt ((e5.1 e).trans HN.out.symm)
      have hkm : (k : Int) < most := by omega
      have hx : (a != -2) = true := by simpa using ha
      have T := hid (S.out k a wr hp.out ha)
      clear e5 e3 e4 S
      go_wp2_with fail
      refine (At_any p.mb p.cb a wr e1 e2).mono ?_
      rintro e w1 ⟨rfl, rfl⟩
      go_wp2_with fail
      refine T.out.mono ?_
      rintro e w1 ⟨rfl, a', hp1⟩
      have P1 := hid hp1.clear
      have f1 := (hp1.facts hn).2.2.1
      have g1 := hid ((hp1.facts hn).2.2.2.1)
      obtain ⟨v1, y1⟩ := (hp1.facts hn).2.2.2.2.2.1
      obtain ⟨v2, y2⟩ := (hp1.facts hn).2.2.2.2.2.2
      clear hp1 T
      go_wp2_with fail
      go_roundw
      case rel => exact ⟨k + 1, a', by have := g1.out; have := HN.out; omega, by go_num, P1⟩
      case measure => have := g1.out; have := HN.out; simp [intOf]; omega

end Go.Proofs.YtaelokmcmflmiaaGreatDoor
