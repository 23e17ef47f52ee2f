/-
  The law's run: a system steps to its end.
-/
import Derived.Test.YtaelokmcmflmiaaGreatDoorStep
namespace Go.Proofs.YtaelokmcmflmiaaGreatDoor
open Go.RowKit

/-- What a line becomes. -/
def outL (n : Nat) (quiet : Bool) (P : List Int) : List Int := (if n = 1 then P ++ [10] else []) ++ (if quiet = true then [] else P ++ [10])
def outs (n : Nat) (quiet : Bool) (R : List (List Int)) : List Int := (R.map (outL n quiet)).flatten
theorem outs_next (n : Nat) (quiet : Bool) (R : List (List Int)) (k : Nat) (P : List Int) (h : R[k]? = some P) : outs n quiet (R.take (k + 1)) = outs n quiet (R.take k) ++ outL n quiet P := by
  obtain ⟨hk, rfl⟩ := List.getElem?_eq_some_iff.1 h
  unfold outs
  rw [List.take_succ_eq_append_getElem hk]
  simp only [List.map_append, List.map_cons, List.map_nil, List.flatten_append, List.flatten_cons, List.flatten_nil, List.append_nil]
theorem outL_len (n : Nat) (quiet : Bool) (P : List Int) : (outL n quiet P).length ≤ 2 * (P.length + 1) := by
  unfold outL
  split <;> split <;> simp <;> omega
theorem outs_len (n : Nat) (quiet : Bool) (R : List (List Int)) : (outs n quiet R).length ≤ 2 * (R.map (fun P => P.length + 1)).sum := by
  induction R with
  | nil => simp [outs]
  | cons P R ih =>
    have h := outL_len n quiet P
    simp only [outs, List.map_cons, List.flatten_cons, List.length_append, List.sum_cons] at *
    omega
theorem sum_take (R : List (List Int)) (k : Nat) (P : List Int) (h : R[k]? = some P) : ((R.take k).map (fun P => P.length + 1)).sum + (P.length + 1) ≤ (R.map (fun P => P.length + 1)).sum := by
  obtain ⟨hk, rfl⟩ := List.getElem?_eq_some_iff.1 h
  have e : R = R.take k ++ R[k] :: R.drop (k + 1) := by rw [List.getElem_cons_drop, List.take_append_drop]
  have e2 := congrArg (fun l => (l.map (fun P : List Int => P.length + 1)).sum) e
  simp only [List.map_append, List.map_cons, List.sum_append, List.sum_cons] at e2
  omega

section
variable {G F G' : Nat → Prop} {w w' : World} {p : Pl} {cs : CS} {n : Nat} {P : List Int} {x : WX}
theorem Sys.mono (h : Sys G F w p cs n P x) (hG : ∀ k, G k → G' k) : Sys G' F w p cs n P x := by
  obtain ⟨pat, hold, h1, h2, h3⟩ := h.space
  exact { h with
    space := ⟨pat, hold, h1, h2, fun k e => ⟨(h3 k e).1, (h3 k e).2.1, (h3 k e).2.2.1, (h3 k e).2.2.2.1, hG _ (h3 k e).2.2.2.2.1, (h3 k e).2.2.2.2.2⟩⟩
    prog := h.prog.mono (fun k _ e => ⟨hG _ e.1, e.2⟩)
    fg := fun k e => hG _ (h.fg k e)
    g := ⟨hG _ h.g.1, hG _ h.g.2.1, hG _ h.g.2.2.1, hG _ h.g.2.2.2.1, hG _ h.g.2.2.2.2⟩ }
theorem Sys.turn_g (h : Sys G F w p cs n P x) {k : Nat} (hk : Turn F p k) : G k := by
  rcases hk with e | e | e | e
  · exact h.fg k e
  · rw [e]; exact h.g.2.1
  · rw [e]; exact h.g.2.2.1
  · rw [e]; exact h.g.2.2.2.1
end

/-- The lists of calls and of what was handed over are let go. -/
theorem WInv.clear {F : Nat → Prop} {w : World} {b : Nat} {s : WS} {A : List Int} {cn : Nat} {cx gx lx wx : List Value} (h : WInv F w b s A cn cx gx lx wx) :
    WInv F ((w.setCell ⟨b, 21, none⟩ (.slice none 0 0)).setCell ⟨b, 22, none⟩ (.slice none 0 0)) b { s with calls := .slice none 0 0, got := .slice none 0 0 } A 0 [] [] lx wx := by
  have n1 : ∀ v : Value, InF (fun k => F k) (.slice none 0 0) := fun _ k e => by cases e
  exact { blk := (h.blk.set 21 (.slice none 0 0)).set 22 (.slice none 0 0), fb := h.fb, all := row_setCell (row_setCell h.all (blk_apart h.blk h.all (by decide)) _) (blk_apart h.blk h.all (by decide)) _, calls := World.ownsRow_nil _ _ _ _, got := World.ownsRow_nil _ _ _ _, lent := row_setCell (row_setCell h.lent (blk_apart h.blk h.lent (by decide)) _) (blk_apart h.blk h.lent (by decide)) _, was := row_setCell (row_setCell h.was (blk_apart h.blk h.was (by decide)) _) (blk_apart h.blk h.was (by decide)) _, fall := h.fall, fcalls := n1 (.slice none 0 0), fgot := n1 (.slice none 0 0), flent := h.flent, fwas := h.fwas, gl := (fun k e => by cases e), lw := h.lw }

/-- The system, after i steps; a: where it stands. -/
def Ph (G0 : Nat → Prop) (w0 : World) (p : Pl) (n : Nat) (quiet : Bool) (R : List (List Int)) (lines : Value) (i : Nat) (a : Int) (w : World) : Prop :=
  ∃ F cs P x, Sys (Got G0 w0 w) F w p cs n P x ∧ Keep G0 w0 w ∧ cs.quiet = quiet ∧ x.s.mute = true ∧ x.s.lines = lines ∧ (x.cn = 0 ∧ x.gx = [] ∧ x.lx = [] ∧ x.wx = []) ∧ cs.at_ = a ∧
    ∃ k, k ≤ R.length ∧ cs.steps ≤ k ∧ x.s.outs ≤ 2 * k ∧
     ((i = (n + 2) * k ∧ a = -1 ∧ x.s.n = k ∧ x.A = outs n quiet (R.take k)) ∨
      (∃ j, k = j + 1 ∧ R[j]? = some P ∧ x.s.n = k ∧ ((n = 1 ∧ i = (n + 2) * j + 1 ∧ a = 0 ∧ cs.steps ≤ j ∧ x.s.outs ≤ 2 * j ∧ x.A = outs n quiet (R.take j)) ∨ (i = (n + 2) * j + n + 1 ∧ a = n ∧ x.s.outs ≤ 2 * j + 1 ∧ x.A = outs n quiet (R.take j) ++ (if n = 1 then P ++ [10] else [])))) ∨
      (i = (n + 2) * R.length + 1 ∧ k = R.length ∧ a = -2 ∧ x.A = outs n quiet R))

theorem len_le_sum (R : List (List Int)) : R.length ≤ (R.map (fun P => P.length + 1)).sum := by
  induction R with
  | nil => simp
  | cons P R ih => simp only [List.map_cons, List.sum_cons, List.length_cons]; omega

theorem Keep.got {G0 F : Nat → Prop} {w0 w w' : World} {p : Pl} {cs : CS} {n : Nat} {P : List Int} {x : WX} (h : Sys (Got G0 w0 w) F w p cs n P x) (h1 : Keep G0 w0 w) (h2 : Keep (Turn F p) w w') : Keep G0 w0 w' :=
  h1.trans h2 (fun i hi ht => (h.turn_g ht).elim id (fun e => by omega))
theorem got_got {G0 : Nat → Prop} {w0 w w' : World} (h1 : w0.heap.size ≤ w.heap.size) (h2 : w.heap.size ≤ w'.heap.size) : ∀ k, Got (Got G0 w0 w) w w' k → Got G0 w0 w' k := by
  rintro k ((h | h) | h)
  · exact .inl h
  · exact .inr ⟨h.1, by omega⟩
  · exact .inr ⟨by omega, h.2⟩

/-- A step of a system that has not ended. -/
theorem Step_ph (G0 L : Nat → Prop) (w0 : World) (p : Pl) (n : Nat) (quiet : Bool) (R : List (List Int)) (lines : Value) (i : Nat) (a : Int) (w : World)
    (h : Ph G0 w0 p n quiet R lines i a w) (ha : a ≠ -2) (hn : n = 0 ∨ n = 1) (hl : Lines L w0 lines R) (hLG : ∀ k, L k → ¬ G0 k) (hL : ∀ k, L k → k < w0.heap.size)
    (hsum : (R.map (fun P => P.length + 1)).sum ≤ 2147483647) (hlen : ∀ (k : Nat) P, R[k]? = some P → P.length ≤ 1048576) :
    Calls Tryz.prog 13 #[.pointer (some ⟨p.mb, 0, none⟩)] w fun e w' => e = .returned (.int .i64 0) ∧ ∃ a', Ph G0 w0 p n quiet R lines (i + 1) a' w' := by
  obtain ⟨F, cs, P, x, hs, hk, hq, hmu, hli, ⟨hcn, hgx, hlx, hwx⟩, hat, k, hkR, hst, hou, hph⟩ := h
  have hm0 : mu x.s = 0 := by simp [mu, hmu]
  have hLw : Lines L w x.s.lines R := by rw [hli]; exact hl.keep hk hLG
  have hLG' : ∀ k, L k → ¬ Got G0 w0 w k := fun k e f => f.elim (hLG k e) (fun f => by have := hL k e; omega)
  have hL' : ∀ k, L k → k < w.heap.size := fun k e => Nat.lt_of_lt_of_le (hL k e) hk.size
  have hRl := len_le_sum R
  have hgl : x.gx.length = 0 := by rw [hgx]; rfl
  have hll : x.lx.length = 0 := by rw [hlx]; rfl
  have hwl : x.wx.length = 0 := by rw [hwx]; rfl
  have nil0 : ∀ l : List Value, l.length ≤ 0 → l = [] := fun l e => List.eq_nil_of_length_eq_zero (by omega)
  rcases hph with ⟨hi, rfl, hxn, hA⟩ | ⟨j, rfl, hP, hxn, ⟨rfl, hi, rfl, hst', hou', hA⟩ | ⟨hi, rfl, hou', hA⟩⟩ | ⟨_, _, rfl, _⟩
  · by_cases hlt : k < R.length
    · have hr : R[k]? = some R[k] := List.getElem?_eq_getElem hlt
      refine (Step_read _ F L p cs n P x R k R[k] w hs hat hLw hLG' hL' hxn hr (by omega) (hlen k _ hr) ⟨by omega, by omega, by omega, by omega⟩).mono ?_
      rintro e w' ⟨rfl, F', cs', x', hs', hF', hk', q1, q2, q3, q4, q5, q6, q7, q8, q9, q10, q11, q12⟩
      rw [hm0] at q9 q10 q11 q12
      refine ⟨rfl, 0, F', cs', R[k], x', hs'.mono (got_got hk.size hk'.size), Keep.got hs hk hk', q3.trans hq, q5.trans hmu, q4.trans hli, ⟨by omega, nil0 _ (by omega), nil0 _ (by omega), nil0 _ (by omega)⟩, q1, k + 1, by omega, by omega, by rw [q7]; omega, .inr (.inl ⟨k, rfl, hr, by rw [q6]; simp, ?_⟩)⟩
      rcases hn with rfl | rfl
      · exact .inr ⟨by omega, by simp, by rw [q7]; omega, by rw [q8, hA]; simp⟩
      · exact .inl ⟨rfl, by omega, rfl, by omega, by rw [q7]; omega, by rw [q8, hA]⟩
    · have hkR' : k = R.length := by omega
      refine (Step_none _ F L p cs n P x R k w hs hat hLw hLG' hxn (by omega) ⟨by omega, by omega⟩).mono ?_
      rintro e w' ⟨rfl, F', cs', x', hs', hF', hk', q1, q2, q3, q4, q5, q6, q7, q8, q9, q10, q11, q12⟩
      rw [hm0] at q9 q10
      refine ⟨rfl, -2, F', cs', P, x', hs'.mono (got_got hk.size hk'.size), Keep.got hs hk hk', q3.trans hq, q4.trans hmu, q7.trans hli, ⟨by omega, nil0 _ (by omega), q11.trans hlx, q12.trans hwx⟩, q1, k, hkR, by omega, by rw [q8]; exact hou, .inr (.inr ⟨by rw [hi, hkR'], hkR', rfl, by rw [q6, hA, hkR', List.take_length]⟩)⟩
  · obtain ⟨ao, lc, hlv, _⟩ := hLw
    have hjl : j < R.length := by omega
    have hout := outs_len 1 quiet (R.take j)
    have hst := sum_take R j P hP
    refine (Step_cmd _ F p cs P x ao R.length lc hlv w hs hat (by omega) ⟨by omega, by omega, by omega, by rw [hA]; omega⟩).mono ?_
    rintro e w' ⟨rfl, F', cs', x', hs', hF', hk', q1, q2, q3, q4, q5, q6, q7, q8, q9, q10, q11, q12⟩
    rw [hm0] at q9 q10
    refine ⟨rfl, 1, F', cs', P, x', hs'.mono (got_got hk.size hk'.size), Keep.got hs hk hk', q3.trans hq, q5.trans hmu, q4.trans hli, ⟨by omega, nil0 _ (by omega), q11.trans hlx, q12.trans hwx⟩, q1, j + 1, hkR, by omega, by rw [q7]; omega, .inr (.inl ⟨j, rfl, hP, by rw [q6]; exact hxn, .inr ⟨by omega, rfl, by rw [q7]; omega, by rw [q8, hA]; simp⟩⟩)⟩
  · have hout := outs_len n quiet (R.take j)
    have hst' := sum_take R j P hP
    have hAl : x.A.length ≤ 2 * ((R.take j).map (fun P => P.length + 1)).sum + (P.length + 1) := by
      have : (if n = 1 then P ++ [10] else []).length ≤ P.length + 1 := by split <;> simp
      rw [hA, List.length_append]; omega
    refine (Step_end _ F p cs n P x (if quiet = true then 0 else 1) (outs n quiet (R.take (j + 1))) ?_ w hs hat ⟨by omega, by omega, by omega, by omega⟩).mono ?_
    · rw [outs_next n quiet R j P hP, hA]
      cases quiet
      · exact .inr ⟨hq, rfl, by simp [outL]⟩
      · exact .inl ⟨hq, rfl, by simp [outL]⟩
    rintro e w' ⟨rfl, F', cs', x', hs', hF', hk', q1, q2, q3, q4, q5, q6, q7, q8, q9, q10, q11, q12⟩
    rw [hm0] at q9 q10
    have hq1 : (if quiet = true then 0 else 1 : Nat) ≤ 1 := by split <;> omega
    refine ⟨rfl, -1, F', cs', P, x', hs'.mono (got_got hk.size hk'.size), Keep.got hs hk hk', q3.trans hq, q5.trans hmu, q4.trans hli, ⟨by omega, nil0 _ (by omega), q11.trans hlx, q12.trans hwx⟩, q1, j + 1, hkR, by omega, by rw [q7]; omega, .inl ⟨?_, rfl, by rw [q6]; exact hxn, q8⟩⟩
    rw [hi]; rcases hn with rfl | rfl <;> omega
  · exact absurd rfl ha

end Go.Proofs.YtaelokmcmflmiaaGreatDoor
