/-
  The statement StepCopies is proved: for every list of lines the law returns true, and the lines read as they did. Conditions: the listed package-level variables start as the program's text lays them (tied by the given tie).
-/
import Derived.Test.YtaelokmcmflmiaaGreatDoorCopies
import Derived.Test.YtaelokmcmflmiaaGreatDoorRows
import Derived.Test.YtaelokmcmflmiaaGreatDoorCards
import Derived.Test.YtaelokmcmflmiaaGreatDoorTie
import Derived.ProofKit
import Derived.OpenShut
import Derived.LaidMore
import Derived.Lay
import Derived.Carry
import Derived.SevenTiedAt
import Derived.Stop.Joined
import Derived.Deep.Matrix
namespace Go.Proofs.YtaelokmcmflmiaaGreatDoor
open Go.ChangeShapes Go.WideShapes Go.ChangeAt Go.RowKit Go.Deep

theorem own : ownKnob Tryz.prog.godebug = none := by kernel_rfl
theorem laidOut : laidOutB Tryz.prog = true := by kernel_rfl
theorem cells_row : Tryz.prog.cellsOf 33 = 1 := by kernel_rfl
theorem cells_byte : Tryz.prog.cellsOf 5 = 1 := by kernel_rfl
theorem bytes_row : Tryz.prog.bytesOf 33 = 24 := by kernel_rfl
theorem bytes_byte : Tryz.prog.bytesOf 5 = 1 := by kernel_rfl
theorem bytes_rowC : Tryz.checked.prog.bytesOf 33 = 24 := by kernel_rfl
theorem bytes_byteC : Tryz.checked.prog.bytesOf 5 = 1 := by kernel_rfl

theorem weightsAll_mem {H : Type} {P : Program} {e : TypeId} : ∀ {ds : List (DataW H)} {d : DataW H}, d ∈ ds → ∀ n ∈ d.weights P e, n ∈ DataW.weightsAll P e ds
  | [], _, h, _, _ => by cases h
  | d0 :: r, d, h, n, hn => by
    simp only [DataW.weightsAll, List.mem_append]
    rcases List.mem_cons.1 h with rfl | h
    · exact .inl hn
    · exact .inr (weightsAll_mem h n hn)

theorem sized_row {H : Type} {P : Program} {ts : List TypeId} {ds : List (DataW H)} (h : (DataW.weightsEach P ts ds).all (· ≤ reachBytes) = true) {j : Nat} {t e q : TypeId} {elems spare xs ys : List (DataW H)} (ht : ts[j]? = some t) (hd : ds[j]? = some (.slice elems spare))
    (hu : P.underlying t = some (.slice e)) (he : P.underlying e = some (.slice q)) (hm : (DataW.slice xs ys) ∈ elems) : (xs.length + ys.length) * P.bytesOf q ≤ reachBytes := by
  have h1 : (xs.length + ys.length) * P.bytesOf q ∈ (DataW.slice xs ys).weights P e := by simp [DataW.weights, he]
  have h2 : (xs.length + ys.length) * P.bytesOf q ∈ (DataW.slice elems spare).weights P t := by
    simp only [DataW.weights, hu, List.mem_cons, List.mem_append]
    exact .inr (.inl (weightsAll_mem hm _ h1))
  have := List.all_eq_true.1 h _ (DataW.weights_mem_each ht hd _ h2)
  simpa using this

/-- The rows, as lists of numbers. -/
def rowsOf (len : Nat) (L : Nat → Nat) (Z : Nat → List Int) : List (List Int) := (List.range len).map fun r => (Z r).take (L r)

theorem rowsOf_len (len : Nat) (L : Nat → Nat) (Z : Nat → List Int) : (rowsOf len L Z).length = len := by simp [rowsOf]
theorem rowsOf_get {len : Nat} {L : Nat → Nat} {Z : Nat → List Int} {k : Nat} {r : List Int} (h : (rowsOf len L Z)[k]? = some r) : k < len ∧ r = (Z k).take (L k) := by
  have hk : k < len := by
    have := (List.getElem?_eq_some_iff.1 h).1
    rw [rowsOf_len] at this; exact this
  refine ⟨hk, ?_⟩
  simp [rowsOf, hk] at h
  exact h.symm

/-- The law, at whatever lines lie in memory. -/
theorem law_any (L : Nat → Prop) (ao : Option Addr) (lc : Nat) (R : List (List Int)) (w : World) (hl : Lines L w (.slice ao R.length lc) R) (hL : ∀ k, L k → k < w.heap.size)
    (hnil : ∀ (lb lo k n c : Nat), ao = some ⟨lb, lo, none⟩ → k < R.length → w.cell? ⟨lb, lo + k, none⟩ = some (.slice none n c) → c = 0) (hR : R.length ≤ 140737488355328) (hrow : ∀ P ∈ R, P.length ≤ 140737488355328) :
    Calls Tryz.prog 3 #[.slice ao R.length lc] w fun e w' => e = .returned (.bool true) ∧ Below w.heap.size w w' := by
  by_cases hT : sumL R ≤ 2147483647
  · exact copies_any L ao lc R w hl hL hnil hT
  · exact copies_long L ao lc R w hl (by omega) hR hrow

set_option maxRecDepth 100000 in
set_option maxHeartbeats 1600000 in
theorem lifted (os : Os) (started : os.Started) (H : Type) (enc : TypeId × Value → H) :
    ReturnsInHanded {} Tryz.checked os 3 .any (fun w args => (Rows.stepCopiesSpec.pre enc Tryz.prog Tryz.f3 Rows.stepCopiesRow.domain false w args ∧ laidMetH Tryz.prog Rows.stepCopiesRow.laid w) ∧ sizedMet enc Tryz.prog Tryz.f3 (OpenSpec.ofChange Rows.stepCopiesSpec) false w args)
      (Rows.stepCopiesSpec.post enc Tryz.prog Tryz.f3 false true false false) := by
  refine returnsInHanded_of_change_and (C := Tryz.checked) (X := fun w _ => laidMetH Tryz.prog Rows.stepCopiesRow.laid w) (fun _ _ _ hh h => h.of_heap hh) own started (by kernel_rfl) Tryz.func3
    (ChangeSpec.witness_shaped (enc := enc) (C := Tryz.checked) (os := os) (X := fun w _ => laidMetH Tryz.prog Rows.stepCopiesRow.laid w) false (World.laidAll Tryz.prog os Rows.stepCopiesRow.laid) #[.slice none 0 0] 8 (World.laidAll_os _ _ _)
      (World.shaped_of_ZipB (by kernel_rfl) (by kernel_rfl)) (by kernel_rfl) (by kernel_rfl) (by kernel_rfl)
      (by rw [MakeChecks.laidMetH_plain _ _ _ (by kernel_rfl)]; exact laidMet_laidAll _ (by kernel_rfl) (by kernel_rfl))) ?_
  intro W base args ds gs before hval0 hW _ hsz0 _ _
  have hsz : (DataW.weightsEach Tryz.prog (Tryz.f3.params.toList ++ Rows.stepCopiesSpec.plain.varTypes Tryz.prog) (ds ++ gs)).all (· ≤ reachBytes) = true := hsz0
  clear hsz0
  have hval : ∀ (j : Nat) t v, Tryz.f3.params[j]? = some t → args[j]? = some v → Value.okWide Tryz.prog W .any base t v := hval0
  have hW' := hW
  obtain ⟨p, q, hA0, hV, rfl, _, _⟩ := hW
  have hA : DataW.TrodAll enc Tryz.prog W 0 (fun _ => true) true Tryz.f3.params.toList args.toList ds p := hA0
  rw [Tryz.params3] at hA hval hsz
  obtain ⟨v0, d0, rfl, rfl, h0⟩ := trodAll_one hA
  obtain ⟨rfl, rfl⟩ := trodVars_none hV
  obtain ⟨a0, len, cap, rfl⟩ := okWide_slice Tryz.underlying22 (hval 0 22 v0 rfl rfl)
  have h0k := h0
  obtain ⟨fuel0, hf⟩ := h0
  clear hA0 hval0 hA
  simp only [List.append_nil] at hW'
  have hlt : ∀ x ∈ p, x.block < W.heap.size := fun x hx => hW'.lt x hx
  have fin : ∀ (e : Ending) (W' : World), (e = .returned (.bool true) ∧ Below W.heap.size W W') → ∃ v, e = .returned v ∧ Rows.stepCopiesSpec.post enc Tryz.prog Tryz.f3 false true false false W #[.slice a0 len cap] v W' := by
    rintro e W' ⟨rfl, hb⟩
    refine ⟨_, rfl, _, _, _, [], p, [], hW', ?_, ?_, rfl, hb.frame _, fun h => by cases h⟩
    · exact trodAll_mk1 (shut_bool Tryz.underlying4 _)
    · exact trodAll_mk1 (Below.trod laidOut (by kernel_rfl) (of_decide_eq_true (by kernel_rfl)) h0k hb hlt)
  have maxLen_eq : maxLen = 9223372036854775807 := rfl
  have reach_eq : reachBytes = 140737488351232 := rfl
  rcases open_int_rows Tryz.underlying22 Tryz.underlying33 Tryz.underlying5 cells_row cells_byte hf with ⟨hcs0, hx⟩ | ⟨a, len', cap', A, L, C, Z, hcs0, _, hl, hm, hx, hrows⟩
  · simp [Value.cells] at hcs0
    obtain ⟨rfl, rfl, rfl⟩ := hcs0
    refine (law_any (fun k => k < W.heap.size) none 0 [] W ⟨none, 0, rfl, fun k r hr => by simp at hr⟩ (fun _ h => h) (fun _ _ _ _ _ h => by cases h) (by simp) (fun P h => by cases h)).mono fin
  simp [Value.cells] at hcs0
  obtain ⟨rfl, rfl, rfl⟩ := hcs0
  simp only [Prod.mk.injEq] at hx
  obtain ⟨rfl, rfl⟩ := hx
  generalize hrest : DataSpec.varTypes Tryz.prog Rows.stepCopiesSpec.plain = rest at hsz
  have hw1 := sized_slice hsz (j := 0) (t := 22) (e := 33) rfl rfl Tryz.underlying22
  simp only [List.length_map, List.length_range, bytes_row, bytes_rowC, reach_eq] at hw1
  have hrl : ∀ r, r < len → L r ≤ 140737488351232 := by
    intro r hr
    obtain ⟨_, e1, e2, e3, _, e5, _⟩ := hrows r (by omega)
    cases hA : A r with
    | none => have := e5 hA; omega
    | some a' =>
      have hmem : intRow (H := H) .u8 (A r) (L r) (Z r) ∈ (List.range len).map fun r => intRow (H := H) .u8 (A r) (L r) (Z r) := List.mem_map.2 ⟨r, List.mem_range.2 hr, rfl⟩
      simp only [hA, intRow] at hmem
      have h1 := sized_row hsz (j := 0) (t := 22) (e := 33) (q := 5) rfl rfl Tryz.underlying22 Tryz.underlying33 hmem
      simp only [lits, List.length_map, List.length_take, List.length_drop, e3, bytes_byte, bytes_byteC, reach_eq] at h1
      omega
  have key := law_any (fun k => k < W.heap.size) (some a) cap (rowsOf len L Z) W ⟨some a, cap, rfl, fun k r hr => ?_⟩ (fun _ h => h) ?_ (by rw [rowsOf_len]; omega) ?_
  · rw [rowsOf_len] at key
    exact key.mono fin
  · obtain ⟨hk, rfl⟩ := rowsOf_get hr
    obtain ⟨c1, c2, c3, c4, _, c6, c7⟩ := hrows k (by omega)
    have c0 := (hrows 0 (by omega)).1
    obtain ⟨bm, om, spot⟩ := a
    obtain rfl : spot = none := by simpa [Addr.add] using World.cell?_spot c0
    rw [add_plain] at c1
    have hl2 : ((Z k).take (L k)).length = L k := by rw [List.length_take, c4]; omega
    refine ⟨bm, om, A k, C k, rfl, block_lt_of_cell c1, by rw [hl2]; exact c1, fun a' ha' hne => ?_, fun j u hu => ?_⟩
    · have h0 : 0 < C k := by
        have : 0 < ((Z k).take (L k)).length := List.length_pos_iff.2 hne
        omega
      have := block_lt_of_cell ((c7 a' ha').2 0 h0)
      simpa [Addr.add] using this
    · have hj : j < L k := by
        have := (List.getElem?_eq_some_iff.1 hu).1
        rw [U8_len, hl2] at this; exact this
      cases hA : A k with
      | none => have := c6 hA; omega
      | some a' =>
        have h0 := (c7 a' hA).2 0 (by omega)
        have h1 := (c7 a' hA).2 j (by omega)
        obtain ⟨b', o', spot'⟩ := a'
        obtain rfl : spot' = none := by simpa [Addr.add] using World.cell?_spot h0
        rw [add_plain] at h1
        refine ⟨b', o', rfl, h1.trans ?_⟩
        rw [← hu, U8_get _ _ (by rw [hl2]; exact hj)]
        have hz : j < (Z k).length := by omega
        simp [List.getD, List.getElem?_take_of_lt hj]
  · intro lb lo k n c ha hk hc
    cases ha
    rw [rowsOf_len] at hk
    obtain ⟨c1, _, _, _, _, c6, _⟩ := hrows k (by omega)
    rw [add_plain, hc] at c1
    simp only [Option.some.injEq, Value.slice.injEq] at c1
    rw [c1.2.2]
    exact c6 c1.1.symm
  · intro P hP
    obtain ⟨r, hr, rfl⟩ := List.mem_map.1 hP
    have := hrl r (List.mem_range.1 hr)
    rw [List.length_take]
    omega

theorem stepCopies_holds : Rows.StepCopiesSaid :=
  OpenClaim.holds_of_wide 3 Tryz.f3 rfl rfl rfl rfl rfl rfl rfl ⟨rfl, rfl, rfl, rfl, rfl⟩ rfl rfl rfl rfl rfl (by kernel_rfl) Tryz.func3 (by kernel_rfl)
    (of_decide_eq_true (by kernel_rfl)) (by unfold Func.isWrapper; first | (rw [if_pos (by decide +kernel)]; kernel_rfl) | (rw [if_neg (by decide +kernel)]; exact ⟨rfl, rfl⟩))
    (fun os started H enc _ => lifted os started H enc)

theorem stepCopies_card : Rows.StepCopiesCardSaid :=
  Claim7.holds_tied_plain_at .later [] _ true _ true stepCopies_holds (fun _ h => by cases h) (by kernel_rfl) (fun _ h => by cases h) stepCopies_row_tie rfl ⟨rfl, rfl⟩ (by kernel_rfl) rfl
    (fun f fn hf hfn => by
      obtain rfl : f = 3 := Option.some.inj ((show Tryz.prog.funcNamed "galley/galleylaw26.StepCopies" = some 3 by kernel_rfl).symm.trans hf) |>.symm
      obtain rfl : fn = Tryz.f3 := (Option.some.inj (Tryz.func3.symm.trans hfn)).symm
      exact ⟨by kernel_rfl, fun j t ht => by
        rw [Tryz.params3] at ht
        have hm : t ∈ [22] := by simpa using Array.mem_of_getElem? ht
        have hall : ([22].all fun u => !Tryz.prog.wantsStandIn u) = true := by kernel_rfl
        exact (show Tryz.prog.wantsStandIn t = false by simpa using List.all_eq_true.1 hall t hm)⟩)
    (by kernel_rfl)
#print axioms stepCopies_card

end Go.Proofs.YtaelokmcmflmiaaGreatDoor
