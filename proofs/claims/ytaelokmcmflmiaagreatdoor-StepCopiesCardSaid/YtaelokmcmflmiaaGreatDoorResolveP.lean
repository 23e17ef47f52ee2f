/-
  resolve.Resolve of the one command p.
-/
import Derived.Test.YtaelokmcmflmiaaGreatDoorResolve
import Derived.Great.BuildSlice
namespace Go.Proofs.YtaelokmcmflmiaaGreatDoor
open Go.RowKit
attribute [local go_sem ↓] exec_ldCmd
attribute [local go_sem ↓] exec_stCmd

theorem ld_cmd {w : World} {b : Nat} {cmd : List Value} (h : w.rangeAt b 0 cmd) (hc : CmdZ cmd) : (ldCmd (.pointer (some ⟨b, 0, none⟩))).run Tryz.prog w = .ok (.agg cmd.toArray) w :=
  run_loadAt_mid w b 0 60 cmd _ h Tryz.underlying60 rfl (by rw [hc.len]; kernel_rfl)
theorem Blk.range {w : World} {b : Nat} {l : List Value} {t : TypeId} (h : Blk w b l t) : w.rangeAt b 0 l := fun j v hv => by rw [Nat.zero_add]; exact h.cell j hv
theorem info_cmd : (Tryz.prog.info? 60).map (fun i => (i.zero, i.size, i.bytes)) = some (some (.agg Tryz.zeroCells60), 272, 440) := by kernel_rfl

theorem size_sets {b : Nat} : ∀ (vs : List Value) (o : Nat) (w : World), (w.setCells b o vs).heap.size = w.heap.size
  | [], _, _ => rfl
  | v :: r, o, w => by rw [World.setCells, size_sets r]; simp
theorem Blk.newAt {w : World} {n : Nat} (h : n = w.heap.size) (l : List Value) (t : TypeId) : Blk (w.alloc (.cells l.toArray t)) n l t := by
  subst h; exact Blk.new w l t

/-- A slice of one command, kept from the walk's own rules. -/
def bsCmd (v : Value) : Sem Value := Instr.buildSlice 28 1 #[(0, v)]
theorem exec_bsCmd (ρ : Operand → Value) (d : Option Tmp) (x : Operand) (ty : TypeId) (ps : String) (af : Array Edge) (g : Option (Nat × Bool)) (w : World) :
    Sem.run Tryz.prog (execOp ρ { dst := d, op := Op.buildSlice 28 1 #[(0, x)], type := ty, pos := ps, after := af, guard := g }) w = (Sem.run Tryz.prog (bsCmd (ρ x)) w).andThen fun v w' => .ok (.value v) w' := by
  unfold execOp bsCmd
  simp only [Sem.run_bind, Sem.run_map, Sem.run_pure, List.map_toArray, List.map_cons, List.map_nil]
attribute [local go_sem ↓] exec_bsCmd
theorem run_bsCmd {cmd : List Value} (hc : CmdZ cmd) (w : World) : (bsCmd (.agg cmd.toArray)).run Tryz.prog w = .ok (.slice (some ⟨w.heap.size, 0, none⟩) 1 1) (w.alloc (.cells cmd.toArray 60)) := by
  obtain ⟨i0, hi, hz0, hz1, hz2⟩ := info_parts info_cmd
  have h := Great.fill_whole (s := 272) (by decide) [Value.agg cmd.toArray] ((Array.range (1 * 272)).map ((Value.agg Tryz.zeroCells60).cells[· % (Value.agg Tryz.zeroCells60).cells.size]!)) (by intro v hv; simp at hv; subst hv; simpa [Value.cells] using hc.len) (by simp)
  refine run_buildSlice w _ _ 1 _ cmd.toArray i0 _ Tryz.underlying28 hi hz0 (by rw [hz1]; decide) (by rw [hz1]; decide) ?_
  rw [hz1]
  refine Eq.trans ?_ (h.trans ?_)
  · rfl
  · simp [Value.cells]
theorem list_new (w : World) (l : List Value) (t : TypeId) : Cs (w.alloc (.cells l.toArray t)) (some ⟨w.heap.size, 0, none⟩) l := by
  intro j u hj
  exact ⟨w.heap.size, 0, rfl, by rw [Nat.zero_add]; exact (Blk.new w l t).cell j hj⟩

theorem row_one {w7 : World} {t : TypeId} {av : Option Addr} {cv : Nat} {cmd : List Value} (h : w7.ownsRow 0 t 272 (.slice av 1 cv) 1 cmd) : ∃ nb, av = some ⟨nb, 0, none⟩ ∧ w7.rangeAt nb 0 cmd := by
  obtain ⟨hlen, (⟨_, h0⟩ | ⟨g, cap, cur, he, _, hg, _, _, _, htk⟩)⟩ := h
  · cases h0
  · cases he
    refine ⟨g, rfl, fun j v hv => ?_⟩
    have hj : j < 1 * 272 := by rw [← hlen]; exact (List.getElem?_eq_some_iff.1 hv).1
    rw [← htk, List.getElem?_take_of_lt hj] at hv
    simp [World.cell?, hg]
    simpa using hv

def ResolveP (quiet : Bool) (w : World) (e : Ending) (w' : World) : Prop :=
  ∃ nb nc tb cmd', CmdZ cmd' ∧ e = .returned (.tuple #[.agg #[.slice (some ⟨nb, 0, none⟩) 1 nc, .slice (some ⟨tb, 0, none⟩) 1 1, .slice none 0 0, .bool quiet], .int .i64 0, .int .i64 0]) ∧ w'.rangeAt nb 0 cmd' ∧ w'.cell? ⟨tb, 0, none⟩ = some (.int .i64 (-1)) ∧ Below w.heap.size w w' ∧ w.heap.size ≤ nb ∧ w.heap.size ≤ tb

set_option maxRecDepth 100000 in
set_option maxHeartbeats 2000000 in
theorem Resolve_p (quiet : Bool) (ab c : Nat) (cmd : List Value) (w : World) (hc : CmdZ cmd) (h : w.rangeAt ab 0 cmd) : Calls Tryz.prog 18 #[.slice (some ⟨ab, 0, none⟩) 1 c, .bool quiet] w (ResolveP quiet w) := by
  have hmf : ∀ (fn : Fn) (first cap : Array Value) (w : World), (Instr.makeFunc fn first cap).run Tryz.prog w = .ok (.func fn first cap) w := fun _ _ _ _ => rfl
  have hmk := make_ints1
  have hmm := make_map
  have HC := hid hc
  have HR := hid h
  have hab : ab < w.heap.size := block_lt_of_cell (by have := h 0 _ hc.c0; simpa using this)
  clear hc h
  go_enter Tryz.func18, Tryz.ntmps18
  go_wp2_with fail
  go_step3
  go_wp2_with fail
  go_step3
  go_wp2_with fail
  generalize hw1 : World.alloc _ (Obj.map #[] 0) = w1
  have X0 := hid (show Blk w1 w.heap.size [.slice (some ⟨ab, 0, none⟩) 1 c] 28 by rw [← hw1]; exact ((((Blk.new w [.slice (some ⟨ab, 0, none⟩) 1 c] _).alloc _).alloc _).alloc _).alloc _)
  have X1 := hid (show Blk w1 (w.heap.size + 1) [.slice none 0 0, .slice none 0 0, .slice none 0 0, .bool false] 32 by
    rw [← hw1]; have h := (((Blk.new (w.alloc (Obj.cells #[Value.slice (some ⟨ab, 0, none⟩) 1 c] 28)) [.slice none 0 0, .slice none 0 0, .slice none 0 0, .bool false] 32).alloc (.cells #[.int .i64 0] 3)).alloc (.cells #[Value.slice none 0 0, Value.slice (some { block := w.heap.size + 1 + 1, off := 0 }) 1 1, Value.slice none 0 0, Value.bool quiet] 32)).alloc (.map #[] 0)
    rw [show (w.alloc (Obj.cells #[Value.slice (some ⟨ab, 0, none⟩) 1 c] 28)).heap.size = w.heap.size + 1 from by simp] at h; exact h)
  have X2 := hid (show Blk w1 (w.heap.size + 2) [.int .i64 0] 3 by rw [← hw1]; exact ((Blk.newAt (by simp) [.int .i64 0] _).alloc _).alloc _)
  have X3 := hid (show Blk w1 (w.heap.size + 3) [.slice none 0 0, .slice (some ⟨w.heap.size + 2, 0, none⟩) 1 1, .slice none 0 0, .bool quiet] 32 by rw [← hw1]; exact (Blk.newAt (by simp) [.slice none 0 0, .slice (some ⟨w.heap.size + 2, 0, none⟩) 1 1, .slice none 0 0, .bool quiet] _).alloc _)
  have BB1 := hid (show Below w.heap.size w w1 by rw [← hw1]; exact (((((Below.refl _ w).alloc (Nat.le_refl _) _).alloc (by simp) _).alloc (by simp; omega) _).alloc (by simp; omega) _).alloc (by simp; omega) _)
  have Z1 : w1.heap.size = w.heap.size + 5 := by rw [← hw1]; simp
  have R1 := hid (show w1.rangeAt ab 0 cmd from fun j v hv => (BB1.out.cell (p := ⟨ab, 0 + j, none⟩) hab).trans (HR.out j v hv))
  have ld1 := ld_cmd R1.out HC.out
  clear hw1 hmk hmm
  refine wp_loop_rounds 2 ?_
  rw [rounds_succ]
  go_wp2_with fail
  obtain ⟨st, BS⟩ := run_stCmd (Blk.newAt (w := w1) (n := w.heap.size + 5) Z1.symm Tryz.zeroCells60.toList 60) zero_len HC.out
  simp only [Array.toArray_toList] at st BS
  rw [st]
  generalize hw2 : (w1.alloc (Obj.cells Tryz.zeroCells60 60)).setCells (w.heap.size + 5) 0 cmd = w2 at *
  have K2 : Keep (fun k => k = w.heap.size + 5) w1 w2 := by rw [← hw2]; exact ((Keep.refl _ _).alloc _).trans (Keep.sets _ _ _) (fun _ _ h => h)
  have Y5 := hid BS
  have Y0 := hid (X0.out.keep K2 (by omega))
  have Y1 := hid (X1.out.keep K2 (by omega))
  have Y2 := hid (X2.out.keep K2 (by omega))
  have Y3 := hid (X3.out.keep K2 (by omega))
  have R2 := hid (show w2.rangeAt ab 0 cmd from fun j v hv => (World.cell?_of_block (w := w1) (K2.block ab (by omega) (by omega))).trans (R1.out j v hv))
  have BB2 := hid (BB1.out.trans ((Keep.mono K2 (G := fun k => w.heap.size ≤ k) (fun _ _ h => by omega)) |> fun k => (⟨k.os, k.tape, k.output, k.size, fun i hi => k.block i (by omega) (by omega)⟩ : Below w.heap.size w1 w2)))
  have Z2 : w2.heap.size = w.heap.size + 6 := by rw [← hw2]; simp [size_sets, Z1]
  clear X0 X1 X2 X3 R1 BB1 K2 BS st hw2 ld1 Z1
  clear w1
  have c2 := Y2.out.cell 0 rfl
  have c31 := Y3.out.cell 1 rfl
  have f2 := Y2.out.free
  go_wp2_with fail
  generalize hw3 : w2.setCell { block := w.heap.size + 2, off := 0 } (Value.int IntKind.i64 (-1)) = w3 at *
  have V5 := hid (show Blk w3 (w.heap.size + 5) cmd 60 by rw [← hw3]; exact Y5.out.setO (by simp) _)
  have V0 := hid (show Blk w3 w.heap.size _ 28 by rw [← hw3]; exact Y0.out.setO (by simp) _)
  have V1 := hid (show Blk w3 (w.heap.size + 1) _ 32 by rw [← hw3]; exact Y1.out.setO (by simp) _)
  have V2 := hid (show Blk w3 (w.heap.size + 2) [.int .i64 (-1)] 3 by rw [← hw3]; exact Y2.out.set 0 _)
  have V3 := hid (show Blk w3 (w.heap.size + 3) _ 32 by rw [← hw3]; exact Y3.out.setO (by simp) _)
  have R3 := hid (show w3.rangeAt ab 0 cmd from fun j v hv => by rw [← hw3]; exact (World.cell?_of_block (w := w2) (Below.heap_setCell _ _ _ _ (by show ab ≠ w.heap.size + 2; omega))).trans (R2.out j v hv))
  have BB3 := hid (show Below w.heap.size w w3 by rw [← hw3]; exact BB2.out.setCell (by simp) _)
  have Z3 : w3.heap.size = w.heap.size + 6 := by rw [← hw3]; simp [Z2]
  clear Y0 Y1 Y2 Y3 Y5 R2 BB2 hw3 c2 c31 f2 Z2
  clear w2
  rw [ld_cmd V5.out.range HC.out]
  go_wp2_with fail
  refine (Shaped_p cmd HC.out _).mono ?_
  rintro e w4 ⟨rfl, b4⟩
  have U5 := hid (V5.out.below b4 (by omega))
  have U0 := hid (V0.out.below b4 (by omega))
  have U1 := hid (V1.out.below b4 (by omega))
  have U2 := hid (V2.out.below b4 (by omega))
  have U3 := hid (V3.out.below b4 (by omega))
  have R4 := hid (show w4.rangeAt ab 0 cmd from fun j v hv => (b4.cell (p := ⟨ab, 0 + j, none⟩) (by simp; omega)).trans (R3.out j v hv))
  have BB4 := hid (BB3.out.trans (b4.mono (by omega)))
  have Z4 : w.heap.size + 6 ≤ w4.heap.size := by have := b4.size; omega
  clear b4 V0 V1 V2 V3 V5 R3 BB3 Z3
  have c57 := U5.out.cell 7 HC.out.c7
  have c59 := U5.out.cell 9 HC.out.c9
  have ld5 := ld_cmd U5.out.range HC.out
  go_wp2_with fail
  refine (writes_p cmd HC.out _).mono ?_
  rintro e w5 ⟨rfl, b5⟩
  have V5 := hid (U5.out.below b5 (by omega))
  have V0 := hid (U0.out.below b5 (by omega))
  have V1 := hid (U1.out.below b5 (by omega))
  have V2 := hid (U2.out.below b5 (by omega))
  have V3 := hid (U3.out.below b5 (by omega))
  have R5 := hid (show w5.rangeAt ab 0 cmd from fun j v hv => (b5.cell (p := ⟨ab, 0 + j, none⟩) (by simp; omega)).trans (R4.out j v hv))
  have BB5 := hid (BB4.out.trans (b5.mono (by omega)))
  have Z5 : w.heap.size + 6 ≤ w5.heap.size := by have := b5.size; omega
  clear b5 U0 U1 U2 U3 U5 R4 BB4 Z4 ld5 c57 c59
  go_wp2_with fail
  have ld5 : ∀ n, (ldCmd (.pointer (some ⟨w.heap.size + 5, 0, none⟩))).run Tryz.prog (w5.drewN n) = .ok (.agg cmd.toArray) (w5.drewN n) := fun n => ld_cmd (V5.out.drewN n).range HC.out
  have ld5' := ld_cmd V5.out.drew.range HC.out
  have c30 := V3.out.cell 0 rfl
  have f3 := V3.out.free
  have HI := hid (info_parts info_cmd)
  go_cut [] (fun wz => Hid (∃ nb nc cmd', CmdZ cmd' ∧ Blk wz (w.heap.size + 3) [.slice (some ⟨nb, 0, none⟩) 1 nc, .slice (some ⟨w.heap.size + 2, 0, none⟩) 1 1, .slice none 0 0, .bool quiet] 32 ∧ wz.rangeAt nb 0 cmd' ∧ w.heap.size + 5 < nb ∧ Keep (fun k => k = w.heap.size + 3) w5 wz))
  case first =>
    go_region_law (first
        | (rw [if_pos (by rfl)]; go_simp; go_at_call 36; go_must (refine (clone_p cmd HC.out _).mono ?_); rintro e w6 ⟨cmd', hc6, rfl, b6⟩; have HC6 := hid hc6; have hbs := run_bsCmd hc6 w6; have U3 := hid (V3.out.drew.below b6 (by (show _ < w5.heap.size); omega)); have BB6 := hid b6; have l63 : w.heap.size + 3 < w6.heap.size := U3.out.lt; have c30' := U3.out.cell 0 rfl; have f3' := U3.out.free; clear hc6 b6)
        | (obtain ⟨i0, hi, hz0, hz1, hz2⟩ := HI.out; go_must (refine step_append_row _ rfl (.tmp 78) (.tmp 81) 28 rfl 60 i0 _ 272 440 Tryz.underlying28 hi hz0 hz1 hz2 (by kernel_rfl) (by decide) (.slice none 0 0) 0 [] rfl (World.ownsRow_nil _ _ _ _) _ 1 1 cmd' rfl HC6.out.len (by intro h; cases h) (list_new _ _ _) HC6.out.one (by unfold maxLen; omega) (by omega) 1 cmd' rfl rfl ?_); intro av4 cv4 w7 ho7 hg7 hb7; have HO7 := hid ho7; have HG7 := hid hg7; have HB7 := hid hb7; have T3 := hid ((U3.out.alloc (.cells cmd'.toArray 60)).grown hg7 (by intro e; cases e)); have c30'' := T3.out.cell 0 rfl; have f3'' := T3.out.free; clear ho7 hg7 hb7))
    all_goals
      go_wp2_with fail
      go_meet
      obtain ⟨nb, rfl, hr7⟩ := row_one HO7.out
      have z6 : w5.heap.size ≤ w6.heap.size := BB6.out.size
      have hnb : w.heap.size + 5 < nb := by
        rcases HB7.out nb rfl with h | h
        · cases h
        · simp at h; omega
      refine ⟨nb, cv4, cmd', HC6.out, T3.out.set 0 _, fun j v hv => ?_, hnb, ?_⟩
      · exact (World.cell?_of_block (w := w7) (Below.heap_setCell _ _ _ _ (by show nb ≠ w.heap.size + 3; omega))).trans (hr7 j v hv)
      · exact Keep.setCell (F := fun k => k = w.heap.size + 3) (Keep.grown (F := fun k => k = w.heap.size + 3) (((Keep.refl _ w5).drew.new BB6.out).alloc _) HG7.out (by intro k h; cases h)) (fun _ => rfl) _
  case rest =>
    obtain ⟨nb, nc, cmd', hc6, t3, r3, hnb, k3⟩ := hcut.out
    clear hcut
    have Y0 := hid (V0.out.keep k3 (by omega))
    have Y1 := hid (V1.out.keep k3 (by omega))
    have Y2 := hid (V2.out.keep k3 (by omega))
    have Y5 := hid (V5.out.keep k3 (by omega))
    have Y3 := hid t3
    have YN := hid r3
    have HC6 := hid hc6
    have zc := k3.size
    have RC := hid (show wc.rangeAt ab 0 cmd from fun j v hv => (World.cell?_of_block (w := w5) (k3.block ab (by omega) (by omega))).trans (R5.out j v hv))
    have BBC := hid (BB5.out.trans (⟨k3.os, k3.tape, k3.output, k3.size, fun i hi => k3.block i (by omega) (by omega)⟩ : Below w.heap.size w5 wc))
    have hnb2 : nb < wc.heap.size := block_lt_of_cell (by have h := r3 0 _ hc6.c0; simpa using h)
    clear V0 V1 V2 V3 V5 R5 BB5 k3 t3 r3 hc6 ld5 ld5' c30 f3 HI
    have c57 := Y5.out.cell 7 HC.out.c7
    have c59 := Y5.out.cell 9 HC.out.c9
    have ld5 := ld_cmd Y5.out.range HC.out
    go_wp2_with fail
    refine (writes_p cmd HC.out _).mono ?_
    rintro e w6 ⟨rfl, b6⟩
    have V0 := hid (Y0.out.below b6 (by omega))
    have V1 := hid (Y1.out.below b6 (by have := Y1.out.lt; omega))
    have V2 := hid (Y2.out.below b6 (by have := Y2.out.lt; omega))
    have V3 := hid (Y3.out.below b6 (by have := Y3.out.lt; omega))
    have V5 := hid (Y5.out.below b6 (by have := Y5.out.lt; omega))
    have VN := hid (show w6.rangeAt nb 0 cmd' from fun j v hv => (b6.cell (p := ⟨nb, 0 + j, none⟩) hnb2).trans (YN.out j v hv))
    have R6 := hid (show w6.rangeAt ab 0 cmd from fun j v hv => (b6.cell (p := ⟨ab, 0 + j, none⟩) (by show ab < _; omega)).trans (RC.out j v hv))
    have BB6 := hid (BBC.out.trans (b6.mono (by omega)))
    have z6 := b6.size
    have hnb3 : nb < w6.heap.size := by omega
    clear b6 Y0 Y1 Y2 Y3 Y5 YN RC BBC ld5 c57 c59
    go_wp2_with fail
    rw [rounds_succ]
    have ldA := ld_cmd R6.out HC.out
    have e00 := V0.out.cell 0 rfl
    go_wp2_with fail
    refine wp_loop_rounds 2 ?_
    rw [rounds_succ]
    go_wp2_with fail
    obtain ⟨st, BS⟩ := run_stCmd (Blk.newAt (w := w6) (n := w6.heap.size) rfl Tryz.zeroCells60.toList 60) zero_len HC.out
    simp only [Array.toArray_toList] at st BS
    rw [st]
    generalize hw7 : (w6.alloc (Obj.cells Tryz.zeroCells60 60)).setCells w6.heap.size 0 cmd = w7 at *
    have K7 : Keep (fun k => k = w6.heap.size) w6 w7 := by rw [← hw7]; exact ((Keep.refl _ _).alloc _).trans (Keep.sets _ _ _) (fun _ _ h => h)
    have z7 := K7.size
    have Y1 := hid (V1.out.keep K7 (by have := V1.out.lt; omega))
    have Y2 := hid (V2.out.keep K7 (by have := V2.out.lt; omega))
    have Y3 := hid (V3.out.keep K7 (by have := V3.out.lt; omega))
    have YN := hid (show w7.rangeAt nb 0 cmd' from fun j v hv => (World.cell?_of_block (w := w6) (K7.block nb hnb3 (by omega))).trans (VN.out j v hv))
    have BB7 := hid (BB6.out.trans (⟨K7.os, K7.tape, K7.output, K7.size, fun i hi => K7.block i (by omega) (by omega)⟩ : Below w.heap.size w6 w7))
    have c7 := BS.cell 7 HC.out.c7
    clear V0 V1 V2 V3 V5 VN R6 BB6 ldA e00 st BS hw7 K7
    go_wp2_with fail
    rw [rounds_succ]
    have d0 := Y3.out.cell 0 rfl
    have d1 := Y3.out.cell 1 rfl
    have d2 := Y3.out.cell 2 rfl
    have d3 := Y3.out.cell 3 rfl
    have g0 := Y1.out.cell 0 rfl
    have g1 := Y1.out.cell 1 rfl
    have g2 := Y1.out.cell 2 rfl
    have g3 := Y1.out.cell 3 rfl
    have fg := Y1.out.free
    go_wp2_with fail
    simp only [Exit.noGoto]
    try go_at_K
    (try simp only [Exit.inBlock, Exit.then])
    have B8 := (((Y1.out.set 0 (Value.slice (some { block := nb, off := 0 }) 1 nc)).set 1 (Value.slice (some { block := w.heap.size + 2, off := 0 }) 1 1)).set 2 (Value.slice none 0 0)).set 3 (Value.bool quiet)
    have K8 := (((Keep.one w7 (w.heap.size + 1) 0 (Value.slice (some { block := nb, off := 0 }) 1 nc)).trans (Keep.one _ (w.heap.size + 1) 1 (Value.slice (some { block := w.heap.size + 2, off := 0 }) 1 1)) (fun _ _ h => h)).trans (Keep.one _ (w.heap.size + 1) 2 (Value.slice none 0 0)) (fun _ _ h => h)).trans (Keep.one _ (w.heap.size + 1) 3 (Value.bool quiet)) (fun _ _ h => h)
    generalize hw8 : ((((w7.setCell { block := w.heap.size + 1, off := 0 } (Value.slice (some { block := nb, off := 0 }) 1 nc)).setCell { block := w.heap.size + 1, off := 1 } (Value.slice (some { block := w.heap.size + 2, off := 0 }) 1 1)).setCell { block := w.heap.size + 1, off := 2 } (Value.slice none 0 0)).setCell { block := w.heap.size + 1, off := 3 } (Value.bool quiet)) = w8 at *
    refine bodyPost_ret (results_cell3 rfl _ _ _ (w.heap.size + 1) _ rfl (run_loadVar_mid _ _ _ _ [Value.slice (some { block := nb, off := 0 }) 1 nc, Value.slice (some { block := w.heap.size + 2, off := 0 }) 1 1, Value.slice none 0 0, Value.bool quiet] _ (fun j v hv => by rw [Nat.zero_add]; exact B8.cell j hv) Tryz.underlying32 rfl (by kernel_rfl))) rfl ?_
    refine ⟨nb, nc, w.heap.size + 2, cmd', HC6.out, rfl, fun j v hv => ?_, ?_, ?_, by omega, by omega⟩
    · exact (World.cell?_of_block (w := w7) (K8.block nb (by omega) (by omega))).trans (YN.out j v hv)
    · exact (World.cell?_of_block (w := w7) (K8.block (w.heap.size + 2) Y2.out.lt (by omega))).trans (Y2.out.cell 0 rfl)
    · exact BB7.out.trans (⟨K8.os, K8.tape, K8.output, K8.size, fun i hi => K8.block i (by omega) (by omega)⟩ : Below w.heap.size w7 w8)

end Go.Proofs.YtaelokmcmflmiaaGreatDoor
