/-
  Contracts of Machine.Step over a system: a line is read; there is none; the command p; the cycle's end.
-/
import Derived.Test.YtaelokmcmflmiaaGreatDoorSys
namespace Go.Proofs.YtaelokmcmflmiaaGreatDoor
open Go.RowKit

theorem goTo_zero {H : Nat → Prop} {w : World} {cb : Nat} {cs : CS} {n : Nat} (h : ProgIs H w cb cs n) (hc : Blk w cb (cs.cells cb) 82) :
    Calls Tryz.prog 28 #[.pointer (some ⟨cb, 0, none⟩), .int .i64 0] w fun e w' => e = .returned (.tuple #[]) ∧ w.setCell ⟨cb, 267, none⟩ (.int .i64 0) = w' := by
  rcases h with ⟨rfl, co, c, h2⟩ | ⟨rfl, ab, c, cmd, h2, h3, _⟩
  · exact goTo_end cb co 0 c 0 _ w (by rw [← h2]; exact Core.cmds hc) (Core.pos hc) hc.free (by simp)
  · exact goTo_first cb ab 1 c 112 _ w (by rw [← h2]; exact Core.cmds hc) (Core.pos hc) hc.free (by decide) (by have h := h3.range 7 _ h3.name; simpa using h) (by decide) (by decide)

/-- What a step leaves. -/
def StepPost (G F : Nat → Prop) (p : Pl) (n : Nat) (P : List Int) (w : World) (R : CS → WX → Prop) (e : Ending) (w' : World) : Prop :=
  e = .returned (.int .i64 0) ∧ ∃ F' cs' x', Sys (Got G w w') F' w' p cs' n P x' ∧ (∀ k, F' k → F k ∨ w.heap.size ≤ k) ∧ Keep (Turn F p) w w' ∧ R cs' x'

def ReadR (cs : CS) (x : WX) (k : Nat) (cs' : CS) (x' : WX) : Prop :=
  cs'.at_ = 0 ∧ cs'.steps = cs.steps ∧ cs'.quiet = cs.quiet ∧ x'.s.lines = x.s.lines ∧ x'.s.mute = x.s.mute ∧ x'.s.n = k + 1 ∧ x'.s.outs = x.s.outs ∧ x'.A = x.A ∧
    x'.cn ≤ x.cn + mu x.s ∧ x'.gx.length ≤ x.gx.length + mu x.s ∧ x'.lx.length ≤ x.lx.length + mu x.s ∧ x'.wx.length ≤ x.wx.length + mu x.s

set_option maxRecDepth 100000 in
set_option maxHeartbeats 2000000 in
/-- A step from the start: a line is read. -/
theorem Step_read (G F L : Nat → Prop) (p : Pl) (cs : CS) (n : Nat) (P : List Int) (x : WX) (R : List (List Int)) (k : Nat) (bs : List Int) (w : World)
    (h : Sys G F w p cs n P x) (hat : cs.at_ = -1) (hl : Lines L w x.s.lines R) (hLG : ∀ k, L k → ¬ G k) (hL : ∀ k, L k → k < w.heap.size) (hk : x.s.n = k) (hr : R[k]? = some bs) (hR : R.length ≤ 2147483647) (hb : bs.length ≤ 1048576)
    (hroom : x.cn + 1 ≤ 1000000000000 ∧ x.gx.length + 1 ≤ 1000000000000 ∧ x.lx.length + mu x.s < 1000 ∧ x.wx.length + 1 ≤ 1000000000000) :
    Calls Tryz.prog 13 #[.pointer (some ⟨p.mb, 0, none⟩)] w (StepPost G F p n bs w (ReadR cs x k)) := by
  obtain ⟨pat, hold, hsp, hpat, hpb⟩ := h.space
  have H := hid h
  have a0 : w.cell? ⟨p.mb, 0, none⟩ = some (.pointer (some ⟨p.cb, 0, none⟩)) := h.m.cell 0 rfl
  have a9 : w.cell? ⟨p.cb, 267, none⟩ = some (.int .i64 (-1)) := by rw [← hat]; exact Core.pos h.core
  have a10 := Core.next h.core
  have a0' : w.cell? ⟨p.cb, 0, none⟩ = some (.pointer (some ⟨p.sp, 0, none⟩)) := by rw [← h.esp]; exact Core.sp h.core
  have f0 := h.core.free
  have K1 := hid (Keep.one w p.cb 268 (.int .i64 0))
  have C1 := hid (Core.setNext h.core 0)
  have hsc : p.sp ≠ p.cb := fun e => absurd (Blk.inj hsp (by rw [e]; exact h.core)).2 (by decide)
  have S1 := hid (hsp.setO (a := ⟨p.cb, 268, none⟩) hsc (.int .i64 0))
  have W1 := hid (h.world.keep K1.out (fun k hk e => h.nf.2.1 (by cases e; exact hk)))
  have L1 := hid (hl.keep K1.out (fun k hk e => hLG k hk (by cases e; exact h.g.2.1)))
  have R1 := hid (read_some F L p.cb p.sp p.wb k _ pat hold 1048576 x.s x.A x.cn x.cx x.gx x.lx x.wx R bs _ C1.out h.ewb S1.out W1.out (fun k hk => by simpa using h.flt k hk) h.nf.2.1 h.nf.2.2.1 L1.out (fun k hk hf => hLG k hk (h.fg k hf)) (fun k hk => by simpa using hL k hk) hk hr hR (by omega) (by omega) h.fit)
  have HAT := hid hat
  have HK := hid hk
  clear h hl hpat hpb hsp hLG hL hr hat hk
  go_enter Tryz.func13, Tryz.ntmps13
  go_wp2_with fail
  refine R1.out.mono ?_
  rintro e w2 ⟨rfl, v, y, calls, got, lent, was, cn', cx', gx', lx', wx', sz, r1, r2, r3, r4, r5, r6, r7, r8⟩
  have C2 := hid r1
  have S2 := hid r2
  have V2 := hid r3
  have Z2 := hid r4
  have Z3 := hid r5
  have I2 := hid r6
  have B2 := hid r7
  have K2 := hid r8
  clear r1 r2 r3 r4 r5 r6 r7 r8 a0 a9 a10 a0' f0
  have b12 := Core.err C2.out
  have b10 : w2.cell? ⟨p.cb, 268, none⟩ = some (.int .i64 0) := Core.next C2.out
  have f2 := C2.out.free
  go_wp2_with fail
  have C3 := hid (Core.setErr C2.out 0)
  have K3 := hid (((K1.out.mono (G := Turn F p) (fun i _ h => .inr (.inl h))).trans K2.out (fun i _ h => h.elim (fun h => .inl h) (fun h => h.elim (fun h => .inr (.inl h)) (fun h => .inr (.inr (.inl h)))))).trans (Keep.one w2 p.cb 270 (.int .i64 0)) (fun i _ h => .inr (.inl h)))
  have hcm := H.out.prog.keep K3.out (cs' := { { { cs with next := 0 } with flag := false } with err := 0 }) (fun k e => by
    by_cases hc : k = p.cb
    · exact .inr hc
    · refine .inl (fun hT => ?_)
      rcases hT with f | f | f | f
      · exact e.2.1 f
      · exact hc f
      · exact e.2.2.1 f
      · exact e.2.2.2 f) rfl
  refine (goTo_zero hcm C3.out).mono ?_
  rintro e w4 ⟨rfl, rfl⟩
  go_wp2_with fail
  go_ret
  have C4 := Core.setAt C3.out 0
  have K4 := K3.out.trans (Keep.one (w2.setCell ⟨p.cb, 270, none⟩ (.int .i64 0)) p.cb 267 (.int .i64 0)) (G := fun k => k = p.cb) (fun i _ h => .inr (.inl h))
  have K24 : Keep (· = p.cb) w2 ((w2.setCell ⟨p.cb, 270, none⟩ (.int .i64 0)).setCell ⟨p.cb, 267, none⟩ (.int .i64 0)) := (Keep.one w2 p.cb 270 (.int .i64 0)).trans (Keep.one _ p.cb 267 (.int .i64 0)) (fun _ _ h => h)
  have hcz : p.cb < w.heap.size := H.out.core.lt
  have hsz : p.sp < w.heap.size := by obtain ⟨_, _, h1, _⟩ := H.out.space; exact h1.lt
  have hqz : p.qb < w.heap.size := H.out.queue.lt
  have z3 : w.heap.size ≤ sz := by simpa using Z3.out
  have hm : mu x.s ≤ 1 := by unfold mu; split <;> omega
  have hfit := H.out.fit
  have hfine := H.out.fine
  have hflt := H.out.flt
  obtain ⟨q1, q2, q3, q4⟩ := B2.out
  have I4 := (I2.out.keep K24 (by
    rintro k (h | h) rfl
    · exact H.out.nf.2.1 h
    · have := h.1; simp at this; omega)).tight
  have hne : p.qb ≠ p.cb := apart_of H.out.queue H.out.core (by decide)
  have hqs : p.qb ≠ p.sp := by obtain ⟨_, _, h1, _⟩ := H.out.space; exact apart_of H.out.queue h1 (by decide)
  have hqT : ¬ (F p.qb ∨ p.qb = p.cb ∨ p.qb = p.sp) := fun h => h.elim H.out.nf.2.2.2.1 (fun h => h.elim hne hqs)
  refine ⟨rfl, _, _, ⟨_, x.A, cn', cx', gx', lx', wx'⟩, H.out.step K4 (fun k hk => ?_) C4 ⟨rfl, rfl, rfl, rfl, rfl⟩ ⟨v, hold, (S2.out.setO hsc _).setO hsc _, V2.out.keep K24 (fun k hk e => ?_), fun k hk => ?_⟩ hb
    (((H.out.queue.setO hne _).keep K2.out hqT).keep K24 hne) I4 H.out.calm ⟨by (show cn' ≤ _); omega, by (show gx'.length ≤ _); omega, by (show lx'.length < _); omega, by (show wx'.length ≤ _); omega⟩ ⟨hfine.deaf, hfine.most, hfine.fail, hfine.outs0, hfine.outs1, by (show cn' ≤ _); omega, by (show gx'.length ≤ _); omega, hfine.A⟩ H.out.st, fun k hk => ?_, K4, ?_⟩
  · rcases hk.1 with h | h
    · exact .inl h
    · exact .inr ⟨by have := h.1; simp at this; omega, hk.2⟩
  · have := (Z2.out k hk).1; omega
  · have h1 := Z2.out k hk
    refine ⟨fun hf => ?_, by omega, by omega, by omega, .inr ⟨by omega, by simpa using h1.2⟩, by simpa using h1.2⟩
    rcases hf.1 with h | h
    · have := hflt k h; omega
    · omega
  · rcases hk.1 with h | h
    · exact .inl h
    · exact .inr (by have := h.1; simp at this; omega)
  · exact ⟨rfl, rfl, rfl, rfl, rfl, by rw [HK.out], rfl, rfl, q1, q2, q3, q4⟩

def NoneR (cs : CS) (x : WX) (cs' : CS) (x' : WX) : Prop :=
  cs'.at_ = -2 ∧ cs'.steps = cs.steps ∧ cs'.quiet = cs.quiet ∧ x'.s.mute = x.s.mute ∧ x'.s.n = x.s.n ∧ x'.A = x.A ∧ x'.s.lines = x.s.lines ∧ x'.s.outs = x.s.outs ∧
    x'.cn ≤ x.cn + mu x.s ∧ x'.gx.length ≤ x.gx.length + mu x.s ∧ x'.lx = x.lx ∧ x'.wx = x.wx

set_option maxRecDepth 100000 in
set_option maxHeartbeats 2000000 in
/-- A step from the start: there is no line: the machine has ended. -/
theorem Step_none (G F L : Nat → Prop) (p : Pl) (cs : CS) (n : Nat) (P : List Int) (x : WX) (R : List (List Int)) (k : Nat) (w : World)
    (h : Sys G F w p cs n P x) (hat : cs.at_ = -1) (hl : Lines L w x.s.lines R) (hLG : ∀ k, L k → ¬ G k) (hk : x.s.n = k) (hr : R.length ≤ k)
    (hroom : x.cn + 1 ≤ 1000000000000 ∧ x.gx.length + 1 ≤ 1000000000000) :
    Calls Tryz.prog 13 #[.pointer (some ⟨p.mb, 0, none⟩)] w (StepPost G F p n P w (NoneR cs x)) := by
  have H := hid h
  have a0 : w.cell? ⟨p.mb, 0, none⟩ = some (.pointer (some ⟨p.cb, 0, none⟩)) := h.m.cell 0 rfl
  have a9 : w.cell? ⟨p.cb, 267, none⟩ = some (.int .i64 (-1)) := by rw [← hat]; exact Core.pos h.core
  have a10 := Core.next h.core
  have a0' : w.cell? ⟨p.cb, 0, none⟩ = some (.pointer (some ⟨p.sp, 0, none⟩)) := by rw [← h.esp]; exact Core.sp h.core
  have f0 := h.core.free
  have K1 := hid (Keep.one w p.cb 268 (.int .i64 0))
  have C1 := hid (Core.setNext h.core 0)
  have W1 := hid (h.world.keep K1.out (fun k hk e => h.nf.2.1 (by cases e; exact hk)))
  have L1 := hid (hl.keep K1.out (fun k hk e => hLG k hk (by cases e; exact h.g.2.1)))
  have R1 := hid (fun put => read_none F L p.cb p.wb k put _ x.s x.A x.cn x.cx x.gx x.lx x.wx R _ C1.out h.ewb W1.out h.nf.2.1 L1.out hk hr h.fit)
  clear h hl hLG hr hat hk
  go_enter Tryz.func13, Tryz.ntmps13
  go_wp2_with fail
  refine (R1.out _).mono ?_
  rintro e w2 ⟨rfl, y, calls, got, cn', cx', gx', r1, r6, r7, r8⟩
  have C2 := hid r1
  have I2 := hid r6
  have B2 := hid r7
  have K2 := hid r8
  clear r1 r6 r7 r8 a0 a9 a10 a0' f0
  have b12 := Core.err C2.out
  have b10 : w2.cell? ⟨p.cb, 268, none⟩ = some (.int .i64 (-2)) := Core.next C2.out
  have b9 := Core.pos C2.out
  have f2 := C2.out.free
  go_wp2_with fail
  go_ret
  have C3 := Core.setErr C2.out 0
  have C4 := Core.setAt C3 (-2)
  have K24 : Keep (· = p.cb) w2 ((w2.setCell ⟨p.cb, 270, none⟩ (.int .i64 0)).setCell ⟨p.cb, 267, none⟩ (.int .i64 (-2))) := (Keep.one w2 p.cb 270 (.int .i64 0)).trans (Keep.one _ p.cb 267 (.int .i64 (-2))) (fun _ _ h => h)
  have K4 : Keep (fun k => F k ∨ k = p.cb) w ((w2.setCell ⟨p.cb, 270, none⟩ (.int .i64 0)).setCell ⟨p.cb, 267, none⟩ (.int .i64 (-2))) :=
    ((K1.out.mono (G := fun k => F k ∨ k = p.cb) (fun i _ h => .inr h)).trans K2.out (fun i _ h => h)).trans K24 (fun i _ h => .inr h)
  have hcz : p.cb < w.heap.size := H.out.core.lt
  have hm : mu x.s ≤ 1 := by unfold mu; split <;> omega
  have hfit := H.out.fit
  have hfine := H.out.fine
  obtain ⟨q1, q2⟩ := B2.out
  have I4 := (I2.out.keep K24 (by
    rintro k (h | h) rfl
    · exact H.out.nf.2.1 h
    · have := h.1; simp at this; omega)).tight
  have hF' : ∀ k, (F k ∨ ((w.setCell ⟨p.cb, 268, none⟩ (.int .i64 0)).heap.size ≤ k ∧ k < w2.heap.size)) ∧ k < ((w2.setCell ⟨p.cb, 270, none⟩ (.int .i64 0)).setCell ⟨p.cb, 267, none⟩ (.int .i64 (-2))).heap.size → F k ∨ (w.heap.size ≤ k ∧ k < ((w2.setCell ⟨p.cb, 270, none⟩ (.int .i64 0)).setCell ⟨p.cb, 267, none⟩ (.int .i64 (-2))).heap.size) := fun k hk =>
    hk.1.elim (fun h => .inl h) (fun h => .inr ⟨by have := h.1; simp at this; omega, hk.2⟩)
  refine ⟨rfl, _, _, ⟨_, x.A, cn', cx', gx', x.lx, x.wx⟩, H.out.step (K4.mono (fun i _ h => h.elim (fun h => .inl h) (fun h => .inr (.inl h)))) hF' C4 ⟨rfl, rfl, rfl, rfl, rfl⟩ (H.out.same_space (K4.mono (fun i _ h => h.elim (fun h => .inl h) (fun h => .inr (.inl h)))) hF') H.out.plen
    (H.out.same_queue K4) I4 H.out.calm ⟨by (show cn' ≤ _); omega, by (show gx'.length ≤ _); omega, hfit.l, hfit.w⟩ ⟨hfine.deaf, hfine.most, hfine.fail, hfine.outs0, hfine.outs1, by (show cn' ≤ _); omega, by (show gx'.length ≤ _); omega, hfine.A⟩ H.out.st, fun k hk => ?_, K4.mono (fun i _ h => h.elim (fun h => .inl h) (fun h => .inr (.inl h))), ?_⟩
  · exact (hF' k hk).elim .inl (fun h => .inr h.1)
  · exact ⟨rfl, rfl, rfl, rfl, rfl, rfl, rfl, rfl, q1, q2, rfl, rfl⟩

def EndR (cs : CS) (x : WX) (k : Nat) (A : List Int) (cs' : CS) (x' : WX) : Prop :=
  cs'.at_ = -1 ∧ cs'.steps = cs.steps ∧ cs'.quiet = cs.quiet ∧ x'.s.lines = x.s.lines ∧ x'.s.mute = x.s.mute ∧ x'.s.n = x.s.n ∧ x'.s.outs = x.s.outs + k ∧ x'.A = A ∧
    x'.cn ≤ x.cn + k * mu x.s ∧ x'.gx.length ≤ x.gx.length + k * mu x.s ∧ x'.lx = x.lx ∧ x'.wx = x.wx

/-- How a cycle ends: with the pattern space written, or not. -/
def EndIs (cs : CS) (A P : List Int) (kq : Nat) (A' : List Int) : Prop := (cs.quiet = true ∧ kq = 0 ∧ A' = A) ∨ (cs.quiet = false ∧ kq = 1 ∧ A' = A ++ (P ++ [10]))

/-- The end of a cycle, whether it writes or not. -/
theorem end_any (G F : Nat → Prop) (p : Pl) (cs : CS) (n : Nat) (P : List Int) (x : WX) (kq : Nat) (A' : List Int) (hk : EndIs cs x.A P kq A') (w : World) (h : Sys G F w p cs n P x) :
    Calls Tryz.prog 26 #[.pointer (some ⟨p.cb, 0, none⟩)] w (EndPost F p.cb p.qb p.wb cs x.s A' x.cn x.gx x.lx x.wx kq w) := by
  obtain ⟨pat, hold, h1, h2, h3⟩ := h.space
  rcases hk with ⟨hq, rfl, rfl⟩ | ⟨hq, rfl, rfl⟩
  · exact end_quiet F p.cb p.qb p.wb cs x.s x.A x.cn x.cx x.gx x.lx x.wx w h.core h.ewb h.eqb h.queue h.world h.flt h.nf.2.1 h.nf.2.2.2.1 hq h.calm.2.1 h.calm.2.2
  · exact end_loud F p.cb p.sp p.qb p.wb cs pat hold 1048576 x.s x.A x.cn x.cx x.gx x.lx x.wx P w h.core h.ewb h.esp h.eqb h1 h.queue h2 (by have := h.plen; omega) h.world h.fine h.flt h.nf.2.1 h.nf.2.2.2.1 hq h.calm.1 h.calm.2.1 h.calm.2.2

set_option maxRecDepth 100000 in
set_option maxHeartbeats 2000000 in
/-- A step at the cycle's end. -/
theorem Step_end (G F : Nat → Prop) (p : Pl) (cs : CS) (n : Nat) (P : List Int) (x : WX) (kq : Nat) (A' : List Int) (hkA : EndIs cs x.A P kq A') (w : World)
    (h : Sys G F w p cs n P x) (hat : cs.at_ = n) (hroom : x.s.outs + 1 ≤ 1000000000000 ∧ x.cn + 1 ≤ 1000000000000 ∧ x.gx.length + 1 ≤ 1000000000000 ∧ x.A.length + P.length + 1 ≤ 35184372088832) :
    Calls Tryz.prog 13 #[.pointer (some ⟨p.mb, 0, none⟩)] w (StepPost G F p n P w (EndR cs x kq A')) := by
  have H := hid h
  obtain ⟨co, c, hcm⟩ : ∃ co c, cs.cmds = .slice co n c := by
    rcases h.prog with ⟨rfl, co, c, h2⟩ | ⟨rfl, ab, c, cmd, h2, _⟩
    · exact ⟨co, c, h2⟩
    · exact ⟨_, c, h2⟩
  have a0 : w.cell? ⟨p.mb, 0, none⟩ = some (.pointer (some ⟨p.cb, 0, none⟩)) := h.m.cell 0 rfl
  have a9 : w.cell? ⟨p.cb, 267, none⟩ = some (.int .i64 (n : Int)) := by rw [← hat]; exact Core.pos h.core
  have a1 : w.cell? ⟨p.cb, 1, none⟩ = some (.slice co n c) := by rw [← hcm]; exact Core.cmds h.core
  have e1 : ((n : Int) == -2) = false := by simp
  have e2 : ((n : Int) == -1) = false := by simp
  have R1 := hid (end_any G F p cs n P x kq A' hkA w h)
  have HKA := hid hkA
  clear h hat hcm hkA
  go_enter Tryz.func13, Tryz.ntmps13
  go_wp2_with fail
  refine R1.out.mono ?_
  rintro e w2 ⟨rfl, y, calls, got, all, cn', cx', gx', r1, r5, r6, r7, r8⟩
  have C2 := hid r1
  have Q2 := hid r5
  have I2 := hid r6
  have B2 := hid r7
  have K2 := hid r8
  clear r1 r5 r6 r7 r8 a0 a9 a1
  have b12 := Core.err C2.out
  have b10 : w2.cell? ⟨p.cb, 268, none⟩ = some (.int .i64 (-1)) := Core.next C2.out
  have b9 := Core.pos C2.out
  have f2 := C2.out.free
  go_wp2_with fail
  go_ret
  have C3 := Core.setErr C2.out 0
  have C4 := Core.setAt C3 (-1)
  have K24 : Keep (· = p.cb) w2 ((w2.setCell ⟨p.cb, 270, none⟩ (.int .i64 0)).setCell ⟨p.cb, 267, none⟩ (.int .i64 (-1))) := (Keep.one w2 p.cb 270 (.int .i64 0)).trans (Keep.one _ p.cb 267 (.int .i64 (-1))) (fun _ _ h => h)
  have K4 : Keep (fun k => F k ∨ k = p.cb ∨ k = p.qb) w ((w2.setCell ⟨p.cb, 270, none⟩ (.int .i64 0)).setCell ⟨p.cb, 267, none⟩ (.int .i64 (-1))) :=
    K2.out.trans K24 (fun i _ h => .inr (.inl h))
  have hcz : p.cb < w.heap.size := H.out.core.lt
  have hm : mu x.s ≤ 1 := by unfold mu; split <;> omega
  have hfit := H.out.fit
  have hfine := H.out.fine
  have hqc : p.qb ≠ p.cb := apart_of H.out.queue H.out.core (by decide)
  obtain ⟨q1, q2⟩ := B2.out
  have hmk : kq * mu x.s ≤ 1 := by rcases HKA.out with ⟨_, h, _⟩ | ⟨_, h, _⟩ <;> rw [h] <;> simp <;> omega
  have hko : kq ≤ 1 := by rcases HKA.out with ⟨_, h, _⟩ | ⟨_, h, _⟩ <;> rw [h] <;> simp
  have hA : A'.length ≤ 35184372088832 := by
    rcases HKA.out with ⟨_, _, h⟩ | ⟨_, _, h⟩
    · rw [h]; omega
    · rw [h]; simp; omega
  have I4 := (I2.out.keep K24 (by
    rintro k (h | h) rfl
    · exact H.out.nf.2.1 h
    · omega)).tight
  have hF' : ∀ k, (F k ∨ (w.heap.size ≤ k ∧ k < w2.heap.size)) ∧ k < ((w2.setCell ⟨p.cb, 270, none⟩ (.int .i64 0)).setCell ⟨p.cb, 267, none⟩ (.int .i64 (-1))).heap.size → F k ∨ (w.heap.size ≤ k ∧ k < ((w2.setCell ⟨p.cb, 270, none⟩ (.int .i64 0)).setCell ⟨p.cb, 267, none⟩ (.int .i64 (-1))).heap.size) := fun k hk =>
    hk.1.elim (fun h => .inl h) (fun h => .inr ⟨h.1, hk.2⟩)
  have hT : ∀ i, i < w.heap.size → (F i ∨ i = p.cb ∨ i = p.qb) → Turn F p i := fun i _ h => h.elim (fun h => .inl h) (fun h => h.elim (fun h => .inr (.inl h)) (fun h => .inr (.inr (.inr h))))
  refine ⟨rfl, _, _, ⟨_, A', cn', cx', gx', x.lx, x.wx⟩, H.out.step (K4.mono hT) hF' C4 ⟨rfl, rfl, rfl, rfl, rfl⟩ (H.out.same_space K4 hF') H.out.plen
    (Q2.out.keep K24 hqc) I4 ⟨rfl, H.out.calm.2.1, H.out.calm.2.2⟩ ⟨by (show cn' ≤ _); omega, by (show gx'.length ≤ _); omega, hfit.l, hfit.w⟩ ⟨hfine.deaf, hfine.most, hfine.fail, ?_, ?_, by (show cn' ≤ _); omega, by (show gx'.length ≤ _); omega, hA⟩ H.out.st, fun k hk => ?_, K4.mono hT, ?_⟩
  · have := hfine.outs0; show 0 ≤ x.s.outs + (kq : Int); omega
  · show x.s.outs + (kq : Int) ≤ _; omega
  · exact (hF' k hk).elim .inl (fun h => .inr h.1)
  · exact ⟨rfl, rfl, rfl, rfl, rfl, rfl, rfl, rfl, q1, q2, rfl, rfl⟩

def CmdR (cs : CS) (x : WX) (P : List Int) (cs' : CS) (x' : WX) : Prop :=
  cs'.at_ = 1 ∧ cs'.steps = cs.steps + 1 ∧ cs'.quiet = cs.quiet ∧ x'.s.lines = x.s.lines ∧ x'.s.mute = x.s.mute ∧ x'.s.n = x.s.n ∧ x'.s.outs = x.s.outs + 1 ∧ x'.A = x.A ++ (P ++ [10]) ∧
    x'.cn ≤ x.cn + mu x.s ∧ x'.gx.length ≤ x.gx.length + mu x.s ∧ x'.lx = x.lx ∧ x'.wx = x.wx

/-- The command p of a system. -/
theorem cmd_any (G F : Nat → Prop) (p : Pl) (cs : CS) (P : List Int) (x : WX) (la : Option Addr) (ll lc : Nat) (hlines : x.s.lines = .slice la ll lc) (w : World) (h : Sys G F w p cs 1 P x) :
    Calls Tryz.prog 27 #[.pointer (some ⟨p.cb, 0, none⟩), .int .i64 0] w (CmdPost F p.cb p.wb cs x.s (x.A ++ (P ++ [10])) x.cn x.gx x.lx x.wx w) := by
  obtain ⟨pat, hold, h1, h2, h3⟩ := h.space
  obtain ⟨oo, oc, h4⟩ := h.gates
  rcases h.prog with ⟨h0, _⟩ | ⟨_, ab, c, cmd, h5, h6, h7, h8⟩
  · cases h0
  · exact command_p F p.cb p.sp p.gb p.wb ab 1 c oo 1 oc cs cmd pat hold 1048576 x.s x.A x.cn x.cx x.gx x.lx x.wx P la ll lc w h.core h.ewb h.esp h.egb h5 (by decide) h.st.1 (by have := h.st.2; omega) h6 (h4.cell 0 rfl) (by decide) h1 hlines h2 (by have := h.plen; omega) h.world h.fine h.flt h.nf.2.1 h8
      (apart_of h4 h.core (by decide)) (fun k e => (h3 k e).2.1) h7.2.1

set_option maxRecDepth 100000 in
set_option maxHeartbeats 2000000 in
/-- A step at the command p. -/
theorem Step_cmd (G F : Nat → Prop) (p : Pl) (cs : CS) (P : List Int) (x : WX) (la : Option Addr) (ll lc : Nat) (hlines : x.s.lines = .slice la ll lc) (w : World)
    (h : Sys G F w p cs 1 P x) (hat : cs.at_ = 0) (hst : cs.steps + 1 ≤ 100000000000) (hroom : x.s.outs + 1 ≤ 1000000000000 ∧ x.cn + 1 ≤ 1000000000000 ∧ x.gx.length + 1 ≤ 1000000000000 ∧ x.A.length + P.length + 1 ≤ 35184372088832) :
    Calls Tryz.prog 13 #[.pointer (some ⟨p.mb, 0, none⟩)] w (StepPost G F p 1 P w (CmdR cs x P)) := by
  have H := hid h
  obtain ⟨co, c, hcm⟩ : ∃ co c, cs.cmds = .slice co 1 c := by
    rcases h.prog with ⟨h0, _⟩ | ⟨_, ab, c, cmd, h2, _⟩
    · cases h0
    · exact ⟨_, c, h2⟩
  have a0 : w.cell? ⟨p.mb, 0, none⟩ = some (.pointer (some ⟨p.cb, 0, none⟩)) := h.m.cell 0 rfl
  have a9 : w.cell? ⟨p.cb, 267, none⟩ = some (.int .i64 0) := by rw [← hat]; exact Core.pos h.core
  have a1 : w.cell? ⟨p.cb, 1, none⟩ = some (.slice co 1 c) := by rw [← hcm]; exact Core.cmds h.core
  have R1 := hid (cmd_any G F p cs P x la ll lc hlines w h)
  have HC := hid hcm
  clear h hat hcm hlines
  go_enter Tryz.func13, Tryz.ntmps13
  go_wp2_with fail
  refine R1.out.mono ?_
  rintro e w2 ⟨rfl, y, calls, got, all, cn', cx', gx', r1, r6, r7, r8⟩
  have C2 := hid r1
  have I2 := hid r6
  have B2 := hid r7
  have K2 := hid r8
  clear r1 r6 r7 r8 a0 a9 a1
  have b12 := Core.err C2.out
  have b10 : w2.cell? ⟨p.cb, 268, none⟩ = some (.int .i64 1) := Core.next C2.out
  have f2 := C2.out.free
  go_wp2_with fail
  have C3 := hid (Core.setErr C2.out 0)
  have K3 := hid (K2.out.trans (Keep.one w2 p.cb 270 (.int .i64 0)) (fun i _ h => .inr h))
  refine (goTo_end p.cb co 1 c 1 _ _ (by have h := Core.cmds C3.out; rw [← HC.out]; exact h) (Core.pos C3.out) C3.out.free (by simp)).mono ?_
  rintro e w4 ⟨rfl, rfl⟩
  go_wp2_with fail
  go_ret
  have C4 := Core.setAt C3.out 1
  have K4 := K3.out.trans (Keep.one (w2.setCell ⟨p.cb, 270, none⟩ (.int .i64 0)) p.cb 267 (.int .i64 1)) (fun i _ h => .inr h)
  have K24 : Keep (· = p.cb) w2 ((w2.setCell ⟨p.cb, 270, none⟩ (.int .i64 0)).setCell ⟨p.cb, 267, none⟩ (.int .i64 1)) := (Keep.one w2 p.cb 270 (.int .i64 0)).trans (Keep.one _ p.cb 267 (.int .i64 1)) (fun _ _ h => h)
  have hcz : p.cb < w.heap.size := H.out.core.lt
  have hm : mu x.s ≤ 1 := by unfold mu; split <;> omega
  have hfit := H.out.fit
  have hfine := H.out.fine
  obtain ⟨q1, q2⟩ := B2.out
  have I4 := (I2.out.keep K24 (by
    rintro k (h | h) rfl
    · exact H.out.nf.2.1 h
    · omega)).tight
  have hF' : ∀ k, (F k ∨ (w.heap.size ≤ k ∧ k < w2.heap.size)) ∧ k < ((w2.setCell ⟨p.cb, 270, none⟩ (.int .i64 0)).setCell ⟨p.cb, 267, none⟩ (.int .i64 1)).heap.size → F k ∨ (w.heap.size ≤ k ∧ k < ((w2.setCell ⟨p.cb, 270, none⟩ (.int .i64 0)).setCell ⟨p.cb, 267, none⟩ (.int .i64 1)).heap.size) := fun k hk =>
    hk.1.elim (fun h => .inl h) (fun h => .inr ⟨h.1, hk.2⟩)
  have hT : ∀ i, i < w.heap.size → (F i ∨ i = p.cb) → Turn F p i := fun i _ h => h.elim (fun h => .inl h) (fun h => .inr (.inl h))
  have hT2 : ∀ i, i < w.heap.size → (F i ∨ i = p.cb) → F i ∨ i = p.cb ∨ i = p.qb := fun i _ h => h.elim (fun h => .inl h) (fun h => .inr (.inl h))
  have hst' := H.out.st
  refine ⟨rfl, _, _, ⟨_, x.A ++ (P ++ [10]), cn', cx', gx', x.lx, x.wx⟩, H.out.step (K4.mono hT) hF' C4 ⟨rfl, rfl, rfl, rfl, rfl⟩ (H.out.same_space (K4.mono hT2) hF') H.out.plen
    (H.out.same_queue K4) I4 H.out.calm ⟨by (show cn' ≤ _); omega, by (show gx'.length ≤ _); omega, hfit.l, hfit.w⟩ ⟨hfine.deaf, hfine.most, hfine.fail, ?_, ?_, by (show cn' ≤ _); omega, by (show gx'.length ≤ _); omega, ?_⟩ ?_, fun k hk => ?_, K4.mono hT, ?_⟩
  · have := hfine.outs0; show 0 ≤ x.s.outs + 1; omega
  · show x.s.outs + 1 ≤ _; omega
  · show (x.A ++ (P ++ [10])).length ≤ _; simp; omega
  · show 0 ≤ cs.steps + 1 ∧ cs.steps + 1 ≤ _; omega
  · exact (hF' k hk).elim .inl (fun h => .inr h.1)
  · exact ⟨rfl, rfl, rfl, rfl, rfl, rfl, rfl, rfl, q1, q2, rfl, rfl⟩

end Go.Proofs.YtaelokmcmflmiaaGreatDoor
