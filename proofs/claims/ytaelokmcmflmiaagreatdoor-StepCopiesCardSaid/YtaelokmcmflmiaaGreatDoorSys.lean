/-
  A machine and its world, as one system; one step from its start: a line is read.
-/
import Derived.Test.YtaelokmcmflmiaaGreatDoorTakes
namespace Go.Proofs.YtaelokmcmflmiaaGreatDoor
open Go.RowKit

/-- Where a system's blocks lie. -/
structure Pl where
  mb : Nat
  cb : Nat
  sp : Nat
  qb : Nat
  gb : Nat
  wb : Nat

/-- The program of a core: none, or the one command p. -/
def ProgIs (G : Nat → Prop) (w : World) (cb : Nat) (cs : CS) (n : Nat) : Prop :=
  (n = 0 ∧ ∃ co c, cs.cmds = .slice co 0 c) ∨ (n = 1 ∧ ∃ ab c cmd, cs.cmds = .slice (some ⟨ab, 0, none⟩) 1 c ∧ CmdP w ab cmd ∧ G ab ∧ ab ≠ cb)

/-- The world's part of what changes. -/
structure WX where
  s : WS
  A : List Int
  cn : Nat
  cx : List Value
  gx : List Value
  lx : List Value
  wx : List Value

/-- A machine and its world. F: what the world may turn; G: all that is theirs. -/
structure Sys (G F : Nat → Prop) (w : World) (p : Pl) (cs : CS) (n : Nat) (P : List Int) (x : WX) : Prop where
  m : Blk w p.mb [.pointer (some ⟨p.cb, 0, none⟩)] 94
  core : Blk w p.cb (cs.cells p.cb) 82
  esp : cs.sp = p.sp
  ewb : cs.wb = p.wb
  eqb : cs.qb = p.qb
  egb : cs.gb = p.gb
  space : ∃ pat hold, Blk w p.sp (spaceL pat hold 1048576) 116 ∧ Sl w pat (U8 P) ∧ (∀ k, pat.ownBlock = some k → ¬ F k ∧ k ≠ p.cb ∧ k ≠ p.sp ∧ k ≠ p.qb ∧ G k ∧ k < w.heap.size)
  plen : P.length ≤ 1048576
  queue : Blk w p.qb (queueL (.slice none 0 0)) 108
  gates : ∃ oo oc, Blk w p.gb [.slice oo n oc] 119
  world : WInv F w p.wb x.s x.A x.cn x.cx x.gx x.lx x.wx
  prog : ProgIs (fun k => G k ∧ ¬ F k ∧ k ≠ p.sp ∧ k ≠ p.qb) w p.cb cs n
  flt : ∀ k, F k → k < w.heap.size
  nf : ¬ F p.mb ∧ ¬ F p.cb ∧ ¬ F p.sp ∧ ¬ F p.qb ∧ ¬ F p.gb
  fg : ∀ k, F k → G k
  g : G p.mb ∧ G p.cb ∧ G p.sp ∧ G p.qb ∧ G p.gb
  calm : cs.silent = false ∧ cs.ends = false ∧ cs.anew = false
  fit : Fits x.cn x.gx x.lx x.wx
  fine : Calm x.s x.A x.cn x.gx
  st : 0 ≤ cs.steps ∧ cs.steps ≤ 100000000000

theorem CmdP.keep {G : Nat → Prop} {w w' : World} {ab : Nat} {cmd : List Value} (h : CmdP w ab cmd) (hk : Keep G w w') (hn : ¬ G ab) : CmdP w' ab cmd :=
  { h with range := fun j v hv => (World.cell?_of_block (w := w) (hk.block ab (block_lt_of_cell (h.range j v hv)) hn)).trans (h.range j v hv) }
theorem ProgIs.keep {H G : Nat → Prop} {w w' : World} {cb : Nat} {cs cs' : CS} {n : Nat} (h : ProgIs H w cb cs n) (hk : Keep G w w') (hn : ∀ k, H k → ¬ G k ∨ k = cb) (hc : cs'.cmds = cs.cmds) : ProgIs H w' cb cs' n := by
  rcases h with ⟨h1, h2⟩ | ⟨h1, ab, c, cmd, h2, h3, h4, h5⟩
  · exact .inl ⟨h1, by rw [hc]; exact h2⟩
  · exact .inr ⟨h1, ab, c, cmd, by rw [hc]; exact h2, h3.keep hk ((hn ab h4).elim id (fun e => absurd e h5)), h4, h5⟩
theorem ProgIs.mono {H H' : Nat → Prop} {w : World} {cb : Nat} {cs : CS} {n : Nat} (h : ProgIs H w cb cs n) (hH : ∀ k, k < w.heap.size → H k → H' k) : ProgIs H' w cb cs n := by
  rcases h with h | ⟨h1, ab, c, cmd, h2, h3, h4, h5⟩
  · exact .inl h
  · exact .inr ⟨h1, ab, c, cmd, h2, h3, hH ab (block_lt_of_cell (h3.range 0 _ h3.a)) h4, h5⟩

/-- Nothing of the system is touched by what turns only blocks that are not its own. -/
theorem Sys.keep {G F H : Nat → Prop} {w w' : World} {p : Pl} {cs : CS} {n : Nat} {P : List Int} {x : WX} (h : Sys G F w p cs n P x) (hk : Keep H w w') (hd : ∀ k, G k → ¬ H k) : Sys G F w' p cs n P x := by
  obtain ⟨pat, hold, h1, h2, h3⟩ := h.space
  obtain ⟨oo, oc, h4⟩ := h.gates
  exact { h with
    m := h.m.keep hk (hd _ h.g.1)
    core := h.core.keep hk (hd _ h.g.2.1)
    space := ⟨pat, hold, h1.keep hk (hd _ h.g.2.2.1), h2.keep hk (fun k e => hd _ (h3 k e).2.2.2.2.1), fun k e => ⟨(h3 k e).1, (h3 k e).2.1, (h3 k e).2.2.1, (h3 k e).2.2.2.1, (h3 k e).2.2.2.2.1, Nat.lt_of_lt_of_le (h3 k e).2.2.2.2.2 hk.size⟩⟩
    queue := h.queue.keep hk (hd _ h.g.2.2.2.1)
    gates := ⟨oo, oc, h4.keep hk (hd _ h.g.2.2.2.2)⟩
    world := h.world.keep hk (fun k e => hd _ (h.fg k e))
    prog := h.prog.keep hk (fun k e => .inl (hd _ e.1)) rfl
    flt := fun k e => Nat.lt_of_lt_of_le (h.flt k e) hk.size }

/-- What a step may turn. -/
def Turn (F : Nat → Prop) (p : Pl) (k : Nat) : Prop := F k ∨ k = p.cb ∨ k = p.sp ∨ k = p.qb
/-- G and what has been laid since. -/
def Got (G : Nat → Prop) (w w' : World) (k : Nat) : Prop := G k ∨ (w.heap.size ≤ k ∧ k < w'.heap.size)

theorem apart_of {w : World} {b b' : Nat} {l l' : List Value} {t t' : TypeId} (h : Blk w b l t) (h' : Blk w b' l' t') (hne : t ≠ t') : b ≠ b' := fun e => by
  subst e
  exact hne (Blk.inj h h').2

/-- A step has been made: the new system out of the old one and what is new. -/
theorem Sys.step {G F F' : Nat → Prop} {w w' : World} {p : Pl} {cs cs' : CS} {n : Nat} {P P' : List Int} {x x' : WX} (h : Sys G F w p cs n P x) (hk : Keep (Turn F p) w w')
    (hF' : ∀ k, F' k → F k ∨ (w.heap.size ≤ k ∧ k < w'.heap.size)) (core' : Blk w' p.cb (cs'.cells p.cb) 82)
    (same : cs'.sp = cs.sp ∧ cs'.wb = cs.wb ∧ cs'.qb = cs.qb ∧ cs'.gb = cs.gb ∧ cs'.cmds = cs.cmds)
    (space' : ∃ pat hold, Blk w' p.sp (spaceL pat hold 1048576) 116 ∧ Sl w' pat (U8 P') ∧ (∀ k, pat.ownBlock = some k → ¬ F' k ∧ k ≠ p.cb ∧ k ≠ p.sp ∧ k ≠ p.qb ∧ Got G w w' k ∧ k < w'.heap.size))
    (plen : P'.length ≤ 1048576) (queue' : Blk w' p.qb (queueL (.slice none 0 0)) 108) (world' : WInv F' w' p.wb x'.s x'.A x'.cn x'.cx x'.gx x'.lx x'.wx)
    (calm' : cs'.silent = false ∧ cs'.ends = false ∧ cs'.anew = false) (fit' : Fits x'.cn x'.gx x'.lx x'.wx) (fine' : Calm x'.s x'.A x'.cn x'.gx) (st' : 0 ≤ cs'.steps ∧ cs'.steps ≤ 100000000000) :
    Sys (Got G w w') F' w' p cs' n P' x' := by
  obtain ⟨oo, oc, h4⟩ := h.gates
  obtain ⟨pat, hold, h1, _, _⟩ := h.space
  have n1 : ∀ b l t, Blk w b l t → t ≠ 82 → t ≠ 116 → t ≠ 108 → ¬ F b → ¬ Turn F p b := fun b l t hb t1 t2 t3 hf hT => by
    rcases hT with e | e | e | e
    · exact hf e
    · exact apart_of hb h.core t1 e
    · exact apart_of hb h1 t2 e
    · exact apart_of hb h.queue t3 e
  have n2 : ∀ b, b < w.heap.size → ¬ F b → ¬ F' b := fun b hb hf hf' => by
    rcases hF' b hf' with e | e
    · exact hf e
    · omega
  exact {
    m := h.m.keep hk (n1 _ _ _ h.m (by decide) (by decide) (by decide) h.nf.1)
    core := core'
    esp := same.1.trans h.esp
    ewb := same.2.1.trans h.ewb
    eqb := same.2.2.1.trans h.eqb
    egb := same.2.2.2.1.trans h.egb
    space := space'
    plen := plen
    queue := queue'
    gates := ⟨oo, oc, h4.keep hk (n1 _ _ _ h4 (by decide) (by decide) (by decide) h.nf.2.2.2.2)⟩
    world := world'
    prog := by
      refine ((h.prog.mono (H' := fun k => k < w.heap.size ∧ G k ∧ ¬ F k ∧ k ≠ p.sp ∧ k ≠ p.qb) (fun k hlt e => ⟨hlt, e⟩)).keep hk (fun k e => ?_) same.2.2.2.2).mono (fun k _ e => ⟨.inl e.2.1, n2 _ e.1 e.2.2.1, e.2.2.2⟩)
      by_cases hc : k = p.cb
      · exact .inr hc
      · refine .inl (fun hT => ?_)
        rcases hT with f | f | f | f
        · exact e.2.2.1 f
        · exact hc f
        · exact e.2.2.2.1 f
        · exact e.2.2.2.2 f
    flt := fun k e => (hF' k e).elim (fun f => Nat.lt_of_lt_of_le (h.flt k f) hk.size) (fun f => f.2)
    nf := ⟨n2 _ h.m.lt h.nf.1, n2 _ h.core.lt h.nf.2.1, n2 _ h1.lt h.nf.2.2.1, n2 _ h.queue.lt h.nf.2.2.2.1, n2 _ h4.lt h.nf.2.2.2.2⟩
    fg := fun k e => (hF' k e).elim (fun f => .inl (h.fg k f)) (fun f => .inr f)
    g := ⟨.inl h.g.1, .inl h.g.2.1, .inl h.g.2.2.1, .inl h.g.2.2.2.1, .inl h.g.2.2.2.2⟩
    calm := calm'
    fit := fit'
    fine := fine'
    st := st' }

/-- The pattern space is as it was. -/
theorem Sys.same_space {G F F' : Nat → Prop} {w w' : World} {p : Pl} {cs : CS} {n : Nat} {P : List Int} {x : WX} (h : Sys G F w p cs n P x) (hk : Keep (fun k => F k ∨ k = p.cb ∨ k = p.qb) w w')
    (hF' : ∀ k, F' k → F k ∨ (w.heap.size ≤ k ∧ k < w'.heap.size)) :
    ∃ pat hold, Blk w' p.sp (spaceL pat hold 1048576) 116 ∧ Sl w' pat (U8 P) ∧ (∀ k, pat.ownBlock = some k → ¬ F' k ∧ k ≠ p.cb ∧ k ≠ p.sp ∧ k ≠ p.qb ∧ Got G w w' k ∧ k < w'.heap.size) := by
  obtain ⟨pat, hold, h1, h2, h3⟩ := h.space
  refine ⟨pat, hold, h1.keep hk ?_, h2.keep hk ?_, fun k e => ?_⟩
  · rintro (f | f | f)
    · exact h.nf.2.2.1 f
    · exact apart_of h1 h.core (by decide) f
    · exact apart_of h1 h.queue (by decide) f
  · rintro k e (f | f | f)
    · exact (h3 k e).1 f
    · exact (h3 k e).2.1 f
    · exact (h3 k e).2.2.2.1 f
  · obtain ⟨e1, e2, e3, e4, e5, e6⟩ := h3 k e
    refine ⟨fun f => ?_, e2, e3, e4, .inl e5, Nat.lt_of_lt_of_le e6 hk.size⟩
    rcases hF' k f with f | f
    · exact e1 f
    · omega
/-- The queue is as it was. -/
theorem Sys.same_queue {G F : Nat → Prop} {w w' : World} {p : Pl} {cs : CS} {n : Nat} {P : List Int} {x : WX} (h : Sys G F w p cs n P x) (hk : Keep (fun k => F k ∨ k = p.cb) w w') :
    Blk w' p.qb (queueL (.slice none 0 0)) 108 := by
  refine h.queue.keep hk ?_
  rintro (f | f)
  · exact h.nf.2.2.2.1 f
  · exact apart_of h.queue h.core (by decide) f

set_option maxHeartbeats 800000 in
theorem At_any (mb cb : Nat) (a : Int) (w : World) (h : w.cell? ⟨mb, 0, none⟩ = some (.pointer (some ⟨cb, 0, none⟩))) (h9 : w.cell? ⟨cb, 267, none⟩ = some (.int .i64 a)) :
    Calls Tryz.prog 12 #[.pointer (some ⟨mb, 0, none⟩)] w fun e w' => e = .returned (.int .i64 a) ∧ w = w' := by
  go_enter Tryz.func12, Tryz.ntmps12
  go_wp2
  go_ret
  exact ⟨rfl, rfl⟩

set_option maxHeartbeats 800000 in
theorem Steps_any (mb cb : Nat) (a : Int) (w : World) (h : w.cell? ⟨mb, 0, none⟩ = some (.pointer (some ⟨cb, 0, none⟩))) (h9 : w.cell? ⟨cb, 269, none⟩ = some (.int .i64 a)) :
    Calls Tryz.prog 14 #[.pointer (some ⟨mb, 0, none⟩)] w fun e w' => e = .returned (.int .i64 a) ∧ w = w' := by
  go_enter Tryz.func14, Tryz.ntmps14
  go_wp2
  go_ret
  exact ⟨rfl, rfl⟩

end Go.Proofs.YtaelokmcmflmiaaGreatDoor
