/-
  A fresh system: New's machine and a world that nothing was told yet.
-/
import Derived.Test.YtaelokmcmflmiaaGreatDoorPrints
namespace Go.Proofs.YtaelokmcmflmiaaGreatDoor
open Go.RowKit

/-- The cells of a world literal: its lines, whether it is mute. -/
def ws0 (lines : Value) (mute : Bool) : WS :=
  ⟨lines, .slice none 0 0, 0, 0, 0, 0, .slice none 0 0, ⟨#[]⟩, mute, false, false, false, 0, 0, 0, .slice none 0 0, ⟨#[]⟩, .slice none 0 0, .slice none 0 0, .slice none 0 0, .slice none 0 0⟩

theorem WInv.fresh {w : World} {wb : Nat} {lines : Value} {mute : Bool} (h : Blk w wb (ws0 lines mute).cells 42) : WInv (· = wb) w wb (ws0 lines mute) [] 0 [] [] [] [] :=
  { blk := h, fb := rfl, all := World.ownsRow_nil _ _ _ _, calls := World.ownsRow_nil _ _ _ _, got := World.ownsRow_nil _ _ _ _, lent := World.ownsRow_nil _ _ _ _, was := World.ownsRow_nil _ _ _ _,
    fall := (fun k e => by cases e), fcalls := (fun k e => by cases e), fgot := (fun k e => by cases e), flent := (fun k e => by cases e), fwas := (fun k e => by cases e), gl := (fun k e => by cases e), lw := (fun k e => by cases e) }

/-- What is theirs: the world's block, and what New laid. -/
def Own (wb lo hi : Nat) (k : Nat) : Prop := k = wb ∨ (lo ≤ k ∧ k < hi)

theorem Sys.fresh {n : Nat} {quiet : Bool} {wb : Nat} {w w' : World} {lines : Value} {mute : Bool} {e : Ending} (h : Blk w wb (ws0 lines mute).cells 42) (hp : NewPost n quiet wb w e w') :
    ∃ (p : Pl) (cs : CS), e = .returned (.tuple #[ptr p.mb, .int .i64 0]) ∧ Below w.heap.size w w' ∧ p.wb = wb ∧ cs.quiet = quiet ∧ cs.at_ = -1 ∧ cs.steps = 0 ∧ Sys (Own wb w.heap.size w'.heap.size) (· = wb) w' p cs n [] ⟨ws0 lines mute, [], 0, [], [], [], []⟩ := by
  obtain ⟨p, cs, he, hb, hwb, ⟨g1, g2, g3, g4, g5⟩, m1, m2, m3, m4, m5, e1, e2, e3, e4, e5, e6, e7, e8, hpr⟩ := hp
  have hlt := h.lt
  have m5' := m5
  obtain ⟨oo, oc, m6⟩ := m5'
  subst hwb
  refine ⟨p, cs, he, hb, rfl, e5, e6, e7, ?_⟩
  exact { m := m1, core := m2, esp := e1, ewb := e2, eqb := e3, egb := e4, space := ⟨_, _, m3, Sl.nil _, fun k e => by cases e⟩, plen := by simp, queue := m4, gates := m5,
          world := (WInv.fresh h).below hb
          prog := hpr.mono (fun k hk e => ⟨.inr ⟨e.1, hk⟩, fun e' => by omega, e.2⟩)
          flt := fun k e => by subst e; exact Nat.lt_of_lt_of_le hlt hb.size
          nf := ⟨by omega, by omega, by omega, by omega, by omega⟩
          fg := fun k e => .inl e
          g := ⟨.inr ⟨g1, m1.lt⟩, .inr ⟨g2, m2.lt⟩, .inr ⟨g3, m3.lt⟩, .inr ⟨g4, m4.lt⟩, .inr ⟨g5, m6.lt⟩⟩
          calm := e8
          fit := ⟨Nat.zero_le _, Nat.zero_le _, by show (0 : Nat) < _; decide, Nat.zero_le _⟩
          fine := ⟨rfl, rfl, rfl, by show (0 : Int) ≤ 0; decide, by show (0 : Int) ≤ _; decide, Nat.zero_le _, Nat.zero_le _, Nat.zero_le _⟩
          st := by rw [e7]; decide }

def NewSys (n : Nat) (quiet : Bool) (wb : Nat) (lines : Value) (mute : Bool) (w : World) (e : Ending) (w' : World) : Prop :=
  ∃ (p : Pl) (cs : CS), e = .returned (.tuple #[.pointer (some ⟨p.mb, 0, none⟩), .int .i64 0]) ∧ Below w.heap.size w w' ∧ p.wb = wb ∧ Hid (cs.quiet = quiet ∧ cs.at_ = -1 ∧ cs.steps = 0) ∧ Hid (Sys (Own wb w.heap.size w'.heap.size) (· = wb) w' p cs n [] ⟨ws0 lines mute, [], 0, [], [], [], []⟩)
theorem NewSys.of {n : Nat} {quiet : Bool} {wb : Nat} {w w' : World} {lines : Value} {mute : Bool} {e : Ending} (h : Blk w wb (ws0 lines mute).cells 42) (hp : NewPost n quiet wb w e w') : NewSys n quiet wb lines mute w e w' :=
  let ⟨p, cs, a, b, c, d1, d2, d3, s⟩ := Sys.fresh h hp
  ⟨p, cs, a, b, c, hid ⟨d1, d2, d3⟩, hid s⟩
theorem New_nil_sys (quiet : Bool) (wb : Nat) (lines : Value) (mute : Bool) (w : World) (h : Blk w wb (ws0 lines mute).cells 42) :
    Calls Tryz.prog 7 #[.agg #[.slice none 0 0, .slice none 0 0, .slice none 0 0, .bool quiet], .iface 35 (.pointer (some ⟨wb, 0, none⟩))] w (NewSys 0 quiet wb lines mute w) :=
  (New_nil quiet wb w h.lt).mono fun _ _ hp => NewSys.of h hp
theorem New_p_sys (quiet : Bool) (wb : Nat) (lines : Value) (mute : Bool) (ab c tb tc : Nat) (cmd : List Value) (w : World) (h : Blk w wb (ws0 lines mute).cells 42) (hc : CmdZ cmd) (hr : w.rangeAt ab 0 cmd) (ht : w.cell? ⟨tb, 0, none⟩ = some (.int .i64 (-1))) :
    Calls Tryz.prog 7 #[.agg #[.slice (some ⟨ab, 0, none⟩) 1 c, .slice (some ⟨tb, 0, none⟩) 1 tc, .slice none 0 0, .bool quiet], .iface 35 (.pointer (some ⟨wb, 0, none⟩))] w (NewSys 1 quiet wb lines mute w) :=
  (New_p quiet wb ab c tb tc cmd w h.lt hc hr ht).mono fun _ _ hp => NewSys.of h hp

/-- The start of the law's run. -/
theorem Ph.start {n : Nat} {quiet : Bool} {p : Pl} {cs : CS} {w : World} {lines : Value} {G : Nat → Prop} (R : List (List Int)) (h : Sys G (· = p.wb) w p cs n [] ⟨ws0 lines true, [], 0, [], [], [], []⟩) (hq : cs.quiet = quiet) (ha : cs.at_ = -1) (hs : cs.steps = 0) :
    Ph G w p n quiet R lines 0 (-1) w :=
  ⟨_, cs, [], _, h.mono (fun k e => .inl e), Keep.refl _ _, hq, rfl, rfl, ⟨rfl, rfl, rfl, rfl⟩, ha, 0, Nat.zero_le _, by omega, by simp [ws0], .inl ⟨by simp, rfl, rfl, by simp [outs]⟩⟩

set_option maxHeartbeats 800000 in
theorem MPattern_any (mb cb sb : Nat) (pat hold : Value) (most : Int) (bs : List Int) (w : World) (h : w.cell? ⟨mb, 0, none⟩ = some (.pointer (some ⟨cb, 0, none⟩))) (h0 : w.cell? ⟨cb, 0, none⟩ = some (.pointer (some ⟨sb, 0, none⟩)))
    (hs : Blk w sb (spaceL pat hold most) 116) (hp : Sl w pat (U8 bs)) (hbig : bs.length ≤ 1099511627776) :
    Calls Tryz.prog 15 #[.pointer (some ⟨mb, 0, none⟩)] w fun e w' => ∃ v, e = .returned v ∧ NewSl w w' v (U8 bs) := by
  have H := hid (Pattern_any sb pat hold most bs w hs hp hbig)
  clear hs hp
  go_enter Tryz.func15, Tryz.ntmps15
  go_wp2_with fail
  refine H.out.mono ?_
  rintro e w' ⟨v, rfl, hv⟩
  go_wp2_with fail
  go_ret
  exact ⟨v, rfl, hv⟩

end Go.Proofs.YtaelokmcmflmiaaGreatDoor
