/-
  Contracts of the world's methods (galleyref24.World): note, told, lends, Next, Last, Line, Out, over worlds without In, To, Disk, Queue.
-/
import Derived.Test.YtaelokmcmflmiaaGreatDoorWide
namespace Go.Proofs.YtaelokmcmflmiaaGreatDoor
open Go.RowKit

theorem info_call : (Tryz.prog.info? 320).map (fun i => (i.zero, i.size, i.bytes)) = some (some (.agg #[.int .i64 0, .string ⟨#[]⟩, .slice none 0 0]), 3, 48) := by kernel_rfl
theorem info_bytes : (Tryz.prog.info? 33).map (fun i => (i.zero, i.size, i.bytes)) = some (some (.slice none 0 0), 1, 24) := by kernel_rfl

/-- What a world's cells hold. -/
structure WS where
  lines : Value
  files : Value
  fail : Int
  err : Int
  most : Int
  during : Int
  text : Value
  name : ByteArray
  mute : Bool
  deaf : Bool
  late : Bool
  heavy : Bool
  n : Int
  outs : Int
  sum : Int
  all : Value
  refused : ByteArray
  calls : Value
  got : Value
  lent : Value
  was : Value

def WS.cells (s : WS) : List Value :=
  [s.lines, .pointer none, .pointer none, .pointer none, s.files, .int .i64 s.fail, .int .i64 s.err, .int .i64 s.most, .int .i64 s.during, .pointer none, s.text, .string s.name,
   .bool s.mute, .bool s.deaf, .bool s.late, .bool s.heavy, .int .i64 s.n, .int .i64 s.outs, .int .i64 s.sum, s.all, .string s.refused, s.calls, s.got, s.lent, s.was]

def InF (F : Nat → Prop) (v : Value) : Prop := ∀ k, v.ownBlock = some k → F k
theorem InF.mono {F G : Nat → Prop} {v : Value} (h : InF F v) (hG : ∀ k, F k → G k) : InF G v := fun k hk => hG k (h k hk)
/-- F, and what is laid from now on. -/
def Up (F : Nat → Prop) (w : World) (k : Nat) : Prop := F k ∨ w.heap.size ≤ k

/-- The world's block and its lists, in blocks of F. -/
structure WInv (F : Nat → Prop) (w : World) (b : Nat) (s : WS) (A : List Int) (cn : Nat) (cx gx lx wx : List Value) : Prop where
  blk : Blk w b s.cells 42
  fb : F b
  all : w.ownsRow 0 5 1 s.all A.length (U8 A)
  calls : w.ownsRow 0 320 3 s.calls cn cx
  got : w.ownsRow 0 33 1 s.got gx.length gx
  lent : w.ownsRow 0 33 1 s.lent lx.length lx
  was : w.ownsRow 0 33 1 s.was wx.length wx
  fall : InF F s.all
  fcalls : InF F s.calls
  fgot : InF F s.got
  flent : InF F s.lent
  fwas : InF F s.was
  gl : ∀ k, s.got.ownBlock = some k → s.lent.ownBlock ≠ some k ∧ s.was.ownBlock ≠ some k
  lw : ∀ k, s.lent.ownBlock = some k → s.was.ownBlock ≠ some k

/-- A row's block holds cells of the row's type. -/
theorem row_block {w : World} {B e size n : Nat} {v : Value} {xs : List Value} (h : w.ownsRow B e size v n xs) : ∀ k, v.ownBlock = some k → ∃ cur, w.heap[k]? = some (.cells cur e (0, 0)) := by
  intro k hk
  rcases h.2 with ⟨rfl, _⟩ | ⟨g, cap, cur, rfl, _, hg, _⟩
  · cases hk
  · simp [Value.ownBlock] at hk; subst hk; exact ⟨cur, hg⟩
theorem rows_apart {w : World} {B e e' size size' n n' : Nat} {v v' : Value} {xs xs' : List Value} (h : w.ownsRow B e size v n xs) (h' : w.ownsRow B e' size' v' n' xs') (hne : e ≠ e') : ∀ k, v.ownBlock = some k → v'.ownBlock ≠ some k := by
  intro k hk hk'
  obtain ⟨c, hc⟩ := row_block h k hk
  obtain ⟨c', hc'⟩ := row_block h' k hk'
  rw [hc] at hc'
  simp at hc'
  exact hne hc'.2
theorem blk_apart {w : World} {b B e size n : Nat} {l : List Value} {t : TypeId} {v : Value} {xs : List Value} (hb : Blk w b l t) (h : w.ownsRow B e size v n xs) (hne : t ≠ e) : v.ownBlock ≠ some b := by
  intro hk
  obtain ⟨c, hc⟩ := row_block h b hk
  unfold Blk at hb
  rw [hb] at hc
  simp at hc
  exact hne hc.2

section
variable {F : Nat → Prop} {w w' : World} {b : Nat} {s : WS} {A : List Int} {cn : Nat} {cx gx lx wx : List Value}

theorem WInv.mono {G : Nat → Prop} (h : WInv F w b s A cn cx gx lx wx) (hG : ∀ k, F k → G k) : WInv G w b s A cn cx gx lx wx :=
  { h with fb := hG _ h.fb, fall := h.fall.mono hG, fcalls := h.fcalls.mono hG, fgot := h.fgot.mono hG, flent := h.flent.mono hG, fwas := h.fwas.mono hG }
theorem WInv.keep {G : Nat → Prop} (h : WInv F w b s A cn cx gx lx wx) (hk : Keep G w w') (hd : ∀ k, F k → ¬ G k) : WInv F w' b s A cn cx gx lx wx :=
  { h with
    blk := h.blk.keep hk (hd _ h.fb)
    all := ownsRow_keep h.all hk (fun k e => hd _ (h.fall k e))
    calls := ownsRow_keep h.calls hk (fun k e => hd _ (h.fcalls k e))
    got := ownsRow_keep h.got hk (fun k e => hd _ (h.fgot k e))
    lent := ownsRow_keep h.lent hk (fun k e => hd _ (h.flent k e))
    was := ownsRow_keep h.was hk (fun k e => hd _ (h.fwas k e)) }
theorem WInv.below (h : WInv F w b s A cn cx gx lx wx) (hk : Below w.heap.size w w') : WInv F w' b s A cn cx gx lx wx :=
  h.keep (G := fun _ => False) (Keep.of_below hk) (fun _ _ f => f)
theorem WInv.drewN (h : WInv F w b s A cn cx gx lx wx) (n : Nat) : WInv F (w.drewN n) b s A cn cx gx lx wx :=
  h.keep (G := fun _ => False) ((Keep.refl _ w).drewN n) (fun _ _ f => f)

theorem row_setCell {e size n : Nat} {v : Value} {xs : List Value} (h : w.ownsRow 0 e size v n xs) {a : Addr} (ha : v.ownBlock ≠ some a.block) (u : Value) : (w.setCell a u).ownsRow 0 e size v n xs :=
  ownsRow_setCell_other h ha u
/-- A scalar cell of the world's block is written. -/
theorem WInv.setCell (h : WInv F w b s A cn cx gx lx wx) (i : Nat) (v : Value) {s' : WS} (hs : s.cells.set i v = s'.cells)
    (h1 : s'.all = s.all) (h2 : s'.calls = s.calls) (h3 : s'.got = s.got) (h4 : s'.lent = s.lent) (h5 : s'.was = s.was) : WInv F (w.setCell ⟨b, i, none⟩ v) b s' A cn cx gx lx wx :=
  { blk := by rw [← hs]; exact h.blk.set i v
    fb := h.fb
    all := by rw [h1]; exact row_setCell h.all (blk_apart h.blk h.all (by decide)) v
    calls := by rw [h2]; exact row_setCell h.calls (blk_apart h.blk h.calls (by decide)) v
    got := by rw [h3]; exact row_setCell h.got (blk_apart h.blk h.got (by decide)) v
    lent := by rw [h4]; exact row_setCell h.lent (blk_apart h.blk h.lent (by decide)) v
    was := by rw [h5]; exact row_setCell h.was (blk_apart h.blk h.was (by decide)) v
    fall := by rw [h1]; exact h.fall
    fcalls := by rw [h2]; exact h.fcalls
    fgot := by rw [h3]; exact h.fgot
    flent := by rw [h4]; exact h.flent
    fwas := by rw [h5]; exact h.fwas
    gl := by rw [h3, h4, h5]; exact h.gl
    lw := by rw [h4, h5]; exact h.lw }

theorem row_kept {e size n : Nat} {v : Value} {xs : List Value} {row : Option Nat} (h : w.ownsRow 0 e size v n xs) (hg : w.grownBy w' row) (hne : ∀ k, row = some k → v.ownBlock ≠ some k) : w'.ownsRow 0 e size v n xs := by
  refine h.kept hg ?_
  cases hv : v.ownBlock with
  | none => exact .inl rfl
  | some k => exact .inr (fun e => hne k e.symm hv)
/-- The list all has been appended to, and the field written. -/
theorem WInv.pushAll (h : WInv F w b s A cn cx gx lx wx) (A' : List Int) (V : Value) (ho : w'.ownsRow 0 5 1 V A'.length (U8 A')) (hg : w.grownBy w' s.all.ownBlock) (hb : ∀ k, V.ownBlock = some k → s.all.ownBlock = some k ∨ w.heap.size ≤ k)
    (G : Nat → Prop) (hG : ∀ k, F k → G k) (hG2 : ∀ k, w.heap.size ≤ k → G k) : WInv G (w'.setCell ⟨b, 19, none⟩ V) b { s with all := V } A' cn cx gx lx wx := by
  have hblk : Blk w' b s.cells 42 := h.blk.grown hg (blk_apart h.blk h.all (by decide))
  have hfV : InF G V := fun k hk => (hb k hk).elim (fun e => hG k (h.fall k e)) (hG2 k)
  have rcalls := row_kept h.calls hg (rows_apart h.all h.calls (by decide))
  have rgot := row_kept h.got hg (rows_apart h.all h.got (by decide))
  have rlent := row_kept h.lent hg (rows_apart h.all h.lent (by decide))
  have rwas := row_kept h.was hg (rows_apart h.all h.was (by decide))
  exact { blk := hblk.set 19 V, fb := hG _ h.fb, gl := h.gl, lw := h.lw, all := row_setCell ho (blk_apart hblk ho (by decide)) V, fall := hfV, calls := row_setCell rcalls (blk_apart hblk rcalls (by decide)) V, fcalls := h.fcalls.mono hG, got := row_setCell rgot (blk_apart hblk rgot (by decide)) V, fgot := h.fgot.mono hG, lent := row_setCell rlent (blk_apart hblk rlent (by decide)) V, flent := h.flent.mono hG, was := row_setCell rwas (blk_apart hblk rwas (by decide)) V, fwas := h.fwas.mono hG }
/-- The list calls has been appended to, and the field written. -/
theorem WInv.pushCalls (h : WInv F w b s A cn cx gx lx wx) (cn' : Nat) (cx' : List Value) (V : Value) (ho : w'.ownsRow 0 320 3 V cn' cx') (hg : w.grownBy w' s.calls.ownBlock) (hb : ∀ k, V.ownBlock = some k → s.calls.ownBlock = some k ∨ w.heap.size ≤ k)
    (G : Nat → Prop) (hG : ∀ k, F k → G k) (hG2 : ∀ k, w.heap.size ≤ k → G k) : WInv G (w'.setCell ⟨b, 21, none⟩ V) b { s with calls := V } A cn' cx' gx lx wx := by
  have hblk : Blk w' b s.cells 42 := h.blk.grown hg (blk_apart h.blk h.calls (by decide))
  have hfV : InF G V := fun k hk => (hb k hk).elim (fun e => hG k (h.fcalls k e)) (hG2 k)
  have rall := row_kept h.all hg (rows_apart h.calls h.all (by decide))
  have rgot := row_kept h.got hg (rows_apart h.calls h.got (by decide))
  have rlent := row_kept h.lent hg (rows_apart h.calls h.lent (by decide))
  have rwas := row_kept h.was hg (rows_apart h.calls h.was (by decide))
  exact { blk := hblk.set 21 V, fb := hG _ h.fb, gl := h.gl, lw := h.lw, all := row_setCell rall (blk_apart hblk rall (by decide)) V, fall := h.fall.mono hG, calls := row_setCell ho (blk_apart hblk ho (by decide)) V, fcalls := hfV, got := row_setCell rgot (blk_apart hblk rgot (by decide)) V, fgot := h.fgot.mono hG, lent := row_setCell rlent (blk_apart hblk rlent (by decide)) V, flent := h.flent.mono hG, was := row_setCell rwas (blk_apart hblk rwas (by decide)) V, fwas := h.fwas.mono hG }
/-- The list got has been appended to, and the field written. -/
theorem WInv.pushGot (h : WInv F w b s A cn cx gx lx wx) (gx' : List Value) (V : Value) (ho : w'.ownsRow 0 33 1 V gx'.length gx') (hg : w.grownBy w' s.got.ownBlock) (hb : ∀ k, V.ownBlock = some k → s.got.ownBlock = some k ∨ w.heap.size ≤ k)
    (G : Nat → Prop) (hG : ∀ k, F k → G k) (hG2 : ∀ k, w.heap.size ≤ k → G k) : WInv G (w'.setCell ⟨b, 22, none⟩ V) b { s with got := V } A cn cx gx' lx wx := by
  have hblk : Blk w' b s.cells 42 := h.blk.grown hg (blk_apart h.blk h.got (by decide))
  have hfV : InF G V := fun k hk => (hb k hk).elim (fun e => hG k (h.fgot k e)) (hG2 k)
  have rall := row_kept h.all hg (rows_apart h.got h.all (by decide))
  have rcalls := row_kept h.calls hg (rows_apart h.got h.calls (by decide))
  have rlent := row_kept h.lent hg ((fun k e => (h.gl k e).1))
  have rwas := row_kept h.was hg ((fun k e => (h.gl k e).2))
  have vlent : ∀ k, V.ownBlock = some k → s.lent.ownBlock ≠ some k := (fun k hk => (hb k hk).elim (fun e => ((fun k e => (h.gl k e).1)) k e) (fun e e' => by have := (h.lent.lt k e').2; omega))
  have vwas : ∀ k, V.ownBlock = some k → s.was.ownBlock ≠ some k := (fun k hk => (hb k hk).elim (fun e => ((fun k e => (h.gl k e).2)) k e) (fun e e' => by have := (h.was.lt k e').2; omega))
  exact { blk := hblk.set 22 V, fb := hG _ h.fb, gl := fun k hk => ⟨vlent k hk, vwas k hk⟩, lw := h.lw, all := row_setCell rall (blk_apart hblk rall (by decide)) V, fall := h.fall.mono hG, calls := row_setCell rcalls (blk_apart hblk rcalls (by decide)) V, fcalls := h.fcalls.mono hG, got := row_setCell ho (blk_apart hblk ho (by decide)) V, fgot := hfV, lent := row_setCell rlent (blk_apart hblk rlent (by decide)) V, flent := h.flent.mono hG, was := row_setCell rwas (blk_apart hblk rwas (by decide)) V, fwas := h.fwas.mono hG }
/-- The list lent has been appended to, and the field written. -/
theorem WInv.pushLent (h : WInv F w b s A cn cx gx lx wx) (lx' : List Value) (V : Value) (ho : w'.ownsRow 0 33 1 V lx'.length lx') (hg : w.grownBy w' s.lent.ownBlock) (hb : ∀ k, V.ownBlock = some k → s.lent.ownBlock = some k ∨ w.heap.size ≤ k)
    (G : Nat → Prop) (hG : ∀ k, F k → G k) (hG2 : ∀ k, w.heap.size ≤ k → G k) : WInv G (w'.setCell ⟨b, 23, none⟩ V) b { s with lent := V } A cn cx gx lx' wx := by
  have hblk : Blk w' b s.cells 42 := h.blk.grown hg (blk_apart h.blk h.lent (by decide))
  have hfV : InF G V := fun k hk => (hb k hk).elim (fun e => hG k (h.flent k e)) (hG2 k)
  have rall := row_kept h.all hg (rows_apart h.lent h.all (by decide))
  have rcalls := row_kept h.calls hg (rows_apart h.lent h.calls (by decide))
  have rgot := row_kept h.got hg ((fun k e e' => (h.gl k e').1 e))
  have rwas := row_kept h.was hg (h.lw)
  have vgot : ∀ k, V.ownBlock = some k → s.got.ownBlock ≠ some k := (fun k hk => (hb k hk).elim (fun e => ((fun k e e' => (h.gl k e').1 e)) k e) (fun e e' => by have := (h.got.lt k e').2; omega))
  have vwas : ∀ k, V.ownBlock = some k → s.was.ownBlock ≠ some k := (fun k hk => (hb k hk).elim (fun e => (h.lw) k e) (fun e e' => by have := (h.was.lt k e').2; omega))
  exact { blk := hblk.set 23 V, fb := hG _ h.fb, gl := fun k hk => ⟨fun e => vgot k e hk, (h.gl k hk).2⟩, lw := fun k hk => vwas k hk, all := row_setCell rall (blk_apart hblk rall (by decide)) V, fall := h.fall.mono hG, calls := row_setCell rcalls (blk_apart hblk rcalls (by decide)) V, fcalls := h.fcalls.mono hG, got := row_setCell rgot (blk_apart hblk rgot (by decide)) V, fgot := h.fgot.mono hG, lent := row_setCell ho (blk_apart hblk ho (by decide)) V, flent := hfV, was := row_setCell rwas (blk_apart hblk rwas (by decide)) V, fwas := h.fwas.mono hG }
/-- The list was has been appended to, and the field written. -/
theorem WInv.pushWas (h : WInv F w b s A cn cx gx lx wx) (wx' : List Value) (V : Value) (ho : w'.ownsRow 0 33 1 V wx'.length wx') (hg : w.grownBy w' s.was.ownBlock) (hb : ∀ k, V.ownBlock = some k → s.was.ownBlock = some k ∨ w.heap.size ≤ k)
    (G : Nat → Prop) (hG : ∀ k, F k → G k) (hG2 : ∀ k, w.heap.size ≤ k → G k) : WInv G (w'.setCell ⟨b, 24, none⟩ V) b { s with was := V } A cn cx gx lx wx' := by
  have hblk : Blk w' b s.cells 42 := h.blk.grown hg (blk_apart h.blk h.was (by decide))
  have hfV : InF G V := fun k hk => (hb k hk).elim (fun e => hG k (h.fwas k e)) (hG2 k)
  have rall := row_kept h.all hg (rows_apart h.was h.all (by decide))
  have rcalls := row_kept h.calls hg (rows_apart h.was h.calls (by decide))
  have rgot := row_kept h.got hg ((fun k e e' => (h.gl k e').2 e))
  have rlent := row_kept h.lent hg ((fun k e e' => h.lw k e' e))
  have vgot : ∀ k, V.ownBlock = some k → s.got.ownBlock ≠ some k := (fun k hk => (hb k hk).elim (fun e => ((fun k e e' => (h.gl k e').2 e)) k e) (fun e e' => by have := (h.got.lt k e').2; omega))
  have vlent : ∀ k, V.ownBlock = some k → s.lent.ownBlock ≠ some k := (fun k hk => (hb k hk).elim (fun e => ((fun k e e' => h.lw k e' e)) k e) (fun e e' => by have := (h.lent.lt k e').2; omega))
  exact { blk := hblk.set 24 V, fb := hG _ h.fb, gl := fun k hk => ⟨(h.gl k hk).1, fun e => vgot k e hk⟩, lw := fun k hk e => vlent k e hk, all := row_setCell rall (blk_apart hblk rall (by decide)) V, fall := h.fall.mono hG, calls := row_setCell rcalls (blk_apart hblk rcalls (by decide)) V, fcalls := h.fcalls.mono hG, got := row_setCell rgot (blk_apart hblk rgot (by decide)) V, fgot := h.fgot.mono hG, lent := row_setCell rlent (blk_apart hblk rlent (by decide)) V, flent := h.flent.mono hG, was := row_setCell ho (blk_apart hblk ho (by decide)) V, fwas := hfV }
end

set_option maxHeartbeats 400000 in
/-- note of a mute world. -/
theorem note_mute (F : Nat → Prop) (b : Nat) (s : WS) (A : List Int) (cn : Nat) (cx gx lx wx : List Value) (kind : Int) (nm : ByteArray) (ao : Option Addr) (n c : Nat) (w : World)
    (h : WInv F w b s A cn cx gx lx wx) (hm : s.mute = true) :
    Calls Tryz.prog 219 #[.pointer (some ⟨b, 0, none⟩), .int .i64 kind, .string nm, .slice ao n c] w fun e w' =>
      e = .returned (.tuple #[]) ∧ WInv F w' b { s with sum := wrap64 (wrap64 (s.sum + 1) + n) } A cn cx gx lx wx ∧ Keep F w w' := by
  have c12 := h.blk.cell 12 (v := .bool true) (by rw [← hm]; rfl)
  have c18 := h.blk.cell 18 (v := .int .i64 s.sum) rfl
  have f := h.blk.free
  have H := hid h
  have HM := hid hm
  clear h hm
  go_enter Tryz.func219, Tryz.ntmps219
  go_wp2
  refine bodyPost_ret (results_none rfl _ _ _) rfl ?_
  exact ⟨rfl, H.out.setCell 18 _ rfl rfl rfl rfl rfl rfl, (Keep.refl _ _).setCell (fun _ => H.out.fb) _⟩

set_option maxRecDepth 100000 in
set_option maxHeartbeats 1000000 in
/-- note of a world that is not mute. -/
theorem note_loud (F : Nat → Prop) (b : Nat) (s : WS) (A : List Int) (cn : Nat) (cx gx lx wx : List Value) (kind : Int) (nm : ByteArray) (ao : Option Addr) (n c : Nat) (bs : List Int) (w : World)
    (h : WInv F w b s A cn cx gx lx wx) (hm : s.mute = false) (hn : n = bs.length) (hno : ao = none → n = 0 ∧ c = 0) (hc : Cs w ao (U8 bs)) (hbig : n ≤ 1099511627776) (hF : ∀ a, ao = some a → ¬ F a.block) (hcn : cn ≤ 1000000000000) (hgn : gx.length ≤ 1000000000000) :
    Calls Tryz.prog 219 #[.pointer (some ⟨b, 0, none⟩), .int .i64 kind, .string nm, .slice ao n c] w fun e w' =>
      e = .returned (.tuple #[]) ∧ (∃ v calls got gx', WInv (Up F w) w' b { s with sum := wrap64 (wrap64 (s.sum + 1) + n), calls := calls, got := got } A (cn + 1) (cx ++ [.int .i64 kind, .string nm, v]) gx' lx wx ∧ gx'.length ≤ gx.length + 1) ∧ Keep F w w' := by
  obtain ⟨i0, hi, hz0, hz1, hz2⟩ := info_parts info_call
  obtain ⟨j0, gi, gz0, gz1, gz2⟩ := info_parts info_bytes
  have c12 := h.blk.cell 12 (v := .bool false) (by rw [← hm]; rfl)
  have c18 := h.blk.cell 18 (v := .int .i64 s.sum) rfl
  have c21 := h.blk.cell 21 (v := s.calls) rfl
  have f := h.blk.free
  obtain ⟨w1, hw1⟩ : ∃ w1, w1 = w.setCell ⟨b, 18, none⟩ (.int .i64 (wrap64 (wrap64 (s.sum + 1) + n))) := ⟨_, rfl⟩
  have H := hid h
  have HM := hid hm
  have HN := hid hn
  have HO := hid hno
  have HC := hid hc
  have HF := hid hF
  have HW := hid hw1
  clear h hm hn hno hc hw1 hF
  go_enter Tryz.func219, Tryz.ntmps219
  go_upto_region 2 with fail
  rw [← HW.out]
  have I1 : Hid (WInv F w1 b { s with sum := wrap64 (wrap64 (s.sum + 1) + n) } A cn cx gx lx wx) := by
    show WInv _ _ _ _ _ _ _ _ _ _
    rw [HW.out]; exact H.out.setCell 18 _ rfl rfl rfl rfl rfl rfl
  have K1 : Hid (Keep F w w1) := by
    show Keep _ _ _
    rw [HW.out]; exact (Keep.refl _ _).setCell (fun _ => H.out.fb) _
  clear c12 c18 c21 f
  go_cut [] (fun wz => Hid (∃ v calls, WInv (Up F w) wz b { s with sum := wrap64 (wrap64 (s.sum + 1) + n), calls := calls } A (cn + 1) (cx ++ [.int .i64 kind, .string nm, v]) gx lx wx ∧ Keep F w wz))
  case first =>
    have i1 := I1.out
    have c21 := i1.blk.cell 21 (v := s.calls) rfl
    have f := i1.blk.free
    have hlt := i1.blk.lt
    clear i1
    go_region_law (first
      | (rw [if_pos (by rfl)]; go_simp; go_at_call 230; go_must (refine (CopyBytes_any ao n c bs _ HN.out HO.out (Cs.drew (HC.out.keep K1.out HF.out)) hbig).mono ?_); rintro e w2 ⟨v, rfl, hsl, hblk, hbel⟩; obtain ⟨ao', c', rfl, hno', hcs'⟩ := hsl; have I2 := hid ((I1.out.drewN 1).below hbel); have K2 := hid ((K1.out.drewN 1).new hbel); have c21' := I2.out.blk.cell 21 (v := s.calls) rfl; have hl2 := I2.out.blk.lt; clear hblk hbel hno' hcs')
      | (go_must (refine step_append_row _ rfl (.tmp 27) (.tmp 33) 40 rfl 320 i0 _ 3 48 Tryz.underlying40 hi hz0 hz1 hz2 rfl (by decide) s.calls cn cx rfl (I2.out.calls.alloc _) _ 1 1 [.int .i64 kind, .string nm, .slice ao' (U8 bs).length c'] rfl rfl (by intro h; cases h) (three_new _ _ _ _ _) (by intro u hu; simp at hu; rcases hu with rfl | rfl | rfl <;> rfl) (by unfold maxLen; omega) (by omega) (cn + 1) _ rfl rfl ?_); intro av4 cv4 w4 ho4 hg4 hb4; have b4 := (I2.out.blk.alloc (.cells #[.int .i64 kind, .string nm, .slice ao' (U8 bs).length c'] 320)).grown hg4 (blk_apart I2.out.blk I2.out.calls (by decide)); have c21'' := b4.cell 21 (v := s.calls) rfl; have f4 := b4.free; have HO4 := hid ho4; have HG4 := hid hg4; have HB4 := hid hb4; have BB4 := hid b4; clear ho4 hg4 hb4 b4))
    all_goals
      go_wp2_with fail
      go_meet
      have I3 := I2.out.below ((Below.refl _ _).alloc (Nat.le_refl _) (.cells #[.int .i64 kind, .string nm, .slice ao' (U8 bs).length c'] 320))
      refine ⟨_, _, I3.pushCalls _ _ _ HO4.out HG4.out HB4.out _ (fun k h => .inl h) (fun k h => .inr ?_), ?_⟩
      · have := K2.out.size
        simp at h
        omega
      · refine Keep.setCell (Keep.grown (K2.out.alloc _) HG4.out ?_) (fun _ => I2.out.fb) _
        exact fun k e _ => I2.out.fcalls k e
  case rest =>
    obtain ⟨v, calls, hi2, hk2⟩ := hcut.out
    have I2 := hid hi2
    have K2 := hid hk2
    clear hcut hi2 hk2 I1 K1
    have c22 := I2.out.blk.cell 22 (v := s.got) rfl
    have f := I2.out.blk.free
    by_cases hkind : kind = 1 ∨ kind = 2
    · obtain ⟨k1, hk1⟩ : ∃ k1 : Bool, (kind == 1) = k1 := ⟨_, rfl⟩
      have e2 : (!k1) = true → (kind == 2) = true := by intro h; subst hk1; simp at h ⊢; omega
      cases k1
      all_goals
        try have e3 := e2 rfl
        clear e2
        go_wp2_with (at_builtin; go_must (refine wpList_append_row _ rfl (.tmp 47) (.tmp 49) 22 rfl 33 j0 (.slice none 0 0) 1 24 Tryz.underlying22 gi gz0 gz1 gz2 rfl (by decide) s.got gx.length gx rfl (I2.out.got.alloc _) _ 1 1 [.slice ao n c] rfl rfl (by intro h; cases h) (one_new _ _ _) (by intro u hu; simp at hu; subst hu; rfl) (by unfold maxLen; omega) (by omega) (gx.length + 1) _ rfl rfl ?_); intro av5 cv5 w5 ho5 hg5 hb5; have b5 := (I2.out.blk.alloc (.cells #[.slice ao n c] 33)).grown hg5 (blk_apart I2.out.blk I2.out.got (by decide)); have c22' := b5.cell 22 (v := s.got) rfl; have f5 := b5.free; have HO5 := hid ho5; have HG5 := hid hg5; have HB5 := hid hb5; clear ho5 hg5 hb5 b5)
        go_end0
        have I3 := I2.out.below ((Below.refl _ _).alloc (Nat.le_refl _) (.cells #[.slice ao n c] 33))
        refine ⟨rfl, ⟨v, calls, _, gx ++ [.slice ao n c], I3.pushGot _ _ (by simpa using HO5.out) HG5.out HB5.out _ (fun k h => h) (fun k h => .inr ?_), by simp⟩, ?_⟩
        · have := K2.out.size
          simp at h
          omega
        · refine Keep.setCell (Keep.grown (K2.out.alloc _) HG5.out ?_) (fun _ => H.out.fb) _
          exact fun k e hlt => (I2.out.fgot k e).elim id (fun h => by omega)
    · have e1 : (kind == 1) = false := by simp; omega
      have e2 : (kind == 2) = false := by simp; omega
      go_wp2
      go_end0
      exact ⟨rfl, ⟨v, calls, s.got, gx, I2.out, by omega⟩, K2.out⟩

end Go.Proofs.YtaelokmcmflmiaaGreatDoor
