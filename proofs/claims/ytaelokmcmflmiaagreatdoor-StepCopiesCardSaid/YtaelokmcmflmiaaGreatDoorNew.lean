/-
  step.New of the programs of no command and of the one command p.
-/
import Derived.Test.YtaelokmcmflmiaaGreatDoorTable
namespace Go.Proofs.YtaelokmcmflmiaaGreatDoor
open Go.RowKit
attribute [local go_sem ↓] exec_ldCmd
attribute [local go_sem ↓] exec_stCmd

theorem make_regexes (w : World) : (Instr.makeMap 72 none).run Tryz.prog w = .ok (.map (some w.heap.size)) (w.alloc (.map #[] 0)) := by kernel_rfl

/-- A core literal, kept from the walk's own rules. -/
def blCore (a b c d : Value) : Sem Value := Instr.build 82 #[(2, a), (3, b), (5, c), (9, d)]
theorem exec_blCore (ρ : Operand → Value) (d : Option Tmp) (x y z u : Operand) (ty : TypeId) (ps : String) (af : Array Edge) (g : Option (Nat × Bool)) (w : World) :
    Sem.run Tryz.prog (execOp ρ { dst := d, op := Op.build 82 #[(2, x), (3, y), (5, z), (9, u)], type := ty, pos := ps, after := af, guard := g }) w = (Sem.run Tryz.prog (blCore (ρ x) (ρ y) (ρ z) (ρ u)) w).andThen fun v w' => .ok (.value v) w' := by
  unfold execOp blCore
  simp only [Sem.run_bind, Sem.run_map, Sem.run_pure, List.map_toArray, List.map_cons, List.map_nil]
attribute [local go_sem ↓] exec_blCore
def core0 (wb mb qb : Nat) : List Value :=
  coreL [.pointer none, .slice none 0 0, .slice none 0 0, .slice none 0 0, .bool false, .iface 35 (ptr wb), .map (some mb), .pointer none, ptr qb, .pointer none] (List.replicate 256 .nilFunc)
    [.bool false, .int .i64 (-1), .int .i64 0, .int .i64 0, .int .i64 0, .bool false, .bool false, .bool false]
theorem run_blCore (wb mb qb : Nat) (w : World) : (blCore (.iface 35 (.pointer (some ⟨wb, 0, none⟩))) (.map (some mb)) (.pointer (some ⟨qb, 0, none⟩)) (.int .i64 (-1))).run Tryz.prog w = .ok (.agg (core0 wb mb qb).toArray) w := by kernel_rfl


def NewPost (n : Nat) (quiet : Bool) (wb : Nat) (w : World) (e : Ending) (w' : World) : Prop :=
  ∃ (p : Pl) (cs : CS), e = .returned (.tuple #[ptr p.mb, .int .i64 0]) ∧ Below w.heap.size w w' ∧ p.wb = wb ∧ (w.heap.size ≤ p.mb ∧ w.heap.size ≤ p.cb ∧ w.heap.size ≤ p.sp ∧ w.heap.size ≤ p.qb ∧ w.heap.size ≤ p.gb) ∧
    Blk w' p.mb [ptr p.cb] 94 ∧ Blk w' p.cb (cs.cells p.cb) 82 ∧ Blk w' p.sp (spaceL (.slice none 0 0) (.slice none 0 0) 1048576) 116 ∧ Blk w' p.qb (queueL (.slice none 0 0)) 108 ∧
    (∃ oo oc, Blk w' p.gb [.slice oo n oc] 119) ∧ cs.sp = p.sp ∧ cs.wb = wb ∧ cs.qb = p.qb ∧ cs.gb = p.gb ∧ cs.quiet = quiet ∧ cs.at_ = -1 ∧ cs.steps = 0 ∧ (cs.silent = false ∧ cs.ends = false ∧ cs.anew = false) ∧
    ProgIs (fun k => w.heap.size ≤ k ∧ k ≠ p.sp ∧ k ≠ p.qb) w' p.cb cs n

set_option maxRecDepth 100000 in
set_option maxHeartbeats 2000000 in
theorem New_nil (quiet : Bool) (wb : Nat) (w : World) (hwb : wb < w.heap.size) :
    Calls Tryz.prog 7 #[.agg #[.slice none 0 0, .slice none 0 0, .slice none 0 0, .bool quiet], .iface 35 (.pointer (some ⟨wb, 0, none⟩))] w (NewPost 0 quiet wb w) := by
  have hmm := make_regexes
  have hbl := run_blCore
  go_enter Tryz.func7, Tryz.ntmps7
  go_wp2_with fail
  refine (Good_nil _ _).mono ?_
  rintro e w1 ⟨rfl, b1⟩
  have B1 := hid (bel1 b1)
  have d0 : w1.cell? ⟨w.heap.size, 0, none⟩ = some (.slice none 0 0) := (b1.cell (by simp)).trans (by simp)
  have d3 : w1.cell? ⟨w.heap.size, 3, none⟩ = some (.bool quiet) := (b1.cell (by simp)).trans (by simp)
  have z1 : w.heap.size < w1.heap.size := by have := b1.size; simp at this; omega
  clear b1
  go_wp2_with fail
  have d0' : ∀ o1 o2 o3, (((w1.alloc o1).alloc o2).alloc o3).cell? ⟨w.heap.size, 0, none⟩ = some (.slice none 0 0) := fun o1 o2 o3 => by
    rw [World.cell?_alloc_lt _ _ _ (by simp; omega), World.cell?_alloc_lt _ _ _ (by simp; omega), World.cell?_alloc_lt _ _ _ (by simp; omega)]; exact d0
  have d3' : ∀ o1 o2 o3, (((w1.alloc o1).alloc o2).alloc o3).cell? ⟨w.heap.size, 3, none⟩ = some (.bool quiet) := fun o1 o2 o3 => by
    rw [World.cell?_alloc_lt _ _ _ (by simp; omega), World.cell?_alloc_lt _ _ _ (by simp; omega), World.cell?_alloc_lt _ _ _ (by simp; omega)]; exact d3
  clear d0 d3
  refine (queueNew _).mono ?_
  rintro e w2 ⟨rfl, rfl⟩
  go_wp2_with fail
  clear d0' d3' hbl hmm
  generalize hw2 : ((w1.alloc (Obj.map #[] 0)).alloc (Obj.cells (queueL (Value.slice none 0 0)).toArray 108)).alloc (Obj.cells (core0 wb w1.heap.size (w1.heap.size + 1)).toArray 82) = w2
  have Q2 := hid (show Blk w2 (w1.heap.size + 1) (queueL (.slice none 0 0)) 108 by rw [← hw2]; exact (Blk.newAt (by simp) _ _).alloc _)
  have C2 := hid (show Blk w2 (w1.heap.size + 1 + 1) (core0 wb w1.heap.size (w1.heap.size + 1)) 82 by rw [← hw2]; exact Blk.newAt (by simp) _ _)
  have B2 := hid (show Below w.heap.size w w2 by rw [← hw2]; exact ((B1.out.alloc (by omega) _).alloc (by simp; omega) _).alloc (by simp; omega) _)
  have z2 : w2.heap.size = w1.heap.size + 3 := by rw [← hw2]; simp
  clear hw2 B1
  refine (Resolve_nil _ _ _ _).mono ?_
  rintro e w3 ⟨ra, rfl, b3⟩
  have Q3 := hid (Q2.out.below b3 (by omega))
  have C3 := hid (C2.out.below b3 (by omega))
  have B3 := hid (B2.out.trans (b3.mono (by omega)))
  have z3 := b3.size
  clear Q2 C2 B2 b3
  have f3 := C3.out.free
  have e1 := C3.out.cell 1 rfl
  have e2 := C3.out.cell 2 rfl
  have e3 := C3.out.cell 3 rfl
  have e4 := C3.out.cell 4 rfl
  go_wp2_with fail
  generalize hcb : w1.heap.size + 1 + 1 = cb at *
  generalize hqb : w1.heap.size + 1 = qb at *
  generalize hw4 : World.setCell (World.setCell (World.setCell (World.setCell w3 _ _) _ _) _ _) _ _ = w4
  have C4 := hid (show Blk w4 cb (coreL [.pointer none, .slice none 0 0, .slice (some ra) 0 0, .slice none 0 0, .bool quiet, .iface 35 (ptr wb), .map (some w1.heap.size), .pointer none, ptr qb, .pointer none] (List.replicate 256 .nilFunc) [.bool false, .int .i64 (-1), .int .i64 0, .int .i64 0, .int .i64 0, .bool false, .bool false, .bool false]) 82 by
    rw [← hw4]; exact ((((C3.out.set 1 _).set 2 _).set 3 _).set 4 _))
  have K4 : Keep (· = cb) w3 w4 := by rw [← hw4]; exact ((((Keep.one w3 cb 1 (.slice none 0 0)).trans (Keep.one _ cb 2 (.slice (some ra) 0 0)) (fun _ _ h => h)).trans (Keep.one _ cb 3 (.slice none 0 0)) (fun _ _ h => h)).trans (Keep.one _ cb 4 (.bool quiet)) (fun _ _ h => h))
  have Q4 := hid (Q3.out.keep K4 (by omega))
  have B4 := hid (B3.out.trans (⟨K4.os, K4.tape, K4.output, K4.size, fun i hi => K4.block i (by omega) (by omega)⟩ : Below w.heap.size w3 w4))
  have z4 := K4.size
  clear hw4 C3 Q3 B3 K4 f3 e1 e2 e3 e4
  refine (spaceNew _).mono ?_
  rintro e w5 ⟨rfl, h5⟩
  have C5 := hid (show Blk w5 cb _ 82 by rw [h5]; exact C4.out.alloc _)
  have S5 := hid (show Blk w5 w4.heap.size (spaceL (.slice none 0 0) (.slice none 0 0) 1048576) 116 by rw [h5]; exact Blk.new _ _ _)
  have Q5 := hid (show Blk w5 qb _ 108 by rw [h5]; exact Q4.out.alloc _)
  have B5 := hid (show Below w.heap.size w w5 by rw [h5]; exact B4.out.alloc (by omega) _)
  have z5 : w4.heap.size < w5.heap.size := by rw [h5]; simp
  generalize hsp : w4.heap.size = sp at *
  clear h5 C4 Q4 B4
  have e0 := C5.out.cell 0 rfl
  have e1 := C5.out.cell 1 rfl
  have f5 := C5.out.free
  go_wp2_with fail
  generalize hw6 : World.setCell w5 _ _ = w6
  have C6 := hid (show Blk w6 cb (coreL [ptr sp, .slice none 0 0, .slice (some ra) 0 0, .slice none 0 0, .bool quiet, .iface 35 (ptr wb), .map (some w1.heap.size), .pointer none, ptr qb, .pointer none] (List.replicate 256 .nilFunc) [.bool false, .int .i64 (-1), .int .i64 0, .int .i64 0, .int .i64 0, .bool false, .bool false, .bool false]) 82 by
    rw [← hw6]; exact C5.out.set 0 _)
  have S6 := hid (show Blk w6 sp _ 116 by rw [← hw6]; exact S5.out.setO (by show sp ≠ cb; omega) _)
  have Q6 := hid (show Blk w6 qb _ 108 by rw [← hw6]; exact Q5.out.setO (by show qb ≠ cb; omega) _)
  have B6 := hid (show Below w.heap.size w w6 by rw [← hw6]; exact B5.out.setCell (by show w.heap.size ≤ cb; omega) _)
  have z6 : sp < w6.heap.size := by rw [← hw6]; simpa using z5
  clear hw6 C5 S5 Q5 B5 e0 e1 f5
  refine (gatesNew0 _).mono ?_
  rintro e w7 ⟨o7, rfl, h7⟩
  have C7 := hid (show Blk w7 cb _ 82 by rw [h7]; exact (C6.out.alloc _).alloc _)
  have S7 := hid (show Blk w7 sp _ 116 by rw [h7]; exact (S6.out.alloc _).alloc _)
  have Q7 := hid (show Blk w7 qb _ 108 by rw [h7]; exact (Q6.out.alloc _).alloc _)
  have G7 := hid (show Blk w7 (w6.heap.size + 1) [.slice (some ⟨w6.heap.size, 0, none⟩) 0 0] 119 by rw [h7]; exact Blk.newAt (by simp) _ _)
  have B7 := hid (show Below w.heap.size w w7 by rw [h7]; exact (B6.out.alloc (by omega) _).alloc (by simp; omega) _)
  have z7 : w6.heap.size + 1 < w7.heap.size := by rw [h7]; simp
  clear h7 C6 S6 Q6 B6
  have e1 := C7.out.cell 1 rfl
  have e9 := C7.out.cell 9 rfl
  have f7 := C7.out.free
  go_wp2_with fail
  refine wp_loop_rounds 1 ?_
  rw [rounds_succ]
  go_wp2_with fail
  generalize hw8 : World.setCell w7 _ _ = w8
  generalize hgb : w6.heap.size + 1 = gb at *
  have C8 := hid (show Blk w8 cb (coreL [ptr sp, .slice none 0 0, .slice (some ra) 0 0, .slice none 0 0, .bool quiet, .iface 35 (ptr wb), .map (some w1.heap.size), .pointer none, ptr qb, ptr gb] (List.replicate 256 .nilFunc) [.bool false, .int .i64 (-1), .int .i64 0, .int .i64 0, .int .i64 0, .bool false, .bool false, .bool false]) 82 by
    rw [← hw8]; exact C7.out.set 9 _)
  have S8 := hid (show Blk w8 sp _ 116 by rw [← hw8]; exact S7.out.setO (by show sp ≠ cb; omega) _)
  have Q8 := hid (show Blk w8 qb _ 108 by rw [← hw8]; exact Q7.out.setO (by show qb ≠ cb; omega) _)
  have G8 := hid (show Blk w8 gb _ 119 by rw [← hw8]; exact G7.out.setO (by show gb ≠ cb; omega) _)
  have B8 := hid (show Below w.heap.size w w8 by rw [← hw8]; exact B7.out.setCell (by show w.heap.size ≤ cb; omega) _)
  have z8 : gb < w8.heap.size := by rw [← hw8]; simpa using z7
  clear hw8 C7 S7 Q7 G7 B7 e1 e9 f7
  refine (table_any cb _ _ _ C8.out rfl).mono ?_
  rintro e w9 ⟨rfl, C9, K9⟩
  have C9 := hid C9
  have S9 := hid (S8.out.keep K9 (by omega))
  have Q9 := hid (Q8.out.keep K9 (by omega))
  have G9 := hid (G8.out.keep K9 (by omega))
  have B9 := hid (B8.out.trans (⟨K9.os, K9.tape, K9.output, K9.size, fun i hi => K9.block i (by omega) (by omega)⟩ : Below w.heap.size w8 w9))
  have z9 := K9.size
  clear C8 S8 Q8 G8 B8 K9
  go_wp2_with fail
  go_ret2
  exact ⟨⟨w9.heap.size, cb, sp, qb, gb, wb⟩, ⟨sp, .slice none 0 0, .slice (some ra) 0 0, .slice none 0 0, quiet, wb, w1.heap.size, .pointer none, qb, gb, false, -1, 0, 0, 0, false, false, false⟩,
    rfl, B9.out.alloc (by have := B9.out.size; omega) _, rfl, ⟨B9.out.size, by show _ ≤ cb; omega, by show _ ≤ sp; omega, by show _ ≤ qb; omega, by show _ ≤ gb; omega⟩, Blk.new _ _ _, C9.out.alloc _, S9.out.alloc _, Q9.out.alloc _, ⟨_, _, G9.out.alloc _⟩, rfl, rfl, rfl, rfl, rfl, rfl, rfl, ⟨rfl, rfl, rfl⟩, .inl ⟨rfl, none, 0, rfl⟩⟩

set_option maxRecDepth 100000 in
set_option maxHeartbeats 2000000 in
theorem New_p (quiet : Bool) (wb ab c tb tc : Nat) (cmd : List Value) (w : World) (hwb : wb < w.heap.size) (hc : CmdZ cmd) (h : w.rangeAt ab 0 cmd) (ht : w.cell? ⟨tb, 0, none⟩ = some (.int .i64 (-1))) :
    Calls Tryz.prog 7 #[.agg #[.slice (some ⟨ab, 0, none⟩) 1 c, .slice (some ⟨tb, 0, none⟩) 1 tc, .slice none 0 0, .bool quiet], .iface 35 (.pointer (some ⟨wb, 0, none⟩))] w (NewPost 1 quiet wb w) := by
  have HC := hid hc
  have HR := hid h
  have HT := hid ht
  have hab : ab < w.heap.size := block_lt_of_cell (by have := h 0 _ hc.c0; simpa using this)
  have htb : tb < w.heap.size := block_lt_of_cell ht
  clear hc h ht
  have hmm := make_regexes
  have hbl := run_blCore
  go_enter Tryz.func7, Tryz.ntmps7
  go_wp2_with fail
  refine (Good_p quiet ab c tb tc cmd _ HC.out (World.rangeAt_alloc HR.out _) (by rw [World.cell?_alloc_lt _ _ _ htb]; exact HT.out)).mono ?_
  rintro e w1 ⟨rfl, b1⟩
  have B1 := hid (bel1 b1)
  have R1 := hid (show w1.rangeAt ab 0 cmd from fun j v hv => (B1.out.cell (p := ⟨ab, 0 + j, none⟩) hab).trans (HR.out j v hv))
  have d0 : w1.cell? ⟨w.heap.size, 0, none⟩ = some (.slice (some ⟨ab, 0, none⟩) 1 c) := (b1.cell (by simp)).trans (by simp)
  have d3 : w1.cell? ⟨w.heap.size, 3, none⟩ = some (.bool quiet) := (b1.cell (by simp)).trans (by simp)
  have z1 : w.heap.size < w1.heap.size := by have := b1.size; simp at this; omega
  clear b1
  go_wp2_with fail
  have d0' : ∀ o1 o2 o3, (((w1.alloc o1).alloc o2).alloc o3).cell? ⟨w.heap.size, 0, none⟩ = some (.slice (some ⟨ab, 0, none⟩) 1 c) := fun o1 o2 o3 => by
    rw [World.cell?_alloc_lt _ _ _ (by simp; omega), World.cell?_alloc_lt _ _ _ (by simp; omega), World.cell?_alloc_lt _ _ _ (by simp; omega)]; exact d0
  have d3' : ∀ o1 o2 o3, (((w1.alloc o1).alloc o2).alloc o3).cell? ⟨w.heap.size, 3, none⟩ = some (.bool quiet) := fun o1 o2 o3 => by
    rw [World.cell?_alloc_lt _ _ _ (by simp; omega), World.cell?_alloc_lt _ _ _ (by simp; omega), World.cell?_alloc_lt _ _ _ (by simp; omega)]; exact d3
  clear d0 d3
  refine (queueNew _).mono ?_
  rintro e w2 ⟨rfl, rfl⟩
  go_wp2_with fail
  clear d0' d3' hbl hmm
  generalize hw2 : ((w1.alloc (Obj.map #[] 0)).alloc (Obj.cells (queueL (Value.slice none 0 0)).toArray 108)).alloc (Obj.cells (core0 wb w1.heap.size (w1.heap.size + 1)).toArray 82) = w2
  have Q2 := hid (show Blk w2 (w1.heap.size + 1) (queueL (.slice none 0 0)) 108 by rw [← hw2]; exact (Blk.newAt (by simp) _ _).alloc _)
  have C2 := hid (show Blk w2 (w1.heap.size + 1 + 1) (core0 wb w1.heap.size (w1.heap.size + 1)) 82 by rw [← hw2]; exact Blk.newAt (by simp) _ _)
  have B2 := hid (show Below w.heap.size w w2 by rw [← hw2]; exact ((B1.out.alloc (by omega) _).alloc (by simp; omega) _).alloc (by simp; omega) _)
  have z2 : w2.heap.size = w1.heap.size + 3 := by rw [← hw2]; simp
  have R2 := hid (show w2.rangeAt ab 0 cmd by rw [← hw2]; exact World.rangeAt_alloc (World.rangeAt_alloc (World.rangeAt_alloc R1.out _) _) _)
  clear hw2 B1 R1 HR HT
  refine (Resolve_p quiet ab c cmd _ HC.out R2.out).mono ?_
  rintro e w3 ⟨nb, nc, rb, cmd', hc', rfl, hr', _, b3, hn, _⟩
  have HN := hid hc'
  have N3 := hid hr'
  have hnb3 : nb < w3.heap.size := block_lt_of_cell (by have := hr' 0 _ hc'.c0; simpa using this)
  clear hc' hr' R2 HC
  have Q3 := hid (Q2.out.below b3 (by omega))
  have C3 := hid (C2.out.below b3 (by omega))
  have B3 := hid (B2.out.trans (b3.mono (by omega)))
  have z3 := b3.size
  clear Q2 C2 B2 b3
  have f3 := C3.out.free
  have e1 := C3.out.cell 1 rfl
  have e2 := C3.out.cell 2 rfl
  have e3 := C3.out.cell 3 rfl
  have e4 := C3.out.cell 4 rfl
  go_wp2_with fail
  generalize hcb : w1.heap.size + 1 + 1 = cb at *
  generalize hqb : w1.heap.size + 1 = qb at *
  generalize hw4 : World.setCell (World.setCell (World.setCell (World.setCell w3 _ _) _ _) _ _) _ _ = w4
  have C4 := hid (show Blk w4 cb (coreL [.pointer none, .slice (some ⟨nb, 0, none⟩) 1 nc, .slice (some ⟨rb, 0, none⟩) 1 1, .slice none 0 0, .bool quiet, .iface 35 (ptr wb), .map (some w1.heap.size), .pointer none, ptr qb, .pointer none] (List.replicate 256 .nilFunc) [.bool false, .int .i64 (-1), .int .i64 0, .int .i64 0, .int .i64 0, .bool false, .bool false, .bool false]) 82 by
    rw [← hw4]; exact ((((C3.out.set 1 _).set 2 _).set 3 _).set 4 _))
  have K4 : Keep (· = cb) w3 w4 := by rw [← hw4]; exact ((((Keep.one w3 cb 1 (.slice (some ⟨nb, 0, none⟩) 1 nc)).trans (Keep.one _ cb 2 (.slice (some ⟨rb, 0, none⟩) 1 1)) (fun _ _ h => h)).trans (Keep.one _ cb 3 (.slice none 0 0)) (fun _ _ h => h)).trans (Keep.one _ cb 4 (.bool quiet)) (fun _ _ h => h))
  have Q4 := hid (Q3.out.keep K4 (by omega))
  have B4 := hid (B3.out.trans (⟨K4.os, K4.tape, K4.output, K4.size, fun i hi => K4.block i (by omega) (by omega)⟩ : Below w.heap.size w3 w4))
  have N4 := hid (show w4.rangeAt nb 0 cmd' from fun j v hv => (World.cell?_of_block (w := w3) (K4.block nb hnb3 (by omega))).trans (N3.out j v hv))
  have z4 := K4.size
  clear hw4 C3 Q3 B3 K4 N3 f3 e1 e2 e3 e4
  refine (spaceNew _).mono ?_
  rintro e w5 ⟨rfl, h5⟩
  have C5 := hid (show Blk w5 cb _ 82 by rw [h5]; exact C4.out.alloc _)
  have S5 := hid (show Blk w5 w4.heap.size (spaceL (.slice none 0 0) (.slice none 0 0) 1048576) 116 by rw [h5]; exact Blk.new _ _ _)
  have Q5 := hid (show Blk w5 qb _ 108 by rw [h5]; exact Q4.out.alloc _)
  have B5 := hid (show Below w.heap.size w w5 by rw [h5]; exact B4.out.alloc (by omega) _)
  have N5 := hid (show w5.rangeAt nb 0 cmd' by rw [h5]; exact World.rangeAt_alloc N4.out _)
  have z5 : w4.heap.size < w5.heap.size := by rw [h5]; simp
  generalize hsp : w4.heap.size = sp at *
  clear h5 C4 Q4 B4 N4
  have e0 := C5.out.cell 0 rfl
  have e1 := C5.out.cell 1 rfl
  have f5 := C5.out.free
  go_wp2_with fail
  generalize hw6 : World.setCell w5 _ _ = w6
  have C6 := hid (show Blk w6 cb (coreL [ptr sp, .slice (some ⟨nb, 0, none⟩) 1 nc, .slice (some ⟨rb, 0, none⟩) 1 1, .slice none 0 0, .bool quiet, .iface 35 (ptr wb), .map (some w1.heap.size), .pointer none, ptr qb, .pointer none] (List.replicate 256 .nilFunc) [.bool false, .int .i64 (-1), .int .i64 0, .int .i64 0, .int .i64 0, .bool false, .bool false, .bool false]) 82 by
    rw [← hw6]; exact C5.out.set 0 _)
  have S6 := hid (show Blk w6 sp _ 116 by rw [← hw6]; exact S5.out.setO (by show sp ≠ cb; omega) _)
  have Q6 := hid (show Blk w6 qb _ 108 by rw [← hw6]; exact Q5.out.setO (by show qb ≠ cb; omega) _)
  have B6 := hid (show Below w.heap.size w w6 by rw [← hw6]; exact B5.out.setCell (by show w.heap.size ≤ cb; omega) _)
  have N6 := hid (show w6.rangeAt nb 0 cmd' from fun j v hv => by rw [← hw6]; exact (World.cell?_of_block (w := w5) (Below.heap_setCell _ _ _ _ (by show nb ≠ cb; omega))).trans (N5.out j v hv))
  have z6 : sp < w6.heap.size := by rw [← hw6]; simpa using z5
  clear hw6 C5 S5 Q5 B5 N5 e0 e1 f5
  refine (gatesNew1 _).mono ?_
  rintro e w7 ⟨o7, rfl, h7⟩
  have C7 := hid (show Blk w7 cb _ 82 by rw [h7]; exact (C6.out.alloc _).alloc _)
  have S7 := hid (show Blk w7 sp _ 116 by rw [h7]; exact (S6.out.alloc _).alloc _)
  have Q7 := hid (show Blk w7 qb _ 108 by rw [h7]; exact (Q6.out.alloc _).alloc _)
  have G7 := hid (show Blk w7 (w6.heap.size + 1) [.slice (some ⟨w6.heap.size, 0, none⟩) 1 1] 119 by rw [h7]; exact Blk.newAt (by simp) _ _)
  have B7 := hid (show Below w.heap.size w w7 by rw [h7]; exact (B6.out.alloc (by omega) _).alloc (by simp; omega) _)
  have N7 := hid (show w7.rangeAt nb 0 cmd' by rw [h7]; exact World.rangeAt_alloc (World.rangeAt_alloc N6.out _) _)
  have z7 : w6.heap.size + 1 < w7.heap.size := by rw [h7]; simp
  clear h7 C6 S6 Q6 B6 N6
  have e1 := C7.out.cell 1 rfl
  have e9 := C7.out.cell 9 rfl
  have f7 := C7.out.free
  go_wp2_with fail
  refine wp_loop_rounds 2 ?_
  rw [rounds_succ]
  go_wp2_with fail
  generalize hw8 : World.setCell w7 _ _ = w8
  generalize hgb : w6.heap.size + 1 = gb at *
  have C8 := hid (show Blk w8 cb (coreL [ptr sp, .slice (some ⟨nb, 0, none⟩) 1 nc, .slice (some ⟨rb, 0, none⟩) 1 1, .slice none 0 0, .bool quiet, .iface 35 (ptr wb), .map (some w1.heap.size), .pointer none, ptr qb, ptr gb] (List.replicate 256 .nilFunc) [.bool false, .int .i64 (-1), .int .i64 0, .int .i64 0, .int .i64 0, .bool false, .bool false, .bool false]) 82 by
    rw [← hw8]; exact C7.out.set 9 _)
  have S8 := hid (show Blk w8 sp _ 116 by rw [← hw8]; exact S7.out.setO (by show sp ≠ cb; omega) _)
  have Q8 := hid (show Blk w8 qb _ 108 by rw [← hw8]; exact Q7.out.setO (by show qb ≠ cb; omega) _)
  have G8 := hid (show Blk w8 gb _ 119 by rw [← hw8]; exact G7.out.setO (by show gb ≠ cb; omega) _)
  have B8 := hid (show Below w.heap.size w w8 by rw [← hw8]; exact B7.out.setCell (by show w.heap.size ≤ cb; omega) _)
  have N8 := hid (show w8.rangeAt nb 0 cmd' from fun j v hv => by rw [← hw8]; exact (World.cell?_of_block (w := w7) (Below.heap_setCell _ _ _ _ (by show nb ≠ cb; omega))).trans (N7.out j v hv))
  have z8 : gb < w8.heap.size := by rw [← hw8]; simpa using z7
  clear hw8 C7 S7 Q7 G7 B7 N7 e1 e9 f7
  rw [ld_cmd N8.out HN.out]
  go_wp2_with fail
  obtain ⟨st, BS⟩ := run_stCmd (Blk.newAt (w := w8) (n := w8.heap.size) rfl Tryz.zeroCells60.toList 60) zero_len HN.out
  simp only [Array.toArray_toList] at st BS
  rw [st]
  generalize hw9 : (w8.alloc (Obj.cells Tryz.zeroCells60 60)).setCells w8.heap.size 0 cmd' = w9 at *
  have K9 : Keep (fun k => k = w8.heap.size) w8 w9 := by rw [← hw9]; exact ((Keep.refl _ _).alloc _).trans (Keep.sets _ _ _) (fun _ _ h => h)
  have z9 := K9.size
  have C9 := hid (C8.out.keep K9 (by omega))
  have S9 := hid (S8.out.keep K9 (by omega))
  have Q9 := hid (Q8.out.keep K9 (by omega))
  have G9 := hid (G8.out.keep K9 (by omega))
  have B9 := hid (B8.out.trans (⟨K9.os, K9.tape, K9.output, K9.size, fun i hi => K9.block i (by have := B8.out.size; omega) (by have := B8.out.size; omega)⟩ : Below w.heap.size w8 w9))
  have N9 := hid (show w9.rangeAt nb 0 cmd' from fun j v hv => (World.cell?_of_block (w := w8) (K9.block nb (by omega) (by omega))).trans (N8.out j v hv))
  have c2 := BS.cell 2 HN.out.c2
  have c5 := BS.cell 5 HN.out.c5
  have c10 := BS.cell 10 HN.out.c10
  clear hw9 C8 S8 Q8 G8 B8 N8 K9 BS st
  go_wp2_with fail
  refine wp_loop_rounds 4 ?_
  rw [rounds_succ]
  go_wp2_with fail
  rw [rounds_succ]
  go_wp2_with fail
  rw [rounds_succ]
  go_wp2_with fail
  rw [rounds_succ]
  go_wp2_with fail
  rw [rounds_succ]
  go_wp2_with fail
  refine (table_any cb _ _ _ (C9.out.alloc _) rfl).mono ?_
  rintro e w10 ⟨rfl, C10', K10⟩
  have C10 := hid C10'
  have S10 := hid ((S9.out.alloc _).keep K10 (by omega))
  have Q10 := hid ((Q9.out.alloc _).keep K10 (by omega))
  have G10 := hid ((G9.out.alloc _).keep K10 (by omega))
  have B10 := hid ((B9.out.alloc (by omega) _).trans (⟨K10.os, K10.tape, K10.output, K10.size, fun i hi => K10.block i (by simp; omega) (by omega)⟩ : Below w.heap.size _ w10))
  have N10 := hid (show w10.rangeAt nb 0 cmd' from fun j v hv => (World.cell?_of_block (K10.block nb (by simp; omega) (by omega))).trans (World.rangeAt_alloc N9.out _ j v hv))
  clear C10' C9 S9 Q9 G9 B9 N9 K10 c2 c5 c10
  go_wp2_with fail
  go_ret2
  exact ⟨⟨w10.heap.size, cb, sp, qb, gb, wb⟩, ⟨sp, .slice (some ⟨nb, 0, none⟩) 1 nc, .slice (some ⟨rb, 0, none⟩) 1 1, .slice none 0 0, quiet, wb, w1.heap.size, .pointer none, qb, gb, false, -1, 0, 0, 0, false, false, false⟩,
    rfl, B10.out.alloc B10.out.size _, rfl, ⟨B10.out.size, by show _ ≤ cb; omega, by show _ ≤ sp; omega, by show _ ≤ qb; omega, by show _ ≤ gb; omega⟩, Blk.new _ _ _, C10.out.alloc _, S10.out.alloc _, Q10.out.alloc _, ⟨_, _, G10.out.alloc _⟩, rfl, rfl, rfl, rfl, rfl, rfl, rfl, ⟨rfl, rfl, rfl⟩,
    .inr ⟨rfl, nb, nc, cmd', rfl, ⟨World.rangeAt_alloc N10.out _, HN.out.len, HN.out.c0, HN.out.c6, HN.out.c7⟩, ⟨by omega, by show nb ≠ sp; omega, by show nb ≠ qb; omega⟩, by show nb ≠ cb; omega⟩⟩

end Go.Proofs.YtaelokmcmflmiaaGreatDoor
