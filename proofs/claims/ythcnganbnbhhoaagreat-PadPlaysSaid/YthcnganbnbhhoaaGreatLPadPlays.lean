/-
  Proves that the law function PadPlays returns true whatever it is given, and that what it is given reads behind the call as it read before: 'PadPlaysSaid'. No conditions.
-/
import Derived.Test.YthcnganbnbhhoaaGreatRows
import Derived.Test.YthcnganbnbhhoaaGreatQ9
import Derived.SizedLaws
namespace Go.Proofs.YthcnganbnbhhoaaGreat
set_option linter.unusedVariables false
set_option linter.unusedSimpArgs false
open Go Go.Proofs Go.Proofs.YthcnganbnbhhoaaGreat.Sh Go.ChangeShapes Go.WideShapes Go.ChangeAt Go.RowKit
section
variable {H : Type} {enc : TypeId × Value → H} {W : World}
def Span.G (x : Span) : Prop := (Lit.int .i64 x.lo).wf = true ∧ (Lit.int .i64 x.hi).wf = true
set_option maxRecDepth 100000 in
theorem open_Span {n : Nat} {cs : List Value} {y : DataW H × List MemPlace} (h : DataW.trod enc Tryz.prog W 0 (fun _ => true) true n 91 cs = some y) : ∃ a : Span, CV W cs (Span.d a) ∧ Span.G a := by
 have hl := (trodLen Tryz.underlying91 h).trans (by kernel_rfl : Tryz.prog.cellsOf 91 = 2)
 match cs, hl with
 | [c0, c1], _ =>
  obtain ⟨n1, y1, f1⟩ := trodAt Tryz.underlying91 h 0 _ rfl [c0] (by kernel_rfl)
  obtain ⟨v0, o0, g0⟩ := op_int Tryz.underlying3 f1
  obtain ⟨n2, y2, f2⟩ := trodAt Tryz.underlying91 h 1 _ rfl [c1] (by kernel_rfl)
  obtain ⟨v1, o1, g1⟩ := op_int Tryz.underlying3 f2
  exact ⟨⟨v0, v1⟩, CVs.cv ⟨o0, o1, trivial⟩, g0, g1⟩
def Area.G (x : Area) : Prop := (Lit.int .i64 x.x_Lo).wf = true ∧ (Lit.int .i64 x.x_Hi).wf = true ∧ (Lit.int .i64 x.y_Lo).wf = true ∧ (Lit.int .i64 x.y_Hi).wf = true
set_option maxRecDepth 100000 in
theorem open_Area {n : Nat} {cs : List Value} {y : DataW H × List MemPlace} (h : DataW.trod enc Tryz.prog W 0 (fun _ => true) true n 93 cs = some y) : ∃ a : Area, CV W cs (Area.d a) ∧ Area.G a := by
 have hl := (trodLen Tryz.underlying93 h).trans (by kernel_rfl : Tryz.prog.cellsOf 93 = 4)
 match cs, hl with
 | [c0, c1, c2, c3], _ =>
  obtain ⟨n1, y1, f1⟩ := trodAt Tryz.underlying93 h 0 _ rfl [c0, c1] (by kernel_rfl)
  obtain ⟨n2, y2, f2⟩ := trodAt Tryz.underlying91 f1 0 _ rfl [c0] (by kernel_rfl)
  obtain ⟨v0, o0, g0⟩ := op_int Tryz.underlying3 f2
  obtain ⟨n3, y3, f3⟩ := trodAt Tryz.underlying91 f1 1 _ rfl [c1] (by kernel_rfl)
  obtain ⟨v1, o1, g1⟩ := op_int Tryz.underlying3 f3
  obtain ⟨n4, y4, f4⟩ := trodAt Tryz.underlying93 h 1 _ rfl [c2, c3] (by kernel_rfl)
  obtain ⟨n5, y5, f5⟩ := trodAt Tryz.underlying91 f4 0 _ rfl [c2] (by kernel_rfl)
  obtain ⟨v2, o2, g2⟩ := op_int Tryz.underlying3 f5
  obtain ⟨n6, y6, f6⟩ := trodAt Tryz.underlying91 f4 1 _ rfl [c3] (by kernel_rfl)
  obtain ⟨v3, o3, g3⟩ := op_int Tryz.underlying3 f6
  exact ⟨⟨v0, v1, v2, v3⟩, CVs.cv ⟨o0, o1, o2, o3, trivial⟩, g0, g1, g2, g3⟩
def PdZone.G (x : PdZone) : Prop := x.name.size ≤ 9223372036854775807 ∧ (Lit.int .i64 x.area_X_Lo).wf = true ∧ (Lit.int .i64 x.area_X_Hi).wf = true ∧ (Lit.int .i64 x.area_Y_Lo).wf = true ∧ (Lit.int .i64 x.area_Y_Hi).wf = true ∧ (Lit.int .i64 x.grade).wf = true ∧ (Lit.int .i64 x.room).wf = true ∧ True
set_option maxRecDepth 100000 in
theorem open_PdZone {n : Nat} {cs : List Value} {y : DataW H × List MemPlace} (h : DataW.trod enc Tryz.prog W 0 (fun _ => true) true n 96 cs = some y) : ∃ a : PdZone, CV W cs (PdZone.d a) ∧ PdZone.G a := by
 have hl := (trodLen Tryz.underlying96 h).trans (by kernel_rfl : Tryz.prog.cellsOf 96 = 8)
 match cs, hl with
 | [c0, c1, c2, c3, c4, c5, c6, c7], _ =>
  obtain ⟨n1, y1, f1⟩ := trodAt Tryz.underlying96 h 0 _ rfl [c0] (by kernel_rfl)
  obtain ⟨v0, o0, g0⟩ := op_str Tryz.underlying9 f1
  obtain ⟨n2, y2, f2⟩ := trodAt Tryz.underlying96 h 1 _ rfl [c1, c2, c3, c4] (by kernel_rfl)
  obtain ⟨n3, y3, f3⟩ := trodAt Tryz.underlying93 f2 0 _ rfl [c1, c2] (by kernel_rfl)
  obtain ⟨n4, y4, f4⟩ := trodAt Tryz.underlying91 f3 0 _ rfl [c1] (by kernel_rfl)
  obtain ⟨v1, o1, g1⟩ := op_int Tryz.underlying3 f4
  obtain ⟨n5, y5, f5⟩ := trodAt Tryz.underlying91 f3 1 _ rfl [c2] (by kernel_rfl)
  obtain ⟨v2, o2, g2⟩ := op_int Tryz.underlying3 f5
  obtain ⟨n6, y6, f6⟩ := trodAt Tryz.underlying93 f2 1 _ rfl [c3, c4] (by kernel_rfl)
  obtain ⟨n7, y7, f7⟩ := trodAt Tryz.underlying91 f6 0 _ rfl [c3] (by kernel_rfl)
  obtain ⟨v3, o3, g3⟩ := op_int Tryz.underlying3 f7
  obtain ⟨n8, y8, f8⟩ := trodAt Tryz.underlying91 f6 1 _ rfl [c4] (by kernel_rfl)
  obtain ⟨v4, o4, g4⟩ := op_int Tryz.underlying3 f8
  obtain ⟨n9, y9, f9⟩ := trodAt Tryz.underlying96 h 2 _ rfl [c5] (by kernel_rfl)
  obtain ⟨v5, o5, g5⟩ := op_int Tryz.underlying3 f9
  obtain ⟨n10, y10, f10⟩ := trodAt Tryz.underlying96 h 3 _ rfl [c6] (by kernel_rfl)
  obtain ⟨v6, o6, g6⟩ := op_int Tryz.underlying3 f10
  obtain ⟨n11, y11, f11⟩ := trodAt Tryz.underlying96 h 4 _ rfl [c7] (by kernel_rfl)
  obtain ⟨v7, o7, g7⟩ := op_bool Tryz.underlying4 f11
  exact ⟨⟨v0, v1, v2, v3, v4, v5, v6, v7⟩, CVs.cv ⟨o0, o1, o2, o3, o4, o5, o6, o7, trivial⟩, g0, g1, g2, g3, g4, g5, g6, g7⟩
def PdDoor.G (x : PdDoor) : Prop := (Lit.int .i64 x.a).wf = true ∧ (Lit.int .i64 x.b).wf = true
set_option maxRecDepth 100000 in
theorem open_PdDoor {n : Nat} {cs : List Value} {y : DataW H × List MemPlace} (h : DataW.trod enc Tryz.prog W 0 (fun _ => true) true n 98 cs = some y) : ∃ a : PdDoor, CV W cs (PdDoor.d a) ∧ PdDoor.G a := by
 have hl := (trodLen Tryz.underlying98 h).trans (by kernel_rfl : Tryz.prog.cellsOf 98 = 2)
 match cs, hl with
 | [c0, c1], _ =>
  obtain ⟨n1, y1, f1⟩ := trodAt Tryz.underlying98 h 0 _ rfl [c0] (by kernel_rfl)
  obtain ⟨v0, o0, g0⟩ := op_int Tryz.underlying3 f1
  obtain ⟨n2, y2, f2⟩ := trodAt Tryz.underlying98 h 1 _ rfl [c1] (by kernel_rfl)
  obtain ⟨v1, o1, g1⟩ := op_int Tryz.underlying3 f2
  exact ⟨⟨v0, v1⟩, CVs.cv ⟨o0, o1, trivial⟩, g0, g1⟩
def PdPerson.G (x : PdPerson) : Prop := x.name.size ≤ 9223372036854775807 ∧ (Lit.int .i64 x.grade).wf = true
set_option maxRecDepth 100000 in
theorem open_PdPerson {n : Nat} {cs : List Value} {y : DataW H × List MemPlace} (h : DataW.trod enc Tryz.prog W 0 (fun _ => true) true n 100 cs = some y) : ∃ a : PdPerson, CV W cs (PdPerson.d a) ∧ PdPerson.G a := by
 have hl := (trodLen Tryz.underlying100 h).trans (by kernel_rfl : Tryz.prog.cellsOf 100 = 2)
 match cs, hl with
 | [c0, c1], _ =>
  obtain ⟨n1, y1, f1⟩ := trodAt Tryz.underlying100 h 0 _ rfl [c0] (by kernel_rfl)
  obtain ⟨v0, o0, g0⟩ := op_str Tryz.underlying9 f1
  obtain ⟨n2, y2, f2⟩ := trodAt Tryz.underlying100 h 1 _ rfl [c1] (by kernel_rfl)
  obtain ⟨v1, o1, g1⟩ := op_int Tryz.underlying3 f2
  exact ⟨⟨v0, v1⟩, CVs.cv ⟨o0, o1, trivial⟩, g0, g1⟩
def Place.G (x : Place) : Prop := (Lit.int .i64 x.x).wf = true ∧ (Lit.int .i64 x.y).wf = true
set_option maxRecDepth 100000 in
theorem open_Place {n : Nat} {cs : List Value} {y : DataW H × List MemPlace} (h : DataW.trod enc Tryz.prog W 0 (fun _ => true) true n 102 cs = some y) : ∃ a : Place, CV W cs (Place.d a) ∧ Place.G a := by
 have hl := (trodLen Tryz.underlying102 h).trans (by kernel_rfl : Tryz.prog.cellsOf 102 = 2)
 match cs, hl with
 | [c0, c1], _ =>
  obtain ⟨n1, y1, f1⟩ := trodAt Tryz.underlying102 h 0 _ rfl [c0] (by kernel_rfl)
  obtain ⟨v0, o0, g0⟩ := op_int Tryz.underlying3 f1
  obtain ⟨n2, y2, f2⟩ := trodAt Tryz.underlying102 h 1 _ rfl [c1] (by kernel_rfl)
  obtain ⟨v1, o1, g1⟩ := op_int Tryz.underlying3 f2
  exact ⟨⟨v0, v1⟩, CVs.cv ⟨o0, o1, trivial⟩, g0, g1⟩
def PdSquib.G (x : PdSquib) : Prop := x.name.size ≤ 9223372036854775807 ∧ (Lit.int .i64 x.at_X).wf = true ∧ (Lit.int .i64 x.at_Y).wf = true ∧ (Lit.int .i64 x.clear).wf = true ∧ (Lit.int .i64 x.grade).wf = true ∧ (x.keys.length ≤ 9223372036854775807 ∧ ∀ z ∈ x.keys, (Lit.int .i64 z).wf = true)
set_option maxRecDepth 100000 in
theorem open_PdSquib {n : Nat} {cs : List Value} {y : DataW H × List MemPlace} (h : DataW.trod enc Tryz.prog W 0 (fun _ => true) true n 104 cs = some y) : ∃ a : PdSquib, CV W cs (PdSquib.d a) ∧ PdSquib.G a := by
 have hl := (trodLen Tryz.underlying104 h).trans (by kernel_rfl : Tryz.prog.cellsOf 104 = 6)
 match cs, hl with
 | [c0, c1, c2, c3, c4, c5], _ =>
  obtain ⟨n1, y1, f1⟩ := trodAt Tryz.underlying104 h 0 _ rfl [c0] (by kernel_rfl)
  obtain ⟨v0, o0, g0⟩ := op_str Tryz.underlying9 f1
  obtain ⟨n2, y2, f2⟩ := trodAt Tryz.underlying104 h 1 _ rfl [c1, c2] (by kernel_rfl)
  obtain ⟨n3, y3, f3⟩ := trodAt Tryz.underlying102 f2 0 _ rfl [c1] (by kernel_rfl)
  obtain ⟨v1, o1, g1⟩ := op_int Tryz.underlying3 f3
  obtain ⟨n4, y4, f4⟩ := trodAt Tryz.underlying102 f2 1 _ rfl [c2] (by kernel_rfl)
  obtain ⟨v2, o2, g2⟩ := op_int Tryz.underlying3 f4
  obtain ⟨n5, y5, f5⟩ := trodAt Tryz.underlying104 h 2 _ rfl [c3] (by kernel_rfl)
  obtain ⟨v3, o3, g3⟩ := op_int Tryz.underlying3 f5
  obtain ⟨n6, y6, f6⟩ := trodAt Tryz.underlying104 h 3 _ rfl [c4] (by kernel_rfl)
  obtain ⟨v4, o4, g4⟩ := op_int Tryz.underlying3 f6
  obtain ⟨n7, y7, f7⟩ := trodAt Tryz.underlying104 h 4 _ rfl [c5] (by kernel_rfl)
  obtain ⟨v5, o5, g5⟩ := op_row (size := 1) vI (fun a => (Lit.int .i64 a).wf = true) Tryz.underlying29 (by kernel_rfl) (by decide) (fun _ => rfl) (fun _ _ _ h => op_int1 Tryz.underlying3 h) f7
  exact ⟨⟨v0, v1, v2, v3, v4, v5⟩, CVs.cv ⟨o0, o1, o2, o3, o4, o5, trivial⟩, g0, g1, g2, g3, g4, g5⟩
def PdPad.G (x : PdPad) : Prop := (x.zones.length ≤ 9223372036854775807 ∧ ∀ z ∈ x.zones, PdZone.G z) ∧ (x.doors.length ≤ 9223372036854775807 ∧ ∀ z ∈ x.doors, PdDoor.G z) ∧ (x.people.length ≤ 9223372036854775807 ∧ ∀ z ∈ x.people, PdPerson.G z) ∧ (x.keys.length ≤ 9223372036854775807 ∧ ∀ z ∈ x.keys, z.size ≤ 9223372036854775807) ∧ (x.squibs.length ≤ 9223372036854775807 ∧ ∀ z ∈ x.squibs, PdSquib.G z) ∧ (Lit.int .i64 x.panel).wf = true ∧ (Lit.int .i64 x.wait).wf = true
set_option maxRecDepth 100000 in
theorem open_PdPad {n : Nat} {cs : List Value} {y : DataW H × List MemPlace} (h : DataW.trod enc Tryz.prog W 0 (fun _ => true) true n 28 cs = some y) : ∃ a : PdPad, CV W cs (PdPad.d a) ∧ PdPad.G a := by
 have hl := (trodLen Tryz.underlying28 h).trans (by kernel_rfl : Tryz.prog.cellsOf 28 = 7)
 match cs, hl with
 | [c0, c1, c2, c3, c4, c5, c6], _ =>
  obtain ⟨n1, y1, f1⟩ := trodAt Tryz.underlying28 h 0 _ rfl [c0] (by kernel_rfl)
  obtain ⟨v0, o0, g0⟩ := op_row (size := 8) PdZone.d (fun a => PdZone.G a) Tryz.underlying22 (by kernel_rfl) (by decide) (fun _ => rfl) (fun _ _ _ h => open_PdZone h) f1
  obtain ⟨n2, y2, f2⟩ := trodAt Tryz.underlying28 h 1 _ rfl [c1] (by kernel_rfl)
  obtain ⟨v1, o1, g1⟩ := op_row (size := 2) PdDoor.d (fun a => PdDoor.G a) Tryz.underlying23 (by kernel_rfl) (by decide) (fun _ => rfl) (fun _ _ _ h => open_PdDoor h) f2
  obtain ⟨n3, y3, f3⟩ := trodAt Tryz.underlying28 h 2 _ rfl [c2] (by kernel_rfl)
  obtain ⟨v2, o2, g2⟩ := op_row (size := 2) PdPerson.d (fun a => PdPerson.G a) Tryz.underlying24 (by kernel_rfl) (by decide) (fun _ => rfl) (fun _ _ _ h => open_PdPerson h) f3
  obtain ⟨n4, y4, f4⟩ := trodAt Tryz.underlying28 h 3 _ rfl [c3] (by kernel_rfl)
  obtain ⟨v3, o3, g3⟩ := op_row (size := 1) vS (fun a => a.size ≤ 9223372036854775807) Tryz.underlying25 (by kernel_rfl) (by decide) (fun _ => rfl) (fun _ _ _ h => op_str1 Tryz.underlying9 h) f4
  obtain ⟨n5, y5, f5⟩ := trodAt Tryz.underlying28 h 4 _ rfl [c4] (by kernel_rfl)
  obtain ⟨v4, o4, g4⟩ := op_row (size := 6) PdSquib.d (fun a => PdSquib.G a) Tryz.underlying26 (by kernel_rfl) (by decide) (fun _ => rfl) (fun _ _ _ h => open_PdSquib h) f5
  obtain ⟨n6, y6, f6⟩ := trodAt Tryz.underlying28 h 5 _ rfl [c5] (by kernel_rfl)
  obtain ⟨v5, o5, g5⟩ := op_int Tryz.underlying3 f6
  obtain ⟨n7, y7, f7⟩ := trodAt Tryz.underlying28 h 6 _ rfl [c6] (by kernel_rfl)
  obtain ⟨v6, o6, g6⟩ := op_int Tryz.underlying3 f7
  exact ⟨⟨v0, v1, v2, v3, v4, v5, v6⟩, CVs.cv ⟨o0, o1, o2, o3, o4, o5, o6, trivial⟩, g0, g1, g2, g3, g4, g5, g6⟩
def PdState.G (x : PdState) : Prop := (Lit.int .i64 x.now).wf = true ∧ (x.zones.length ≤ 9223372036854775807 ∧ ∀ z ∈ x.zones, (Lit.int .i64 z).wf = true) ∧ (x.holder.length ≤ 9223372036854775807 ∧ ∀ z ∈ x.holder, (Lit.int .i64 z).wf = true) ∧ (x.squibs.length ≤ 9223372036854775807 ∧ ∀ z ∈ x.squibs, (Lit.int .i64 z).wf = true) ∧ (Lit.int .i64 x.siren).wf = true ∧ True
set_option maxRecDepth 100000 in
theorem open_PdState {n : Nat} {cs : List Value} {y : DataW H × List MemPlace} (h : DataW.trod enc Tryz.prog W 0 (fun _ => true) true n 31 cs = some y) : ∃ a : PdState, CV W cs (PdState.d a) ∧ PdState.G a := by
 have hl := (trodLen Tryz.underlying31 h).trans (by kernel_rfl : Tryz.prog.cellsOf 31 = 6)
 match cs, hl with
 | [c0, c1, c2, c3, c4, c5], _ =>
  obtain ⟨n1, y1, f1⟩ := trodAt Tryz.underlying31 h 0 _ rfl [c0] (by kernel_rfl)
  obtain ⟨v0, o0, g0⟩ := op_int Tryz.underlying3 f1
  obtain ⟨n2, y2, f2⟩ := trodAt Tryz.underlying31 h 1 _ rfl [c1] (by kernel_rfl)
  obtain ⟨v1, o1, g1⟩ := op_row (size := 1) vI (fun a => (Lit.int .i64 a).wf = true) Tryz.underlying29 (by kernel_rfl) (by decide) (fun _ => rfl) (fun _ _ _ h => op_int1 Tryz.underlying3 h) f2
  obtain ⟨n3, y3, f3⟩ := trodAt Tryz.underlying31 h 2 _ rfl [c2] (by kernel_rfl)
  obtain ⟨v2, o2, g2⟩ := op_row (size := 1) vI (fun a => (Lit.int .i64 a).wf = true) Tryz.underlying29 (by kernel_rfl) (by decide) (fun _ => rfl) (fun _ _ _ h => op_int1 Tryz.underlying3 h) f3
  obtain ⟨n4, y4, f4⟩ := trodAt Tryz.underlying31 h 3 _ rfl [c3] (by kernel_rfl)
  obtain ⟨v3, o3, g3⟩ := op_row (size := 1) vI (fun a => (Lit.int .i64 a).wf = true) Tryz.underlying29 (by kernel_rfl) (by decide) (fun _ => rfl) (fun _ _ _ h => op_int1 Tryz.underlying3 h) f4
  obtain ⟨n5, y5, f5⟩ := trodAt Tryz.underlying31 h 4 _ rfl [c4] (by kernel_rfl)
  obtain ⟨v4, o4, g4⟩ := op_int Tryz.underlying3 f5
  obtain ⟨n6, y6, f6⟩ := trodAt Tryz.underlying31 h 5 _ rfl [c5] (by kernel_rfl)
  obtain ⟨v5, o5, g5⟩ := op_bool Tryz.underlying4 f6
  exact ⟨⟨v0, v1, v2, v3, v4, v5⟩, CVs.cv ⟨o0, o1, o2, o3, o4, o5, trivial⟩, g0, g1, g2, g3, g4, g5⟩
def PdAct.G (x : PdAct) : Prop := (Lit.int .i64 x.at_).wf = true ∧ (Lit.int .i64 x.kind).wf = true ∧ (Lit.int .i64 x.who).wf = true ∧ (Lit.int .i64 x.what).wf = true ∧ (Lit.int .i64 x.with_).wf = true
set_option maxRecDepth 100000 in
theorem open_PdAct {n : Nat} {cs : List Value} {y : DataW H × List MemPlace} (h : DataW.trod enc Tryz.prog W 0 (fun _ => true) true n 42 cs = some y) : ∃ a : PdAct, CV W cs (PdAct.d a) ∧ PdAct.G a := by
 have hl := (trodLen Tryz.underlying42 h).trans (by kernel_rfl : Tryz.prog.cellsOf 42 = 5)
 match cs, hl with
 | [c0, c1, c2, c3, c4], _ =>
  obtain ⟨n1, y1, f1⟩ := trodAt Tryz.underlying42 h 0 _ rfl [c0] (by kernel_rfl)
  obtain ⟨v0, o0, g0⟩ := op_int Tryz.underlying3 f1
  obtain ⟨n2, y2, f2⟩ := trodAt Tryz.underlying42 h 1 _ rfl [c1] (by kernel_rfl)
  obtain ⟨v1, o1, g1⟩ := op_int Tryz.underlying3 f2
  obtain ⟨n3, y3, f3⟩ := trodAt Tryz.underlying42 h 2 _ rfl [c2] (by kernel_rfl)
  obtain ⟨v2, o2, g2⟩ := op_int Tryz.underlying3 f3
  obtain ⟨n4, y4, f4⟩ := trodAt Tryz.underlying42 h 3 _ rfl [c3] (by kernel_rfl)
  obtain ⟨v3, o3, g3⟩ := op_int Tryz.underlying3 f4
  obtain ⟨n5, y5, f5⟩ := trodAt Tryz.underlying42 h 4 _ rfl [c4] (by kernel_rfl)
  obtain ⟨v4, o4, g4⟩ := op_int Tryz.underlying3 f5
  exact ⟨⟨v0, v1, v2, v3, v4⟩, CVs.cv ⟨o0, o1, o2, o3, o4, trivial⟩, g0, g1, g2, g3, g4⟩
set_option maxRecDepth 100000 in
theorem openV_28 {w0 : Nat} {v : Value} {d : DataW H} {q : List MemPlace} (hval : Value.okWide Tryz.prog W .any w0 28 v) (h : DataW.Trod enc Tryz.prog W 0 (fun _ => true) true 28 v d q) : ∃ a : PdPad, VD (gW W) (PdPad.d a) v ∧ PdPad.G a := by
 obtain ⟨cs, rfl, n, x, hf⟩ := op_struct Tryz.underlying28 hval h
 obtain ⟨a, ha, g⟩ := open_PdPad hf
 exact ⟨a, CV.agg ha, g⟩
def PdState.Gw (x : PdState) : Prop := x.zones.length * 8 ≤ 140737488355328 ∧ x.holder.length * 8 ≤ 140737488355328 ∧ x.squibs.length * 8 ≤ 140737488355328
set_option maxRecDepth 100000 in
theorem openV_31 {w0 : Nat} {v : Value} {d : DataW H} {q : List MemPlace} (hval : Value.okWide Tryz.prog W .any w0 31 v) (h : DataW.Trod enc Tryz.prog W 0 (fun _ => true) true 31 v d q) : ∃ a : PdState, VD (gW W) (PdState.d a) v ∧ PdState.G a ∧ ((∀ m ∈ DataW.weights Tryz.prog 31 d, m ≤ reachBytes) → PdState.Gw a) := by
 obtain ⟨cs, rfl, n, hf⟩ := op_structW Tryz.underlying31 hval h
 obtain ⟨a, ha, g⟩ := open_PdState hf
 refine ⟨a, CV.agg ha, g, fun hw => ?_⟩
 obtain ⟨xs, k, _, hx, _, hlen, hg⟩ := DataW.trod_struct Tryz.underlying31 hf
 have hl := (trodLen Tryz.underlying31 hf).trans (by kernel_rfl : Tryz.prog.cellsOf 31 = 6)
 obtain ⟨cs⟩ := cs
 match cs, hl, xs, hlen with
 | [c0, c1, c2, c3, c4, c5], _, [y0, y1, y2, y3, y4, y5], _ =>
  injection hx with hx _
  exact ⟨(by have := row_weight (b := 8) (y := y1) Tryz.underlying29 (by kernel_rfl) (hg 1 _ rfl) (ha.2 1 _ _ rfl rfl) (fun m hm => hw m (by rw [hx]; simp [DataW.weights, DataW.weightsEach, Tryz.underlying31, hm])); rwa [List.length_map] at this), (by have := row_weight (b := 8) (y := y2) Tryz.underlying29 (by kernel_rfl) (hg 2 _ rfl) (ha.2 2 _ _ rfl rfl) (fun m hm => hw m (by rw [hx]; simp [DataW.weights, DataW.weightsEach, Tryz.underlying31, hm])); rwa [List.length_map] at this), (by have := row_weight (b := 8) (y := y3) Tryz.underlying29 (by kernel_rfl) (hg 3 _ rfl) (ha.2 3 _ _ rfl rfl) (fun m hm => hw m (by rw [hx]; simp [DataW.weights, DataW.weightsEach, Tryz.underlying31, hm])); rwa [List.length_map] at this)⟩
set_option maxRecDepth 100000 in
theorem openV_32 {w0 : Nat} {v : Value} {d : DataW H} {q : List MemPlace} (hval : Value.okWide Tryz.prog W .any w0 32 v) (h : DataW.Trod enc Tryz.prog W 0 (fun _ => true) true 32 v d q) : ∃ a : (List PdAct), VD (gW W) (.arr 5 ((a).map PdAct.d)) v ∧ (a.length ≤ 9223372036854775807 ∧ ∀ z ∈ a, PdAct.G z) := by
 obtain ⟨n, x, hf⟩ := opV_row Tryz.underlying32 hval h
 exact op_row (size := 5) PdAct.d (fun a => PdAct.G a) Tryz.underlying32 (by kernel_rfl) (by decide) (fun _ => rfl) (fun _ _ _ h => open_PdAct h) hf
end
theorem padF_of {p : PdPad} (g : p.G) : ∃ F0, ∀ F, F0 ≤ F → PadF F p :=
 padF_ex (by have := g.1.1; omega) (by have := g.2.1.1; omega) (by have := g.2.2.1.1; omega) (by have := g.2.2.2.1.1; omega) (by have := g.2.2.2.2.1.1; omega)
  (fun x hx => by have := (g.1.2 x hx).1; omega) (fun x hx => by have := (g.2.2.1.2 x hx).1; omega) (fun x hx => by have := g.2.2.2.1.2 x hx; omega) (fun x hx => by have := (g.2.2.2.2.1.2 x hx).1; omega) (fun x hx => by have := (g.2.2.2.2.1.2 x hx).2.2.2.2.2.1; omega)
theorem awake_ok : l_Awake 100 = some true := by kernel_rfl
namespace PadPlaysLaw
set_option linter.unusedVariables false
set_option linter.unusedSimpArgs false
theorem own : ownKnob Tryz.prog.godebug = none := by kernel_rfl
theorem laidOut : laidOutB Tryz.prog = true := by kernel_rfl
set_option maxRecDepth 100000 in
theorem lifted (os : Os) (started : os.Started) (H : Type) (enc : TypeId × Value → H) :
 ReturnsInHanded {} Tryz.checked os 3 .any (Rows.padPlaysSpec.pre6 enc Tryz.prog Tryz.f3 Rows.padPlaysRow.domain false) (Rows.padPlaysSpec.post enc Tryz.prog Tryz.f3 false true false false) := by
 refine returnsInHanded_of_change_sized (C := Tryz.checked) own started (by kernel_rfl) Tryz.func3
  (ChangeSpec.witness6 (enc := enc) (C := Tryz.checked) false ⟨#[], #[.agg #[.slice none 0 0, .slice none 0 0, .slice none 0 0, .slice none 0 0, .slice none 0 0, .int .i64 0, .int .i64 0], .agg #[.int .i64 0, .slice none 0 0, .slice none 0 0, .slice none 0 0, .int .i64 0, .bool false], .slice none 0 0], []⟩ 8 (by kernel_rfl) (by kernel_rfl) (by kernel_rfl) (by kernel_rfl)) ?_
 intro W base args ds gs before hval0 hW hcnd hsz0 _
 have hval : ∀ (j : Nat) t v, Tryz.f3.params[j]? = some t → args[j]? = some v → Value.okWide Tryz.prog W .any base t v := hval0
 have hW' := hW
 obtain ⟨p, q, hA0, hV, rfl, hfz, hnd⟩ := hW
 have hA : DataW.TrodAll enc Tryz.prog W 0 (fun _ => true) true Tryz.f3.params.toList args.toList ds p := hA0
 have hsz : (DataW.weightsEach Tryz.prog (Tryz.f3.params.toList ++ Rows.padPlaysSpec.plain.varTypes Tryz.prog) (ds ++ gs)).all (· ≤ reachBytes) = true := hsz0
 rw [Tryz.params3] at hA hval hsz
 obtain ⟨v0, vs0, d0, ds0, p0, q0, hargs, rfl, rfl, h0, r0⟩ := trodAll_cons hA
 obtain ⟨v1, vs1, d1, ds1, p1, q1, rfl, rfl, rfl, h1, r1⟩ := trodAll_cons r0
 obtain ⟨v2, vs2, d2, ds2, p2, q2, rfl, rfl, rfl, h2, r2⟩ := trodAll_cons r1
 obtain ⟨rfl, rfl, rfl⟩ := trodAll_nil r2
 obtain rfl : args = #[v0, v1, v2] := by cases args; simp_all
 obtain ⟨rfl, rfl⟩ := trodVars_none hV
 have k0 := h0
 have lt0 : ∀ x ∈ p0, x.block < W.heap.size := by obtain ⟨m, hm⟩ := k0; exact DataW.trod_lt m _ _ _ hm
 obtain ⟨a0, o0, g0⟩ := openV_28 (hval 0 28 v0 rfl rfl) h0
 have k1 := h1
 have lt1 : ∀ x ∈ p1, x.block < W.heap.size := by obtain ⟨m, hm⟩ := k1; exact DataW.trod_lt m _ _ _ hm
 obtain ⟨a1, o1, g1, gw1⟩ := openV_31 (hval 1 31 v1 rfl rfl) h1
 have gw1 := gw1 fun m hm => by have := List.all_eq_true.1 hsz m (DataW.weights_mem_each (j := 1) (t := 31) rfl rfl m hm); simpa using this
 have k2 := h2
 have lt2 : ∀ x ∈ p2, x.block < W.heap.size := by obtain ⟨m, hm⟩ := k2; exact DataW.trod_lt m _ _ _ hm
 obtain ⟨a2, o2, g2⟩ := openV_32 (hval 2 32 v2 rfl rfl) h2
 clear hA0 hval0 hsz0
 obtain ⟨F, hF⟩ := (by obtain ⟨F1, h1⟩ := padF_of g0; obtain ⟨F2, h2⟩ := stF_ex a1 gw1; exact ⟨F1 + F2, plays_any (h1 _ (by omega)) (h2 _ (by omega)) awake_ok⟩ : ∃ F, l_PadPlays F a0 a1 a2 = some true)
 have hw : Calls Tryz.prog 3 #[v0, v1, v2] W fun e w' => e = .returned (.bool true) ∧ Below W.heap.size W w' := PC.below (ds := [PdPad.d a0, PdState.d a1, .arr 5 ((a2).map PdAct.d)]) (vs := [v0, v1, v2]) (l_PadPlays_pc hF) rfl (CVs.at (ds := [PdPad.d a0, PdState.d a1, .arr 5 ((a2).map PdAct.d)]) (cs := [v0, v1, v2]) ⟨o0, o1, o2, trivial⟩).2
 refine hw.mono fun e W' ⟨he, bel⟩ => ?_
 subst he
 exact ⟨_, rfl, _, _, _, [], _, [], hW', trodAll_mk1 (shut_bool Tryz.underlying4 _), (trodAll_cons_mk (Below.trod laidOut (by kernel_rfl) (of_decide_eq_true (by kernel_rfl)) k0 bel lt0) (trodAll_cons_mk (Below.trod laidOut (by kernel_rfl) (of_decide_eq_true (by kernel_rfl)) k1 bel lt1) (trodAll_cons_mk (Below.trod laidOut (by kernel_rfl) (of_decide_eq_true (by kernel_rfl)) k2 bel lt2) trodAll_mk0))), rfl, bel.frame _, fun h => by cases h⟩
theorem over : Rows.padPlaysRow.holds Tryz.pinned (OpenSpec.ofChange Rows.padPlaysSpec) :=
 OpenClaim.holds_of_wide 3 Tryz.f3 rfl rfl rfl rfl rfl rfl rfl ⟨rfl, rfl, rfl, rfl, rfl⟩ rfl rfl rfl rfl rfl (by kernel_rfl) Tryz.func3 (by kernel_rfl)
  (of_decide_eq_true (by kernel_rfl)) (by unfold Func.isWrapper; first | (rw [if_pos (by decide +kernel)]; kernel_rfl) | (rw [if_neg (by decide +kernel)]; exact ⟨rfl, rfl⟩))
  (fun os started H enc _ => lifted os started H enc)
end PadPlaysLaw
theorem plays_holds : Rows.PadPlaysSaid := PadPlaysLaw.over
end Go.Proofs.YthcnganbnbhhoaaGreat
