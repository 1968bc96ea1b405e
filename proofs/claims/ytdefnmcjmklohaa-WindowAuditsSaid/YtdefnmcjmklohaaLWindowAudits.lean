/-
  Proves that the law function WindowAudits returns true whatever it is given, and that what it is given reads behind the call as it read before: 'WindowAuditsSaid'. No conditions.
-/
import Derived.Test.YtdefnmcjmklohaaRows
import Derived.Test.YtdefnmcjmklohaaPAudits
import Derived.SizedLaws
namespace Go.Proofs.Ytdefnmcjmklohaa
set_option linter.unusedVariables false
set_option linter.unusedSimpArgs false
open Go Go.Proofs Go.Proofs.Ytdefnmcjmklohaa.Sh Go.ChangeShapes Go.WideShapes Go.ChangeAt Go.RowKit
section
variable {H : Type} {enc : TypeId × Value → H} {W : World}
def Span.G (x : Span) : Prop := (Lit.int .i64 x.lo).wf = true ∧ (Lit.int .i64 x.hi).wf = true
set_option maxRecDepth 100000 in
theorem open_Span {n : Nat} {cs : List Value} {y : DataW H × List MemPlace} (h : DataW.trod enc Try.prog W 0 (fun _ => true) true n 90 cs = some y) : ∃ a : Span, CV W cs (Span.d a) ∧ Span.G a := by
 have hl := (trodLen Try.underlying90 h).trans (by kernel_rfl : Try.prog.cellsOf 90 = 2)
 match cs, hl with
 | [c0, c1], _ =>
  obtain ⟨n1, y1, f1⟩ := trodAt Try.underlying90 h 0 _ rfl [c0] (by kernel_rfl)
  obtain ⟨v0, o0, g0⟩ := op_int Try.underlying3 f1
  obtain ⟨n2, y2, f2⟩ := trodAt Try.underlying90 h 1 _ rfl [c1] (by kernel_rfl)
  obtain ⟨v1, o1, g1⟩ := op_int Try.underlying3 f2
  exact ⟨⟨v0, v1⟩, CVs.cv ⟨o0, o1, trivial⟩, g0, g1⟩
def WiTeam.G (x : WiTeam) : Prop := x.name.size ≤ 9223372036854775807 ∧ (Lit.int .i64 x.priority).wf = true ∧ (Lit.int .i64 x.need).wf = true ∧ (Lit.int .i64 x.credit).wf = true ∧ (x.kinds.length ≤ 9223372036854775807 ∧ ∀ z ∈ x.kinds, (Lit.int .i64 z).wf = true) ∧ (Lit.int .i64 x.wind).wf = true ∧ (Lit.int .i64 x.rest).wf = true ∧ (Lit.int .i64 x.setup).wf = true ∧ (x.away.length ≤ 9223372036854775807 ∧ ∀ z ∈ x.away, Span.G z)
set_option maxRecDepth 100000 in
theorem open_WiTeam {n : Nat} {cs : List Value} {y : DataW H × List MemPlace} (h : DataW.trod enc Try.prog W 0 (fun _ => true) true n 51 cs = some y) : ∃ a : WiTeam, CV W cs (WiTeam.d a) ∧ WiTeam.G a := by
 have hl := (trodLen Try.underlying51 h).trans (by kernel_rfl : Try.prog.cellsOf 51 = 9)
 match cs, hl with
 | [c0, c1, c2, c3, c4, c5, c6, c7, c8], _ =>
  obtain ⟨n1, y1, f1⟩ := trodAt Try.underlying51 h 0 _ rfl [c0] (by kernel_rfl)
  obtain ⟨v0, o0, g0⟩ := op_str Try.underlying9 f1
  obtain ⟨n2, y2, f2⟩ := trodAt Try.underlying51 h 1 _ rfl [c1] (by kernel_rfl)
  obtain ⟨v1, o1, g1⟩ := op_int Try.underlying3 f2
  obtain ⟨n3, y3, f3⟩ := trodAt Try.underlying51 h 2 _ rfl [c2] (by kernel_rfl)
  obtain ⟨v2, o2, g2⟩ := op_int Try.underlying3 f3
  obtain ⟨n4, y4, f4⟩ := trodAt Try.underlying51 h 3 _ rfl [c3] (by kernel_rfl)
  obtain ⟨v3, o3, g3⟩ := op_int Try.underlying3 f4
  obtain ⟨n5, y5, f5⟩ := trodAt Try.underlying51 h 4 _ rfl [c4] (by kernel_rfl)
  obtain ⟨v4, o4, g4⟩ := op_row (size := 1) vI (fun a => (Lit.int .i64 a).wf = true) Try.underlying26 (by kernel_rfl) (by decide) (fun _ => rfl) (fun _ _ _ h => op_int1 Try.underlying3 h) f5
  obtain ⟨n6, y6, f6⟩ := trodAt Try.underlying51 h 5 _ rfl [c5] (by kernel_rfl)
  obtain ⟨v5, o5, g5⟩ := op_int Try.underlying3 f6
  obtain ⟨n7, y7, f7⟩ := trodAt Try.underlying51 h 6 _ rfl [c6] (by kernel_rfl)
  obtain ⟨v6, o6, g6⟩ := op_int Try.underlying3 f7
  obtain ⟨n8, y8, f8⟩ := trodAt Try.underlying51 h 7 _ rfl [c7] (by kernel_rfl)
  obtain ⟨v7, o7, g7⟩ := op_int Try.underlying3 f8
  obtain ⟨n9, y9, f9⟩ := trodAt Try.underlying51 h 8 _ rfl [c8] (by kernel_rfl)
  obtain ⟨v8, o8, g8⟩ := op_row (size := 2) Span.d (fun a => Span.G a) Try.underlying49 (by kernel_rfl) (by decide) (fun _ => rfl) (fun _ _ _ h => open_Span h) f9
  exact ⟨⟨v0, v1, v2, v3, v4, v5, v6, v7, v8⟩, CVs.cv ⟨o0, o1, o2, o3, o4, o5, o6, o7, o8, trivial⟩, g0, g1, g2, g3, g4, g5, g6, g7, g8⟩
def WiWindow.G (x : WiWindow) : Prop := (Lit.int .i64 x.day).wf = true ∧ (Lit.int .i64 x.from_).wf = true ∧ (Lit.int .i64 x.until_).wf = true
set_option maxRecDepth 100000 in
theorem open_WiWindow {n : Nat} {cs : List Value} {y : DataW H × List MemPlace} (h : DataW.trod enc Try.prog W 0 (fun _ => true) true n 54 cs = some y) : ∃ a : WiWindow, CV W cs (WiWindow.d a) ∧ WiWindow.G a := by
 have hl := (trodLen Try.underlying54 h).trans (by kernel_rfl : Try.prog.cellsOf 54 = 3)
 match cs, hl with
 | [c0, c1, c2], _ =>
  obtain ⟨n1, y1, f1⟩ := trodAt Try.underlying54 h 0 _ rfl [c0] (by kernel_rfl)
  obtain ⟨v0, o0, g0⟩ := op_int Try.underlying3 f1
  obtain ⟨n2, y2, f2⟩ := trodAt Try.underlying54 h 1 _ rfl [c1] (by kernel_rfl)
  obtain ⟨v1, o1, g1⟩ := op_int Try.underlying3 f2
  obtain ⟨n3, y3, f3⟩ := trodAt Try.underlying54 h 2 _ rfl [c2] (by kernel_rfl)
  obtain ⟨v2, o2, g2⟩ := op_int Try.underlying3 f3
  exact ⟨⟨v0, v1, v2⟩, CVs.cv ⟨o0, o1, o2, trivial⟩, g0, g1, g2⟩
def WiPlan.G (x : WiPlan) : Prop := (x.teams.length ≤ 9223372036854775807 ∧ ∀ z ∈ x.teams, WiTeam.G z) ∧ (x.windows.length ≤ 9223372036854775807 ∧ ∀ z ∈ x.windows, WiWindow.G z) ∧ (Lit.int .i64 x.cost).wf = true ∧ (Lit.int .i64 x.gift).wf = true
set_option maxRecDepth 100000 in
theorem open_WiPlan {n : Nat} {cs : List Value} {y : DataW H × List MemPlace} (h : DataW.trod enc Try.prog W 0 (fun _ => true) true n 25 cs = some y) : ∃ a : WiPlan, CV W cs (WiPlan.d a) ∧ WiPlan.G a := by
 have hl := (trodLen Try.underlying25 h).trans (by kernel_rfl : Try.prog.cellsOf 25 = 4)
 match cs, hl with
 | [c0, c1, c2, c3], _ =>
  obtain ⟨n1, y1, f1⟩ := trodAt Try.underlying25 h 0 _ rfl [c0] (by kernel_rfl)
  obtain ⟨v0, o0, g0⟩ := op_row (size := 9) WiTeam.d (fun a => WiTeam.G a) Try.underlying22 (by kernel_rfl) (by decide) (fun _ => rfl) (fun _ _ _ h => open_WiTeam h) f1
  obtain ⟨n2, y2, f2⟩ := trodAt Try.underlying25 h 1 _ rfl [c1] (by kernel_rfl)
  obtain ⟨v1, o1, g1⟩ := op_row (size := 3) WiWindow.d (fun a => WiWindow.G a) Try.underlying23 (by kernel_rfl) (by decide) (fun _ => rfl) (fun _ _ _ h => open_WiWindow h) f2
  obtain ⟨n3, y3, f3⟩ := trodAt Try.underlying25 h 2 _ rfl [c2] (by kernel_rfl)
  obtain ⟨v2, o2, g2⟩ := op_int Try.underlying3 f3
  obtain ⟨n4, y4, f4⟩ := trodAt Try.underlying25 h 3 _ rfl [c3] (by kernel_rfl)
  obtain ⟨v3, o3, g3⟩ := op_int Try.underlying3 f4
  exact ⟨⟨v0, v1, v2, v3⟩, CVs.cv ⟨o0, o1, o2, o3, trivial⟩, g0, g1, g2, g3⟩
def WiSky.G (x : WiSky) : Prop := (x.kinds.length ≤ 9223372036854775807 ∧ ∀ z ∈ x.kinds, (Lit.int .i64 z).wf = true) ∧ (Lit.int .i64 x.wind).wf = true
set_option maxRecDepth 100000 in
theorem open_WiSky {n : Nat} {cs : List Value} {y : DataW H × List MemPlace} (h : DataW.trod enc Try.prog W 0 (fun _ => true) true n 39 cs = some y) : ∃ a : WiSky, CV W cs (WiSky.d a) ∧ WiSky.G a := by
 have hl := (trodLen Try.underlying39 h).trans (by kernel_rfl : Try.prog.cellsOf 39 = 2)
 match cs, hl with
 | [c0, c1], _ =>
  obtain ⟨n1, y1, f1⟩ := trodAt Try.underlying39 h 0 _ rfl [c0] (by kernel_rfl)
  obtain ⟨v0, o0, g0⟩ := op_row (size := 1) vI (fun a => (Lit.int .i64 a).wf = true) Try.underlying26 (by kernel_rfl) (by decide) (fun _ => rfl) (fun _ _ _ h => op_int1 Try.underlying3 h) f1
  obtain ⟨n2, y2, f2⟩ := trodAt Try.underlying39 h 1 _ rfl [c1] (by kernel_rfl)
  obtain ⟨v1, o1, g1⟩ := op_int Try.underlying3 f2
  exact ⟨⟨v0, v1⟩, CVs.cv ⟨o0, o1, trivial⟩, g0, g1⟩
def WiTurn.G (x : WiTurn) : Prop := (Lit.int .i64 x.what).wf = true ∧ (Lit.int .i64 x.at_).wf = true ∧ (Lit.int .i64 x.to_).wf = true
set_option maxRecDepth 100000 in
theorem open_WiTurn {n : Nat} {cs : List Value} {y : DataW H × List MemPlace} (h : DataW.trod enc Try.prog W 0 (fun _ => true) true n 56 cs = some y) : ∃ a : WiTurn, CV W cs (WiTurn.d a) ∧ WiTurn.G a := by
 have hl := (trodLen Try.underlying56 h).trans (by kernel_rfl : Try.prog.cellsOf 56 = 3)
 match cs, hl with
 | [c0, c1, c2], _ =>
  obtain ⟨n1, y1, f1⟩ := trodAt Try.underlying56 h 0 _ rfl [c0] (by kernel_rfl)
  obtain ⟨v0, o0, g0⟩ := op_int Try.underlying3 f1
  obtain ⟨n2, y2, f2⟩ := trodAt Try.underlying56 h 1 _ rfl [c1] (by kernel_rfl)
  obtain ⟨v1, o1, g1⟩ := op_int Try.underlying3 f2
  obtain ⟨n3, y3, f3⟩ := trodAt Try.underlying56 h 2 _ rfl [c2] (by kernel_rfl)
  obtain ⟨v2, o2, g2⟩ := op_int Try.underlying3 f3
  exact ⟨⟨v0, v1, v2⟩, CVs.cv ⟨o0, o1, o2, trivial⟩, g0, g1, g2⟩
def WiNight.G (x : WiNight) : Prop := (x.sky_Kinds.length ≤ 9223372036854775807 ∧ ∀ z ∈ x.sky_Kinds, (Lit.int .i64 z).wf = true) ∧ (Lit.int .i64 x.sky_Wind).wf = true ∧ (x.turns.length ≤ 9223372036854775807 ∧ ∀ z ∈ x.turns, WiTurn.G z)
set_option maxRecDepth 100000 in
theorem open_WiNight {n : Nat} {cs : List Value} {y : DataW H × List MemPlace} (h : DataW.trod enc Try.prog W 0 (fun _ => true) true n 42 cs = some y) : ∃ a : WiNight, CV W cs (WiNight.d a) ∧ WiNight.G a := by
 have hl := (trodLen Try.underlying42 h).trans (by kernel_rfl : Try.prog.cellsOf 42 = 3)
 match cs, hl with
 | [c0, c1, c2], _ =>
  obtain ⟨n1, y1, f1⟩ := trodAt Try.underlying42 h 0 _ rfl [c0, c1] (by kernel_rfl)
  obtain ⟨n2, y2, f2⟩ := trodAt Try.underlying39 f1 0 _ rfl [c0] (by kernel_rfl)
  obtain ⟨v0, o0, g0⟩ := op_row (size := 1) vI (fun a => (Lit.int .i64 a).wf = true) Try.underlying26 (by kernel_rfl) (by decide) (fun _ => rfl) (fun _ _ _ h => op_int1 Try.underlying3 h) f2
  obtain ⟨n3, y3, f3⟩ := trodAt Try.underlying39 f1 1 _ rfl [c1] (by kernel_rfl)
  obtain ⟨v1, o1, g1⟩ := op_int Try.underlying3 f3
  obtain ⟨n4, y4, f4⟩ := trodAt Try.underlying42 h 1 _ rfl [c2] (by kernel_rfl)
  obtain ⟨v2, o2, g2⟩ := op_row (size := 3) WiTurn.d (fun a => WiTurn.G a) Try.underlying40 (by kernel_rfl) (by decide) (fun _ => rfl) (fun _ _ _ h => open_WiTurn h) f4
  exact ⟨⟨v0, v1, v2⟩, CVs.cv ⟨o0, o1, o2, trivial⟩, g0, g1, g2⟩
set_option maxRecDepth 100000 in
theorem openV_25 {w0 : Nat} {v : Value} {d : DataW H} {q : List MemPlace} (hval : Value.okWide Try.prog W .any w0 25 v) (h : DataW.Trod enc Try.prog W 0 (fun _ => true) true 25 v d q) : ∃ a : WiPlan, VD (gW W) (WiPlan.d a) v ∧ WiPlan.G a := by
 obtain ⟨cs, rfl, n, x, hf⟩ := op_struct Try.underlying25 hval h
 obtain ⟨a, ha, g⟩ := open_WiPlan hf
 exact ⟨a, CV.agg ha, g⟩
set_option maxRecDepth 100000 in
theorem openV_52 {w0 : Nat} {v : Value} {d : DataW H} {q : List MemPlace} (hval : Value.okWide Try.prog W .any w0 52 v) (h : DataW.Trod enc Try.prog W 0 (fun _ => true) true 52 v d q) : ∃ a : (List WiNight), VD (gW W) (.arr 3 ((a).map WiNight.d)) v ∧ (a.length ≤ 9223372036854775807 ∧ ∀ z ∈ a, WiNight.G z) := by
 obtain ⟨n, x, hf⟩ := opV_row Try.underlying52 hval h
 exact op_row (size := 3) WiNight.d (fun a => WiNight.G a) Try.underlying52 (by kernel_rfl) (by decide) (fun _ => rfl) (fun _ _ _ h => open_WiNight h) hf
def Arr3Int.G (x : Arr3Int) : Prop := (Lit.int .u8 x.c0).wf = true ∧ (Lit.int .u8 x.c1).wf = true ∧ (Lit.int .u8 x.c2).wf = true
set_option maxRecDepth 100000 in
theorem openV_77 {w0 : Nat} {v : Value} {d : DataW H} {q : List MemPlace} (hval : Value.okWide Try.prog W .any w0 77 v) (h : DataW.Trod enc Try.prog W 0 (fun _ => true) true 77 v d q) : ∃ a : Arr3Int, VD (gW W) (Arr3Int.d a) v ∧ Arr3Int.G a := by
 have hv := hval
 simp only [Value.okWide, Try.underlying77] at hv
 obtain ⟨cs, rfl, hsz, _⟩ := hv
 obtain ⟨fuel, hf⟩ := h
 obtain ⟨cs⟩ := cs
 have hl : cs.length = 3 := hsz.trans (by kernel_rfl)
 match cs, hl with
 | [c0, c1, c2], _ =>
  obtain ⟨xs, n, _, _, _, hlen, hg⟩ := DataW.trod_array Try.underlying77 hf
  match xs, hlen with
  | [y0, y1, y2], _ =>
   obtain ⟨v0, o0, g0⟩ := op_int (P := Try.prog) (enc := enc) (W := W) (n := n) (c := c0) (y := y0) Try.underlying5 (hg 0 (by omega))
   obtain ⟨v1, o1, g1⟩ := op_int (P := Try.prog) (enc := enc) (W := W) (n := n) (c := c1) (y := y1) Try.underlying5 (hg 1 (by omega))
   obtain ⟨v2, o2, g2⟩ := op_int (P := Try.prog) (enc := enc) (W := W) (n := n) (c := c2) (y := y2) Try.underlying5 (hg 2 (by omega))
   exact ⟨⟨v0, v1, v2⟩, CV.agg (CVs.cv ⟨o0, o1, o2, trivial⟩), g0, g1, g2⟩
end
theorem planF_of {p : WiPlan} (g : p.G) : ∃ F0, ∀ F, F0 ≤ F → PlanF F p :=
 planF_ex (by have := g.1.1; omega) (by have := g.2.1.1; omega) fun e he => by
  have h := g.1.2 e he
  have h1 := h.1
  have h2 := h.2.2.2.2.1.1
  have h3 := h.2.2.2.2.2.2.2.2.1
  exact ⟨by omega, by omega, by omega⟩
theorem u8_wf {a : Int} (h : (Lit.int .u8 a).wf = true) : 0 ≤ a ∧ a ≤ 255 := by
 have h' : (decide (IntKind.u8.min ≤ a) && decide (a ≤ IntKind.u8.max)) = true := h
 rw [Bool.and_eq_true, decide_eq_true_iff, decide_eq_true_iff] at h'
 exact h'
theorem awake_ok : l_Awake 100 = some true := by kernel_rfl
namespace WindowAuditsLaw
theorem own : ownKnob Try.prog.godebug = none := by kernel_rfl
theorem laidOut : laidOutB Try.prog = true := by kernel_rfl
set_option maxRecDepth 100000 in
theorem lifted (os : Os) (started : os.Started) (H : Type) (enc : TypeId × Value → H) :
 ReturnsInHanded {} Try.checked os 12 .any (Rows.windowAuditsSpec.pre6 enc Try.prog Try.f12 Rows.windowAuditsRow.domain false) (Rows.windowAuditsSpec.post enc Try.prog Try.f12 false true false false) := by
 refine returnsInHanded_of_change_sized (C := Try.checked) own started (by kernel_rfl) Try.func12
  (ChangeSpec.witness6 (enc := enc) (C := Try.checked) false ⟨#[], #[.agg #[.slice none 0 0, .slice none 0 0, .int .i64 0, .int .i64 0], .slice none 0 0, .agg #[.int .u8 0, .int .u8 0, .int .u8 0]], []⟩ 8 (by kernel_rfl) (by kernel_rfl) (by kernel_rfl) (by kernel_rfl)) ?_
 intro W base args ds gs before hval0 hW hcnd hsz0 _
 have hval : ∀ (j : Nat) t v, Try.f12.params[j]? = some t → args[j]? = some v → Value.okWide Try.prog W .any base t v := hval0
 have hW' := hW
 obtain ⟨p, q, hA0, hV, rfl, hfz, hnd⟩ := hW
 have hA : DataW.TrodAll enc Try.prog W 0 (fun _ => true) true Try.f12.params.toList args.toList ds p := hA0
 rw [Try.params12] at hA hval
 obtain ⟨v0, vs0, d0, ds0, p0, q0, hargs, rfl, rfl, h0, r0⟩ := trodAll_cons hA
 obtain ⟨v1, vs1, d1, ds1, p1, q1, rfl, rfl, rfl, h1, r1⟩ := trodAll_cons r0
 obtain ⟨v2, vs2, d2, ds2, p2, q2, rfl, rfl, rfl, h2, r2⟩ := trodAll_cons r1
 obtain ⟨rfl, rfl, rfl⟩ := trodAll_nil r2
 obtain rfl : args = #[v0, v1, v2] := by cases args; simp_all
 obtain ⟨rfl, rfl⟩ := trodVars_none hV
 have k0 := h0
 have lt0 : ∀ x ∈ p0, x.block < W.heap.size := by obtain ⟨m, hm⟩ := k0; exact DataW.trod_lt m _ _ _ hm
 obtain ⟨a0, o0, g0⟩ := openV_25 (hval 0 25 v0 rfl rfl) h0
 have k1 := h1
 have lt1 : ∀ x ∈ p1, x.block < W.heap.size := by obtain ⟨m, hm⟩ := k1; exact DataW.trod_lt m _ _ _ hm
 obtain ⟨a1, o1, g1⟩ := openV_52 (hval 1 52 v1 rfl rfl) h1
 have k2 := h2
 have lt2 : ∀ x ∈ p2, x.block < W.heap.size := by obtain ⟨m, hm⟩ := k2; exact DataW.trod_lt m _ _ _ hm
 obtain ⟨a2, o2, g2⟩ := openV_77 (hval 2 77 v2 rfl rfl) h2
 clear hA0 hval0 hsz0
 obtain ⟨F, hF⟩ := (by obtain ⟨F1, h1⟩ := planF_of g0; obtain ⟨F2, h2⟩ := nightsF_ex (l := a1) (by have := g1.1; omega) (fun x hx => by have := (g1.2 x hx).1.1; omega); exact ⟨F1 + F2 + a1.length + 11, audits_any (h1 _ (by omega)) (h2 _ (by omega)) (u8_wf g2.1) (u8_wf g2.2.1) (u8_wf g2.2.2) (by omega) awake_ok⟩ : ∃ F, l_WindowAudits F a0 a1 a2 = some true)
 have hw : Calls Try.prog 12 #[v0, v1, v2] W fun e w' => e = .returned (.bool true) ∧ Below W.heap.size W w' := PC.below (ds := [WiPlan.d a0, .arr 3 ((a1).map WiNight.d), Arr3Int.d a2]) (vs := [v0, v1, v2]) (l_WindowAudits_pc hF) rfl (CVs.at (ds := [WiPlan.d a0, .arr 3 ((a1).map WiNight.d), Arr3Int.d a2]) (cs := [v0, v1, v2]) ⟨o0, o1, o2, trivial⟩).2
 refine hw.mono fun e W' ⟨he, bel⟩ => ?_
 subst he
 exact ⟨_, rfl, _, _, _, [], _, [], hW', trodAll_mk1 (shut_bool Try.underlying4 _), (trodAll_cons_mk (Below.trod laidOut (by kernel_rfl) (of_decide_eq_true (by kernel_rfl)) k0 bel lt0) (trodAll_cons_mk (Below.trod laidOut (by kernel_rfl) (of_decide_eq_true (by kernel_rfl)) k1 bel lt1) (trodAll_cons_mk (Below.trod laidOut (by kernel_rfl) (of_decide_eq_true (by kernel_rfl)) k2 bel lt2) trodAll_mk0))), rfl, bel.frame _, fun h => by cases h⟩
theorem over : Rows.windowAuditsRow.holds Try.pinned (OpenSpec.ofChange Rows.windowAuditsSpec) :=
 OpenClaim.holds_of_wide 12 Try.f12 rfl rfl rfl rfl rfl rfl rfl ⟨rfl, rfl, rfl, rfl, rfl⟩ rfl rfl rfl rfl rfl (by kernel_rfl) Try.func12 (by kernel_rfl)
  (of_decide_eq_true (by kernel_rfl)) (by unfold Func.isWrapper; first | (rw [if_pos (by decide +kernel)]; kernel_rfl) | (rw [if_neg (by decide +kernel)]; exact ⟨rfl, rfl⟩))
  (fun os started H enc _ => lifted os started H enc)
end WindowAuditsLaw
/-- The statement. -/
theorem audits_holds : Rows.WindowAuditsSaid := WindowAuditsLaw.over
end Go.Proofs.Ytdefnmcjmklohaa
