/-
  Proves that the law function FrameAxis returns true whatever it is given, and that what it is given reads behind the call as it read before: 'FrameAxisSaid'. No conditions.
-/
import Derived.Test.YtjnnkcnnandeeaaRows
import Derived.Test.YtjnnkcnnandeeaaFX1
import Derived.SizedLaws
set_option linter.unusedVariables false
set_option linter.unusedSimpArgs false
namespace Go.Proofs.Ytjnnkcnnandeeaa
open Go Go.Proofs Go.Proofs.Ytjnnkcnnandeeaa.Sh Go.ChangeShapes Go.WideShapes Go.ChangeAt Go.RowKit
section
variable {H : Type} {enc : TypeId × Value → H} {W : World}
def FrChannel.G (x : FrChannel) : Prop := x.name.size ≤ 9223372036854775807 ∧ (Lit.int .i64 x.word).wf = true ∧ (Lit.int .i64 x.every).wf = true ∧ (Lit.int .i64 x.phase).wf = true
set_option maxRecDepth 100000 in
theorem open_FrChannel {n : Nat} {cs : List Value} {y : DataW H × List MemPlace} (h : DataW.trod enc Try.prog W 0 (fun _ => true) true n 83 cs = some y) : ∃ a : FrChannel, CV W cs (FrChannel.d a) ∧ FrChannel.G a := by
 have hl := (trodLen Try.underlying83 h).trans (by kernel_rfl : Try.prog.cellsOf 83 = 4)
 match cs, hl with
 | [c0, c1, c2, c3], _ =>
  obtain ⟨n1, y1, f1⟩ := trodAt Try.underlying83 h 0 _ rfl [c0] (by kernel_rfl)
  obtain ⟨v0, o0, g0⟩ := op_str Try.underlying9 f1
  obtain ⟨n2, y2, f2⟩ := trodAt Try.underlying83 h 1 _ rfl [c1] (by kernel_rfl)
  obtain ⟨v1, o1, g1⟩ := op_int Try.underlying3 f2
  obtain ⟨n3, y3, f3⟩ := trodAt Try.underlying83 h 2 _ rfl [c2] (by kernel_rfl)
  obtain ⟨v2, o2, g2⟩ := op_int Try.underlying3 f3
  obtain ⟨n4, y4, f4⟩ := trodAt Try.underlying83 h 3 _ rfl [c3] (by kernel_rfl)
  obtain ⟨v3, o3, g3⟩ := op_int Try.underlying3 f4
  exact ⟨⟨v0, v1, v2, v3⟩, CVs.cv ⟨o0, o1, o2, o3, trivial⟩, g0, g1, g2, g3⟩
def FrFormat.G (x : FrFormat) : Prop := x.sync.size ≤ 9223372036854775807 ∧ (Lit.int .i64 x.words).wf = true ∧ (Lit.int .i64 x.depth).wf = true ∧ (x.channels.length ≤ 9223372036854775807 ∧ ∀ z ∈ x.channels, FrChannel.G z)
set_option maxRecDepth 100000 in
theorem open_FrFormat {n : Nat} {cs : List Value} {y : DataW H × List MemPlace} (h : DataW.trod enc Try.prog W 0 (fun _ => true) true n 28 cs = some y) : ∃ a : FrFormat, CV W cs (FrFormat.d a) ∧ FrFormat.G a := by
 have hl := (trodLen Try.underlying28 h).trans (by kernel_rfl : Try.prog.cellsOf 28 = 4)
 match cs, hl with
 | [c0, c1, c2, c3], _ =>
  obtain ⟨n1, y1, f1⟩ := trodAt Try.underlying28 h 0 _ rfl [c0] (by kernel_rfl)
  obtain ⟨v0, o0, g0⟩ := op_str Try.underlying9 f1
  obtain ⟨n2, y2, f2⟩ := trodAt Try.underlying28 h 1 _ rfl [c1] (by kernel_rfl)
  obtain ⟨v1, o1, g1⟩ := op_int Try.underlying3 f2
  obtain ⟨n3, y3, f3⟩ := trodAt Try.underlying28 h 2 _ rfl [c2] (by kernel_rfl)
  obtain ⟨v2, o2, g2⟩ := op_int Try.underlying3 f3
  obtain ⟨n4, y4, f4⟩ := trodAt Try.underlying28 h 3 _ rfl [c3] (by kernel_rfl)
  obtain ⟨v3, o3, g3⟩ := op_row (size := 4) FrChannel.d (fun a => FrChannel.G a) Try.underlying26 (by kernel_rfl) (by decide) (fun _ => rfl) (fun _ _ _ h => open_FrChannel h) f4
  exact ⟨⟨v0, v1, v2, v3⟩, CVs.cv ⟨o0, o1, o2, o3, trivial⟩, g0, g1, g2, g3⟩
def FlDir.G (x : FlDir) : Prop := (Lit.int .i64 x.x).wf = true ∧ (Lit.int .i64 x.y).wf = true ∧ (Lit.int .i64 x.z).wf = true
set_option maxRecDepth 100000 in
theorem open_FlDir {n : Nat} {cs : List Value} {y : DataW H × List MemPlace} (h : DataW.trod enc Try.prog W 0 (fun _ => true) true n 94 cs = some y) : ∃ a : FlDir, CV W cs (FlDir.d a) ∧ FlDir.G a := by
 have hl := (trodLen Try.underlying94 h).trans (by kernel_rfl : Try.prog.cellsOf 94 = 3)
 match cs, hl with
 | [c0, c1, c2], _ =>
  obtain ⟨n1, y1, f1⟩ := trodAt Try.underlying94 h 0 _ rfl [c0] (by kernel_rfl)
  obtain ⟨v0, o0, g0⟩ := op_int Try.underlying3 f1
  obtain ⟨n2, y2, f2⟩ := trodAt Try.underlying94 h 1 _ rfl [c1] (by kernel_rfl)
  obtain ⟨v1, o1, g1⟩ := op_int Try.underlying3 f2
  obtain ⟨n3, y3, f3⟩ := trodAt Try.underlying94 h 2 _ rfl [c2] (by kernel_rfl)
  obtain ⟨v2, o2, g2⟩ := op_int Try.underlying3 f3
  exact ⟨⟨v0, v1, v2⟩, CVs.cv ⟨o0, o1, o2, trivial⟩, g0, g1, g2⟩
def FrSensor.G (x : FrSensor) : Prop := (Lit.int .i64 x.channel).wf = true ∧ (Lit.int .i64 x.x).wf = true ∧ (Lit.int .i64 x.y).wf = true ∧ (Lit.int .i64 x.z).wf = true ∧ (Lit.int .i64 x.scale).wf = true ∧ (Lit.int .i64 x.error).wf = true ∧ True
set_option maxRecDepth 100000 in
theorem open_FrSensor {n : Nat} {cs : List Value} {y : DataW H × List MemPlace} (h : DataW.trod enc Try.prog W 0 (fun _ => true) true n 100 cs = some y) : ∃ a : FrSensor, CV W cs (FrSensor.d a) ∧ FrSensor.G a := by
 have hl := (trodLen Try.underlying100 h).trans (by kernel_rfl : Try.prog.cellsOf 100 = 7)
 match cs, hl with
 | [c0, c1, c2, c3, c4, c5, c6], _ =>
  obtain ⟨n1, y1, f1⟩ := trodAt Try.underlying100 h 0 _ rfl [c0] (by kernel_rfl)
  obtain ⟨v0, o0, g0⟩ := op_int Try.underlying3 f1
  obtain ⟨n2, y2, f2⟩ := trodAt Try.underlying100 h 1 _ rfl [c1] (by kernel_rfl)
  obtain ⟨v1, o1, g1⟩ := op_int Try.underlying3 f2
  obtain ⟨n3, y3, f3⟩ := trodAt Try.underlying100 h 2 _ rfl [c2] (by kernel_rfl)
  obtain ⟨v2, o2, g2⟩ := op_int Try.underlying3 f3
  obtain ⟨n4, y4, f4⟩ := trodAt Try.underlying100 h 3 _ rfl [c3] (by kernel_rfl)
  obtain ⟨v3, o3, g3⟩ := op_int Try.underlying3 f4
  obtain ⟨n5, y5, f5⟩ := trodAt Try.underlying100 h 4 _ rfl [c4] (by kernel_rfl)
  obtain ⟨v4, o4, g4⟩ := op_int Try.underlying3 f5
  obtain ⟨n6, y6, f6⟩ := trodAt Try.underlying100 h 5 _ rfl [c5] (by kernel_rfl)
  obtain ⟨v5, o5, g5⟩ := op_int Try.underlying3 f6
  obtain ⟨n7, y7, f7⟩ := trodAt Try.underlying100 h 6 _ rfl [c6] (by kernel_rfl)
  obtain ⟨v6, o6, g6⟩ := op_bool Try.underlying4 f7
  exact ⟨⟨v0, v1, v2, v3, v4, v5, v6⟩, CVs.cv ⟨o0, o1, o2, o3, o4, o5, o6, trivial⟩, g0, g1, g2, g3, g4, g5, g6⟩
def FrSky.G (x : FrSky) : Prop := (x.dirs.length ≤ 9223372036854775807 ∧ ∀ z ∈ x.dirs, FlDir.G z) ∧ (Lit.int .i64 x.turn).wf = true ∧ (x.sensors.length ≤ 9223372036854775807 ∧ ∀ z ∈ x.sensors, FrSensor.G z)
set_option maxRecDepth 100000 in
theorem open_FrSky {n : Nat} {cs : List Value} {y : DataW H × List MemPlace} (h : DataW.trod enc Try.prog W 0 (fun _ => true) true n 76 cs = some y) : ∃ a : FrSky, CV W cs (FrSky.d a) ∧ FrSky.G a := by
 have hl := (trodLen Try.underlying76 h).trans (by kernel_rfl : Try.prog.cellsOf 76 = 3)
 match cs, hl with
 | [c0, c1, c2], _ =>
  obtain ⟨n1, y1, f1⟩ := trodAt Try.underlying76 h 0 _ rfl [c0] (by kernel_rfl)
  obtain ⟨v0, o0, g0⟩ := op_row (size := 3) FlDir.d (fun a => FlDir.G a) Try.underlying73 (by kernel_rfl) (by decide) (fun _ => rfl) (fun _ _ _ h => open_FlDir h) f1
  obtain ⟨n2, y2, f2⟩ := trodAt Try.underlying76 h 1 _ rfl [c1] (by kernel_rfl)
  obtain ⟨v1, o1, g1⟩ := op_int Try.underlying3 f2
  obtain ⟨n3, y3, f3⟩ := trodAt Try.underlying76 h 2 _ rfl [c2] (by kernel_rfl)
  obtain ⟨v2, o2, g2⟩ := op_row (size := 7) FrSensor.d (fun a => FrSensor.G a) Try.underlying74 (by kernel_rfl) (by decide) (fun _ => rfl) (fun _ _ _ h => open_FrSensor h) f3
  exact ⟨⟨v0, v1, v2⟩, CVs.cv ⟨o0, o1, o2, trivial⟩, g0, g1, g2⟩
def Spin.G (x : Spin) : Prop := (Lit.int .u16 x.first).wf = true ∧ (Lit.int .u8 x.many).wf = true ∧ (x.steps.length ≤ 9223372036854775807 ∧ ∀ z ∈ x.steps, (Lit.int .u8 z).wf = true) ∧ (x.wrong.length ≤ 9223372036854775807 ∧ ∀ z ∈ x.wrong, (Lit.int .i8 z).wf = true) ∧ (x.lost.length ≤ 9223372036854775807 ∧ ∀ z ∈ x.lost, (Lit.int .u8 z).wf = true)
set_option maxRecDepth 100000 in
theorem open_Spin {n : Nat} {cs : List Value} {y : DataW H × List MemPlace} (h : DataW.trod enc Try.prog W 0 (fun _ => true) true n 92 cs = some y) : ∃ a : Spin, CV W cs (Spin.d a) ∧ Spin.G a := by
 have hl := (trodLen Try.underlying92 h).trans (by kernel_rfl : Try.prog.cellsOf 92 = 5)
 match cs, hl with
 | [c0, c1, c2, c3, c4], _ =>
  obtain ⟨n1, y1, f1⟩ := trodAt Try.underlying92 h 0 _ rfl [c0] (by kernel_rfl)
  obtain ⟨v0, o0, g0⟩ := op_int Try.underlying65 f1
  obtain ⟨n2, y2, f2⟩ := trodAt Try.underlying92 h 1 _ rfl [c1] (by kernel_rfl)
  obtain ⟨v1, o1, g1⟩ := op_int Try.underlying5 f2
  obtain ⟨n3, y3, f3⟩ := trodAt Try.underlying92 h 2 _ rfl [c2] (by kernel_rfl)
  obtain ⟨v2, o2, g2⟩ := op_row (size := 1) v8 (fun a => (Lit.int .u8 a).wf = true) Try.underlying22 (by kernel_rfl) (by decide) (fun _ => rfl) (fun _ _ _ h => op_int1 Try.underlying5 h) f3
  obtain ⟨n4, y4, f4⟩ := trodAt Try.underlying92 h 3 _ rfl [c3] (by kernel_rfl)
  obtain ⟨v3, o3, g3⟩ := op_row (size := 1) vi8 (fun a => (Lit.int .i8 a).wf = true) Try.underlying90 (by kernel_rfl) (by decide) (fun _ => rfl) (fun _ _ _ h => op_int1 Try.underlying101 h) f4
  obtain ⟨n5, y5, f5⟩ := trodAt Try.underlying92 h 4 _ rfl [c4] (by kernel_rfl)
  obtain ⟨v4, o4, g4⟩ := op_row (size := 1) v8 (fun a => (Lit.int .u8 a).wf = true) Try.underlying22 (by kernel_rfl) (by decide) (fun _ => rfl) (fun _ _ _ h => op_int1 Try.underlying5 h) f5
  exact ⟨⟨v0, v1, v2, v3, v4⟩, CVs.cv ⟨o0, o1, o2, o3, o4, trivial⟩, g0, g1, g2, g3, g4⟩
set_option maxRecDepth 100000 in
theorem openV_28 {w0 : Nat} {v : Value} {d : DataW H} {q : List MemPlace} (hval : Value.okWide Try.prog W .any w0 28 v) (h : DataW.Trod enc Try.prog W 0 (fun _ => true) true 28 v d q) : ∃ a : FrFormat, VD (gW W) (FrFormat.d a) v ∧ FrFormat.G a := by
 obtain ⟨cs, rfl, n, x, hf⟩ := op_struct Try.underlying28 hval h
 obtain ⟨a, ha, g⟩ := open_FrFormat hf
 exact ⟨a, CV.agg ha, g⟩
set_option maxRecDepth 100000 in
theorem openV_76 {w0 : Nat} {v : Value} {d : DataW H} {q : List MemPlace} (hval : Value.okWide Try.prog W .any w0 76 v) (h : DataW.Trod enc Try.prog W 0 (fun _ => true) true 76 v d q) : ∃ a : FrSky, VD (gW W) (FrSky.d a) v ∧ FrSky.G a := by
 obtain ⟨cs, rfl, n, x, hf⟩ := op_struct Try.underlying76 hval h
 obtain ⟨a, ha, g⟩ := open_FrSky hf
 exact ⟨a, CV.agg ha, g⟩
set_option maxRecDepth 100000 in
theorem openV_92 {w0 : Nat} {v : Value} {d : DataW H} {q : List MemPlace} (hval : Value.okWide Try.prog W .any w0 92 v) (h : DataW.Trod enc Try.prog W 0 (fun _ => true) true 92 v d q) : ∃ a : Spin, VD (gW W) (Spin.d a) v ∧ Spin.G a := by
 obtain ⟨cs, rfl, n, x, hf⟩ := op_struct Try.underlying92 hval h
 obtain ⟨a, ha, g⟩ := open_Spin hf
 exact ⟨a, CV.agg ha, g⟩
end
theorem int_wf {k : IntKind} {a : Int} (h : (Lit.int k a).wf = true) : k.min ≤ a ∧ a ≤ k.max := by
 have h' : (decide (k.min ≤ a) && decide (a ≤ k.max)) = true := h
 rw [Bool.and_eq_true, decide_eq_true_iff, decide_eq_true_iff] at h'
 exact h'
def axF (t : FrFormat) : Nat := 1001 + (t.channels.map fun c => c.name.size).sum
theorem sum_ge {l : List FrChannel} : ∀ c ∈ l, c.name.size ≤ (l.map fun c => c.name.size).sum := by
 induction l with
 | nil => intro c h; cases h
 | cons x l ih =>
  intro c h
  rw [List.map_cons, List.sum_cons]
  rcases List.mem_cons.1 h with h | h
  ·rw [h]; omega
  ·have := ih c h; omega
theorem fmF_of {t : FrFormat} (g : t.G) : FmF (axF t) t := ⟨by unfold axF; omega, fun c hc => by
 have h1 := sum_ge c hc
 have h2 := (g.2.2.2.2 c hc).1
 unfold axF
 exact ⟨by omega, h2⟩⟩
theorem spinOk_of {a : Spin} (g : a.G) : SpinOk a := ⟨int_wf g.1, int_wf g.2.1, fun e h => int_wf (g.2.2.1.2 e h), fun e h => int_wf (g.2.2.2.2.2 e h), fun e h => int_wf (g.2.2.2.1.2 e h)⟩
namespace FrameAxisLaw
theorem own : ownKnob Try.prog.godebug = none := by kernel_rfl
theorem laidOut : laidOutB Try.prog = true := by kernel_rfl
set_option maxRecDepth 100000 in
theorem lifted (os : Os) (started : os.Started) (H : Type) (enc : TypeId × Value → H) :
 ReturnsInHanded {} Try.checked os 14 .any (Rows.frameAxisSpec.pre6 enc Try.prog Try.f14 Rows.frameAxisRow.domain false) (Rows.frameAxisSpec.post enc Try.prog Try.f14 false true false false) := by
 refine returnsInHanded_of_change_sized (C := Try.checked) own started (by kernel_rfl) Try.func14
  (ChangeSpec.witness6 (enc := enc) (C := Try.checked) false ⟨#[], #[.agg #[.string (ByteArray.mk #[]), .int .i64 0, .int .i64 0, .slice none 0 0], .agg #[.slice none 0 0, .int .i64 0, .slice none 0 0], .agg #[.int .u16 0, .int .u8 0, .slice none 0 0, .slice none 0 0, .slice none 0 0]], []⟩ 8 (by kernel_rfl) (by kernel_rfl) (by kernel_rfl) (by kernel_rfl)) ?_
 intro W base args ds gs before hval0 hW hcnd hsz0 _
 have hval : ∀ (j : Nat) t v, Try.f14.params[j]? = some t → args[j]? = some v → Value.okWide Try.prog W .any base t v := hval0
 have hW' := hW
 obtain ⟨p, q, hA0, hV, rfl, hfz, hnd⟩ := hW
 have hA : DataW.TrodAll enc Try.prog W 0 (fun _ => true) true Try.f14.params.toList args.toList ds p := hA0
 rw [Try.params14] at hA hval
 obtain ⟨v0, vs0, d0, ds0, p0, q0, hargs, rfl, rfl, h0, r0⟩ := trodAll_cons hA
 obtain ⟨v1, vs1, d1, ds1, p1, q1, rfl, rfl, rfl, h1, r1⟩ := trodAll_cons r0
 obtain ⟨v2, vs2, d2, ds2, p2, q2, rfl, rfl, rfl, h2, r2⟩ := trodAll_cons r1
 obtain ⟨rfl, rfl, rfl⟩ := trodAll_nil r2
 obtain rfl : args = #[v0, v1, v2] := by cases args; simp_all
 obtain ⟨rfl, rfl⟩ := trodVars_none hV
 have k0 := h0
 have lt0 : ∀ x ∈ p0, x.block < W.heap.size := by obtain ⟨m, hm⟩ := k0; exact DataW.trod_lt m _ _ _ hm
 obtain ⟨a0, o0, g0⟩ := openV_28 (hval 0 28 v0 rfl rfl) h0
 have k1 := h1
 have lt1 : ∀ x ∈ p1, x.block < W.heap.size := by obtain ⟨m, hm⟩ := k1; exact DataW.trod_lt m _ _ _ hm
 obtain ⟨a1, o1, g1⟩ := openV_76 (hval 1 76 v1 rfl rfl) h1
 have k2 := h2
 have lt2 : ∀ x ∈ p2, x.block < W.heap.size := by obtain ⟨m, hm⟩ := k2; exact DataW.trod_lt m _ _ _ hm
 obtain ⟨a2, o2, g2⟩ := openV_92 (hval 2 92 v2 rfl rfl) h2
 clear hA0 hval0 hsz0
 obtain ⟨F, hF⟩ := (⟨axF a0, axis_any (fmF_of g0) (spinOk_of g2) rfl a1⟩ : ∃ F, hangfirelaw09_FrameAxis F a0 a1 a2 = some true)
 have hw : Calls Try.prog 14 #[v0, v1, v2] W fun e w' => e = .returned (.bool true) ∧ Below W.heap.size W w' := PC.below (ds := [FrFormat.d a0, FrSky.d a1, Spin.d a2]) (vs := [v0, v1, v2]) (hangfirelaw09_FrameAxis_pc hF) rfl (CVs.at (ds := [FrFormat.d a0, FrSky.d a1, Spin.d a2]) (cs := [v0, v1, v2]) ⟨o0, o1, o2, trivial⟩).2
 refine hw.mono fun e W' ⟨he, bel⟩ => ?_
 subst he
 exact ⟨_, rfl, _, _, _, [], _, [], hW', trodAll_mk1 (shut_bool Try.underlying4 _), (trodAll_cons_mk (Below.trod laidOut (by kernel_rfl) (of_decide_eq_true (by kernel_rfl)) k0 bel lt0) (trodAll_cons_mk (Below.trod laidOut (by kernel_rfl) (of_decide_eq_true (by kernel_rfl)) k1 bel lt1) (trodAll_cons_mk (Below.trod laidOut (by kernel_rfl) (of_decide_eq_true (by kernel_rfl)) k2 bel lt2) trodAll_mk0))), rfl, bel.frame _, fun h => by cases h⟩
theorem over : Rows.frameAxisRow.holds Try.pinned (OpenSpec.ofChange Rows.frameAxisSpec) :=
 OpenClaim.holds_of_wide 14 Try.f14 rfl rfl rfl rfl rfl rfl rfl ⟨rfl, rfl, rfl, rfl, rfl⟩ rfl rfl rfl rfl rfl (by kernel_rfl) Try.func14 (by kernel_rfl)
  (of_decide_eq_true (by kernel_rfl)) (by unfold Func.isWrapper; first | (rw [if_pos (by decide +kernel)]; kernel_rfl) | (rw [if_neg (by decide +kernel)]; exact ⟨rfl, rfl⟩))
  (fun os started H enc _ => lifted os started H enc)
end FrameAxisLaw
theorem axis_holds : Rows.FrameAxisSaid := FrameAxisLaw.over
end Go.Proofs.Ytjnnkcnnandeeaa
