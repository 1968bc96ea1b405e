/-
  Proves that the law function FrameMerges returns true whatever it is given, and that what it is given reads behind the call as it read before: 'FrameMergesSaid'. No conditions.
-/
import Derived.Test.YtjnnkcnnandeeaaRows
import Derived.Test.YtjnnkcnnandeeaaFM12
import Derived.SizedLaws
set_option linter.unusedVariables false
set_option linter.unusedSimpArgs false
namespace Go.Proofs.Ytjnnkcnnandeeaa
open Go Go.Proofs Go.Proofs.Ytjnnkcnnandeeaa.Sh Go.ChangeShapes Go.WideShapes Go.ChangeAt Go.RowKit
section
variable {H : Type} {enc : TypeId × Value → H} {W : World}
def FrChannel.G (x : FrChannel) : Prop := x.name.size ≤ 9223372036854775807 ∧ (Lit.int .i64 x.word).wf = true ∧ (Lit.int .i64 x.every).wf = true ∧ (Lit.int .i64 x.phase).wf = true
set_option maxRecDepth 100000 in
theorem open_FrChannel {n : Nat} {cs : List Value} {y : DataW H × List MemPlace} (h : DataW.trod enc Try.prog W 0 (fun _ => true) true n 83 cs = some y) : ∃ a : FrChannel, CV W cs (FrChannel.d a) ∧ FrChannel.G a := by
 have hl := (trodLen Try.underlying83 h).trans (by kernel_rfl : Try.prog.cellsOf 83 = 4)
 match cs, hl with
 | [c0, c1, c2, c3], _ =>
  obtain ⟨n1, y1, f1⟩ := trodAt Try.underlying83 h 0 _ rfl [c0] (by kernel_rfl)
  obtain ⟨v0, o0, g0⟩ := op_str Try.underlying9 f1
  obtain ⟨n2, y2, f2⟩ := trodAt Try.underlying83 h 1 _ rfl [c1] (by kernel_rfl)
  obtain ⟨v1, o1, g1⟩ := op_int Try.underlying3 f2
  obtain ⟨n3, y3, f3⟩ := trodAt Try.underlying83 h 2 _ rfl [c2] (by kernel_rfl)
  obtain ⟨v2, o2, g2⟩ := op_int Try.underlying3 f3
  obtain ⟨n4, y4, f4⟩ := trodAt Try.underlying83 h 3 _ rfl [c3] (by kernel_rfl)
  obtain ⟨v3, o3, g3⟩ := op_int Try.underlying3 f4
  exact ⟨⟨v0, v1, v2, v3⟩, CVs.cv ⟨o0, o1, o2, o3, trivial⟩, g0, g1, g2, g3⟩
def FrFormat.G (x : FrFormat) : Prop := x.sync.size ≤ 9223372036854775807 ∧ (Lit.int .i64 x.words).wf = true ∧ (Lit.int .i64 x.depth).wf = true ∧ (x.channels.length ≤ 9223372036854775807 ∧ ∀ z ∈ x.channels, FrChannel.G z)
set_option maxRecDepth 100000 in
theorem open_FrFormat {n : Nat} {cs : List Value} {y : DataW H × List MemPlace} (h : DataW.trod enc Try.prog W 0 (fun _ => true) true n 28 cs = some y) : ∃ a : FrFormat, CV W cs (FrFormat.d a) ∧ FrFormat.G a := by
 have hl := (trodLen Try.underlying28 h).trans (by kernel_rfl : Try.prog.cellsOf 28 = 4)
 match cs, hl with
 | [c0, c1, c2, c3], _ =>
  obtain ⟨n1, y1, f1⟩ := trodAt Try.underlying28 h 0 _ rfl [c0] (by kernel_rfl)
  obtain ⟨v0, o0, g0⟩ := op_str Try.underlying9 f1
  obtain ⟨n2, y2, f2⟩ := trodAt Try.underlying28 h 1 _ rfl [c1] (by kernel_rfl)
  obtain ⟨v1, o1, g1⟩ := op_int Try.underlying3 f2
  obtain ⟨n3, y3, f3⟩ := trodAt Try.underlying28 h 2 _ rfl [c2] (by kernel_rfl)
  obtain ⟨v2, o2, g2⟩ := op_int Try.underlying3 f3
  obtain ⟨n4, y4, f4⟩ := trodAt Try.underlying28 h 3 _ rfl [c3] (by kernel_rfl)
  obtain ⟨v3, o3, g3⟩ := op_row (size := 4) FrChannel.d (fun a => FrChannel.G a) Try.underlying26 (by kernel_rfl) (by decide) (fun _ => rfl) (fun _ _ _ h => open_FrChannel h) f4
  exact ⟨⟨v0, v1, v2, v3⟩, CVs.cv ⟨o0, o1, o2, o3, trivial⟩, g0, g1, g2, g3⟩
def FrTape.G (x : FrTape) : Prop := (x.bytes.length ≤ 9223372036854775807 ∧ ∀ z ∈ x.bytes, (Lit.int .u8 z).wf = true) ∧ (Lit.int .i64 x.first).wf = true
set_option maxRecDepth 100000 in
theorem open_FrTape {n : Nat} {cs : List Value} {y : DataW H × List MemPlace} (h : DataW.trod enc Try.prog W 0 (fun _ => true) true n 38 cs = some y) : ∃ a : FrTape, CV W cs (FrTape.d a) ∧ FrTape.G a := by
 have hl := (trodLen Try.underlying38 h).trans (by kernel_rfl : Try.prog.cellsOf 38 = 2)
 match cs, hl with
 | [c0, c1], _ =>
  obtain ⟨n1, y1, f1⟩ := trodAt Try.underlying38 h 0 _ rfl [c0] (by kernel_rfl)
  obtain ⟨v0, o0, g0⟩ := op_row (size := 1) v8 (fun a => (Lit.int .u8 a).wf = true) Try.underlying22 (by kernel_rfl) (by decide) (fun _ => rfl) (fun _ _ _ h => op_int1 Try.underlying5 h) f1
  obtain ⟨n2, y2, f2⟩ := trodAt Try.underlying38 h 1 _ rfl [c1] (by kernel_rfl)
  obtain ⟨v1, o1, g1⟩ := op_int Try.underlying3 f2
  exact ⟨⟨v0, v1⟩, CVs.cv ⟨o0, o1, trivial⟩, g0, g1⟩
set_option maxRecDepth 100000 in
theorem openV_28 {w0 : Nat} {v : Value} {d : DataW H} {q : List MemPlace} (hval : Value.okWide Try.prog W .any w0 28 v) (h : DataW.Trod enc Try.prog W 0 (fun _ => true) true 28 v d q) : ∃ a : FrFormat, VD (gW W) (FrFormat.d a) v ∧ FrFormat.G a := by
 obtain ⟨cs, rfl, n, x, hf⟩ := op_struct Try.underlying28 hval h
 obtain ⟨a, ha, g⟩ := open_FrFormat hf
 exact ⟨a, CV.agg ha, g⟩
set_option maxRecDepth 100000 in
theorem openV_108 {w0 : Nat} {v : Value} {d : DataW H} {q : List MemPlace} (hval : Value.okWide Try.prog W .any w0 108 v) (h : DataW.Trod enc Try.prog W 0 (fun _ => true) true 108 v d q) : ∃ a : (List FrTape), VD (gW W) (.arr 2 ((a).map FrTape.d)) v ∧ (a.length ≤ 9223372036854775807 ∧ ∀ z ∈ a, FrTape.G z) := by
 obtain ⟨n, x, hf⟩ := opV_row Try.underlying108 hval h
 exact op_row (size := 2) FrTape.d (fun a => FrTape.G a) Try.underlying108 (by kernel_rfl) (by decide) (fun _ => rfl) (fun _ _ _ h => open_FrTape h) hf
end
theorem int_wf {k : IntKind} {a : Int} (h : (Lit.int k a).wf = true) : k.min ≤ a ∧ a ≤ k.max := by
 have h' : (decide (k.min ≤ a) && decide (a ≤ k.max)) = true := h
 rw [Bool.and_eq_true, decide_eq_true_iff, decide_eq_true_iff] at h'
 exact h'
def mgF (t : FrFormat) : Nat := 100001 + (t.channels.map fun c => c.name.size).sum
theorem mgF_gt (t : FrFormat) : 100000 < mgF t := by unfold mgF; omega
theorem sum_ge {l : List FrChannel} : ∀ c ∈ l, c.name.size ≤ (l.map fun c => c.name.size).sum := by
 induction l with
 | nil => intro c h; cases h
 | cons x l ih =>
  intro c h
  rw [List.map_cons, List.sum_cons]
  rcases List.mem_cons.1 h with h | h
  ·rw [h]; omega
  ·have := ih c h; omega
theorem mgF_of {t : FrFormat} (g : t.G) : FmF (mgF t) t := ⟨by unfold mgF; omega, fun c hc => by
 have h1 := sum_ge c hc
 have h2 := (g.2.2.2.2 c hc).1
 unfold mgF
 exact ⟨by omega, h2⟩⟩
theorem tapes_of {o : List FrTape} (g : o.length ≤ 9223372036854775807 ∧ ∀ z ∈ o, FrTape.G z) : ∀ x ∈ o, ∀ c ∈ x.bytes, Fm.isByte c := fun x hx c hc => int_wf ((g.2 x hx).1.2 c hc)
namespace FrameMergesLaw
theorem own : ownKnob Try.prog.godebug = none := by kernel_rfl
theorem laidOut : laidOutB Try.prog = true := by kernel_rfl
set_option maxRecDepth 100000 in
theorem lifted (os : Os) (started : os.Started) (H : Type) (enc : TypeId × Value → H) :
 ReturnsInHanded {} Try.checked os 16 .any (Rows.frameMergesSpec.pre6 enc Try.prog Try.f16 Rows.frameMergesRow.domain false) (Rows.frameMergesSpec.post enc Try.prog Try.f16 false true false false) := by
 refine returnsInHanded_of_change_sized (C := Try.checked) own started (by kernel_rfl) Try.func16
  (ChangeSpec.witness6 (enc := enc) (C := Try.checked) false ⟨#[], #[.agg #[.string (ByteArray.mk #[]), .int .i64 0, .int .i64 0, .slice none 0 0], .slice none 0 0], []⟩ 8 (by kernel_rfl) (by kernel_rfl) (by kernel_rfl) (by kernel_rfl)) ?_
 intro W base args ds gs before hval0 hW hcnd hsz0 _
 have hval : ∀ (j : Nat) t v, Try.f16.params[j]? = some t → args[j]? = some v → Value.okWide Try.prog W .any base t v := hval0
 have hW' := hW
 obtain ⟨p, q, hA0, hV, rfl, hfz, hnd⟩ := hW
 have hA : DataW.TrodAll enc Try.prog W 0 (fun _ => true) true Try.f16.params.toList args.toList ds p := hA0
 rw [Try.params16] at hA hval
 obtain ⟨v0, vs0, d0, ds0, p0, q0, hargs, rfl, rfl, h0, r0⟩ := trodAll_cons hA
 obtain ⟨v1, vs1, d1, ds1, p1, q1, rfl, rfl, rfl, h1, r1⟩ := trodAll_cons r0
 obtain ⟨rfl, rfl, rfl⟩ := trodAll_nil r1
 obtain rfl : args = #[v0, v1] := by cases args; simp_all
 obtain ⟨rfl, rfl⟩ := trodVars_none hV
 have k0 := h0
 have lt0 : ∀ x ∈ p0, x.block < W.heap.size := by obtain ⟨m, hm⟩ := k0; exact DataW.trod_lt m _ _ _ hm
 obtain ⟨a0, o0, g0⟩ := openV_28 (hval 0 28 v0 rfl rfl) h0
 have k1 := h1
 have lt1 : ∀ x ∈ p1, x.block < W.heap.size := by obtain ⟨m, hm⟩ := k1; exact DataW.trod_lt m _ _ _ hm
 obtain ⟨a1, o1, g1⟩ := openV_108 (hval 1 108 v1 rfl rfl) h1
 clear hA0 hval0 hsz0
 obtain ⟨F, hF⟩ := (⟨mgF a0, Fm.merges_any (mgF_of g0) (mgF_gt a0) rfl a1 (tapes_of g1)⟩ : ∃ F, hangfirelaw09_FrameMerges F a0 a1 = some true)
 have hw : Calls Try.prog 16 #[v0, v1] W fun e w' => e = .returned (.bool true) ∧ Below W.heap.size W w' := PC.below (ds := [FrFormat.d a0, .arr 2 ((a1).map FrTape.d)]) (vs := [v0, v1]) (hangfirelaw09_FrameMerges_pc hF) rfl (CVs.at (ds := [FrFormat.d a0, .arr 2 ((a1).map FrTape.d)]) (cs := [v0, v1]) ⟨o0, o1, trivial⟩).2
 refine hw.mono fun e W' ⟨he, bel⟩ => ?_
 subst he
 exact ⟨_, rfl, _, _, _, [], _, [], hW', trodAll_mk1 (shut_bool Try.underlying4 _), (trodAll_cons_mk (Below.trod laidOut (by kernel_rfl) (of_decide_eq_true (by kernel_rfl)) k0 bel lt0) (trodAll_cons_mk (Below.trod laidOut (by kernel_rfl) (of_decide_eq_true (by kernel_rfl)) k1 bel lt1) trodAll_mk0)), rfl, bel.frame _, fun h => by cases h⟩
theorem over : Rows.frameMergesRow.holds Try.pinned (OpenSpec.ofChange Rows.frameMergesSpec) :=
 OpenClaim.holds_of_wide 16 Try.f16 rfl rfl rfl rfl rfl rfl rfl ⟨rfl, rfl, rfl, rfl, rfl⟩ rfl rfl rfl rfl rfl (by kernel_rfl) Try.func16 (by kernel_rfl)
  (of_decide_eq_true (by kernel_rfl)) (by unfold Func.isWrapper; first | (rw [if_pos (by decide +kernel)]; kernel_rfl) | (rw [if_neg (by decide +kernel)]; exact ⟨rfl, rfl⟩))
  (fun os started H enc _ => lifted os started H enc)
end FrameMergesLaw
theorem merges_holds : Rows.FrameMergesSaid := FrameMergesLaw.over
end Go.Proofs.Ytjnnkcnnandeeaa
