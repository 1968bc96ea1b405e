/-
  Proves that the law function WindowFair returns true whatever it is given, and that what it is given reads behind the call as it read before: 'WindowFairSaid'. No conditions.
-/
import Derived.Test.YtdefnmcjmklohaaRows
import Derived.Test.YtdefnmcjmklohaaP1
import Derived.SizedLaws
set_option linter.unusedVariables false
set_option linter.unusedSimpArgs false
namespace Go.Proofs.Ytdefnmcjmklohaa
open Go Go.Proofs Go.Proofs.Ytdefnmcjmklohaa.Sh Go.ChangeShapes Go.WideShapes Go.ChangeAt Go.RowKit
section
variable {H : Type} {enc : TypeId × Value → H} {W : World}
set_option maxRecDepth 100000 in
theorem openV_5 {w0 : Nat} {v : Value} {d : DataW H} {q : List MemPlace} (hval : Value.okWide Try.prog W .any w0 5 v) (h : DataW.Trod enc Try.prog W 0 (fun _ => true) true 5 v d q) : ∃ a : Int, VD (gW W) (.v (.int .u8 a)) v ∧ (Lit.int .u8 a).wf = true := opV_int Try.underlying5 hval h
set_option maxRecDepth 100000 in
theorem openV_48 {w0 : Nat} {v : Value} {d : DataW H} {q : List MemPlace} (hval : Value.okWide Try.prog W .any w0 48 v) (h : DataW.Trod enc Try.prog W 0 (fun _ => true) true 48 v d q) : ∃ a : (List Int), VD (gW W) (.arr 1 ((a).map v8)) v ∧ (a.length ≤ 9223372036854775807 ∧ ∀ z ∈ a, (Lit.int .u8 z).wf = true) := by
 obtain ⟨n, x, hf⟩ := opV_row Try.underlying48 hval h
 exact op_row (size := 1) v8 (fun a => (Lit.int .u8 a).wf = true) Try.underlying48 (by kernel_rfl) (by decide) (fun _ => rfl) (fun _ _ _ h => op_int1 Try.underlying5 h) hf
end
theorem u8_wf {a : Int} (h : (Lit.int .u8 a).wf = true) : 0 ≤ a ∧ a ≤ 255 := by
 have h' : (decide (IntKind.u8.min ≤ a) && decide (a ≤ IntKind.u8.max)) = true := h
 rw [Bool.and_eq_true, decide_eq_true_iff, decide_eq_true_iff] at h'
 exact h'
theorem awake_ok : l_Awake 100 = some true := by kernel_rfl
namespace WindowFairLaw
theorem own : ownKnob Try.prog.godebug = none := by kernel_rfl
theorem laidOut : laidOutB Try.prog = true := by kernel_rfl
set_option maxRecDepth 100000 in
theorem lifted (os : Os) (started : os.Started) (H : Type) (enc : TypeId × Value → H) :
 ReturnsInHanded {} Try.checked os 5 .any (Rows.windowFairSpec.pre6 enc Try.prog Try.f5 Rows.windowFairRow.domain false) (Rows.windowFairSpec.post enc Try.prog Try.f5 false true false false) := by
 refine returnsInHanded_of_change_sized (C := Try.checked) own started (by kernel_rfl) Try.func5
  (ChangeSpec.witness6 (enc := enc) (C := Try.checked) false ⟨#[], #[.int .u8 0, .int .u8 0, .slice none 0 0], []⟩ 8 (by kernel_rfl) (by kernel_rfl) (by kernel_rfl) (by kernel_rfl)) ?_
 intro W base args ds gs before hval0 hW hcnd hsz0 _
 have hval : ∀ (j : Nat) t v, Try.f5.params[j]? = some t → args[j]? = some v → Value.okWide Try.prog W .any base t v := hval0
 have hW' := hW
 obtain ⟨p, q, hA0, hV, rfl, hfz, hnd⟩ := hW
 have hA : DataW.TrodAll enc Try.prog W 0 (fun _ => true) true Try.f5.params.toList args.toList ds p := hA0
 rw [Try.params5] at hA hval
 obtain ⟨v0, vs0, d0, ds0, p0, q0, hargs, rfl, rfl, h0, r0⟩ := trodAll_cons hA
 obtain ⟨v1, vs1, d1, ds1, p1, q1, rfl, rfl, rfl, h1, r1⟩ := trodAll_cons r0
 obtain ⟨v2, vs2, d2, ds2, p2, q2, rfl, rfl, rfl, h2, r2⟩ := trodAll_cons r1
 obtain ⟨rfl, rfl, rfl⟩ := trodAll_nil r2
 obtain rfl : args = #[v0, v1, v2] := by cases args; simp_all
 obtain ⟨rfl, rfl⟩ := trodVars_none hV
 have k0 := h0
 have lt0 : ∀ x ∈ p0, x.block < W.heap.size := by obtain ⟨m, hm⟩ := k0; exact DataW.trod_lt m _ _ _ hm
 obtain ⟨a0, o0, g0⟩ := openV_5 (hval 0 5 v0 rfl rfl) h0
 have k1 := h1
 have lt1 : ∀ x ∈ p1, x.block < W.heap.size := by obtain ⟨m, hm⟩ := k1; exact DataW.trod_lt m _ _ _ hm
 obtain ⟨a1, o1, g1⟩ := openV_5 (hval 1 5 v1 rfl rfl) h1
 have k2 := h2
 have lt2 : ∀ x ∈ p2, x.block < W.heap.size := by obtain ⟨m, hm⟩ := k2; exact DataW.trod_lt m _ _ _ hm
 obtain ⟨a2, o2, g2⟩ := openV_48 (hval 2 48 v2 rfl rfl) h2
 clear hA0 hval0 hsz0
 obtain ⟨F, hF⟩ := (⟨101, fair_any (by omega) (u8_wf g0) (u8_wf g1) (fun x hx => u8_wf (g2.2 x hx)) awake_ok⟩ : ∃ F, l_WindowFair F a0 a1 a2 = some true)
 have hw : Calls Try.prog 5 #[v0, v1, v2] W fun e w' => e = .returned (.bool true) ∧ Below W.heap.size W w' := PC.below (ds := [.v (.int .u8 a0), .v (.int .u8 a1), .arr 1 ((a2).map v8)]) (vs := [v0, v1, v2]) (l_WindowFair_pc hF) rfl (CVs.at (ds := [.v (.int .u8 a0), .v (.int .u8 a1), .arr 1 ((a2).map v8)]) (cs := [v0, v1, v2]) ⟨o0, o1, o2, trivial⟩).2
 refine hw.mono fun e W' ⟨he, bel⟩ => ?_
 subst he
 exact ⟨_, rfl, _, _, _, [], _, [], hW', trodAll_mk1 (shut_bool Try.underlying4 _), (trodAll_cons_mk (Below.trod laidOut (by kernel_rfl) (of_decide_eq_true (by kernel_rfl)) k0 bel lt0) (trodAll_cons_mk (Below.trod laidOut (by kernel_rfl) (of_decide_eq_true (by kernel_rfl)) k1 bel lt1) (trodAll_cons_mk (Below.trod laidOut (by kernel_rfl) (of_decide_eq_true (by kernel_rfl)) k2 bel lt2) trodAll_mk0))), rfl, bel.frame _, fun h => by cases h⟩
theorem over : Rows.windowFairRow.holds Try.pinned (OpenSpec.ofChange Rows.windowFairSpec) :=
 OpenClaim.holds_of_wide 5 Try.f5 rfl rfl rfl rfl rfl rfl rfl ⟨rfl, rfl, rfl, rfl, rfl⟩ rfl rfl rfl rfl rfl (by kernel_rfl) Try.func5 (by kernel_rfl)
  (of_decide_eq_true (by kernel_rfl)) (by unfold Func.isWrapper; first | (rw [if_pos (by decide +kernel)]; kernel_rfl) | (rw [if_neg (by decide +kernel)]; exact ⟨rfl, rfl⟩))
  (fun os started H enc _ => lifted os started H enc)
end WindowFairLaw
theorem fair_holds : Rows.WindowFairSaid := WindowFairLaw.over
end Go.Proofs.Ytdefnmcjmklohaa
