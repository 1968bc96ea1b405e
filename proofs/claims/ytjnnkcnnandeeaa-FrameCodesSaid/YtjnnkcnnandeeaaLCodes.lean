/-
  Proves that Commute and Encode return what the reference's return, for any format, number and lists, and that Awake holds: 'FrameCodesSaid'. No conditions.
-/
import Derived.Test.YtjnnkcnnandeeaaRows
import Derived.Test.YtjnnkcnnandeeaaWAwake
import Derived.Test.YtjnnkcnnandeeaaWRefCom
import Derived.Test.YtjnnkcnnandeeaaOpens
namespace Go.Proofs.Ytjnnkcnnandeeaa
open Go.ChangeShapes Go.WideShapes Go.ChangeAt Go.RowKit
namespace FrameCodesLaw
set_option maxRecDepth 100000 in
set_option maxHeartbeats 1000000 in
theorem walk {v u : Value} {f : Fmt} {n : Int} {l : List Int} {w : World} (hv : FmtV w v f) (_hn : (Lit.int .i64 n).wf = true) (hu : IntsV w .i64 u l) :
    Calls Try.prog 4 #[v, .int .i64 n, u] w fun e w' => e = .returned (.bool true) ∧ Below w.heap.size w w' := by
  have HV := hide hv
  have HU := hide hu
  obtain ⟨_, _, A, cap, rfl, _, _, _⟩ := hv
  have HX0 := hide ((Ext.refl w).alloc (.cells #[.string f.sync, .int .i64 f.words, .int .i64 f.depth, .slice A f.channels.length cap] 28))
  have HC1 := hide (fun W (hx : Ext w W) => commute_any _ u f n l W (HV.out.ext hx) (HU.out.ext hx))
  have HC2 := hide (fun W (hx : Ext w W) => refCommute_any _ u f n l W (HV.out.ext hx) (HU.out.ext hx))
  have HC3 := hide (fun W (hx : Ext w W) => encode_any _ u f n l W (HV.out.ext hx) (HU.out.ext hx))
  have HC4 := hide (fun W (hx : Ext w W) => refEncode_any _ u f n l W (HV.out.ext hx) (HU.out.ext hx))
  have HBX := hide (fun W' (hx : Ext (w.alloc (.cells #[.string f.sync, .int .i64 f.words, .int .i64 f.depth, .slice A f.channels.length cap] 28)) W') => box4 w (.string f.sync) (.int .i64 f.words) (.int .i64 f.depth) (.slice A f.channels.length cap) 28 hx)
  generalize comErr f n l = ce at *
  generalize encErr f n l = ee at *
  go_enter Try.func4, Try.ntmps4
  go_wp2_with fail
  refine (HC1.out _ HX0.out).mono ?_
  rintro e w1 ⟨r1, rfl, hi1, hx1⟩
  obtain ⟨g0, g1, g2, g3⟩ := HBX.out _ hx1
  have HX1 := hide (HX0.out.trans hx1)
  have HY1 := hide hx1
  have HI1 := hide hi1
  clear hx1 hi1
  go_wp2_with fail
  refine (HC2.out _ HX1.out).mono ?_
  rintro e w2 ⟨r2, rfl, hi2, hx2⟩
  replace g0 := hx2.cell g0
  replace g1 := hx2.cell g1
  replace g2 := hx2.cell g2
  replace g3 := hx2.cell g3
  have HX2 := hide (HX1.out.trans hx2)
  have HINTS := hide (ints_any _ _ _ _ w2 (HI1.out.ext hx2) hi2)
  clear hx2 hi2
  go_wp2_with (go_at_call 24; refine Calls.mono HINTS.out ?_; rintro e w3 ⟨rfl, hx3⟩; simp only [decide_true]; replace g0 := hx3.cell g0; replace g1 := hx3.cell g1; replace g2 := hx3.cell g2; replace g3 := hx3.cell g3; have HX3 := hide (HX2.out.trans hx3); clear hx3)
  refine (HC3.out _ HX3.out).mono ?_
  rintro e w4 ⟨r3, rfl, hb3, hx4⟩
  replace g0 := hx4.cell g0
  replace g1 := hx4.cell g1
  replace g2 := hx4.cell g2
  replace g3 := hx4.cell g3
  have HX4 := hide (HX3.out.trans hx4)
  have HB3 := hide hb3
  clear hx4 hb3
  go_wp2_with fail
  refine (HC4.out _ HX4.out).mono ?_
  rintro e w5 ⟨r4, rfl, hb4, hx5⟩
  have HX5 := hide (HX4.out.trans hx5)
  have hc3 := conv_v w5 22 5 Try.underlying22 Try.underlying5 Try.underlying9 (HB3.out.ext hx5)
  have hc4 := conv_v w5 22 5 Try.underlying22 Try.underlying5 Try.underlying9 hb4
  clear hx5 hb4 g0 g1 g2 g3
  generalize strOf (encOf f n l) = sb at *
  have HA := hide awake_any
  go_wp2_with (go_at_call 21; refine (HA.out _).mono ?_; rintro e w6 ⟨rfl, hx6⟩)
  go_ret
  exact ⟨rfl, HX5.out.trans hx6⟩
theorem own : ownKnob Try.prog.godebug = none := by kernel_rfl
theorem laidOut : laidOutB Try.prog = true := by kernel_rfl
set_option maxRecDepth 100000 in
theorem lifted (os : Os) (started : os.Started) (H : Type) (enc : TypeId × Value → H) :
    ReturnsInHanded {} Try.checked os 4 .any (Rows.frameCodesSpec.pre6 enc Try.prog Try.f4 Rows.frameCodesRow.domain false) (Rows.frameCodesSpec.post enc Try.prog Try.f4 false true false false) := by
  refine returnsInHanded_of_change (C := Try.checked) own started (by kernel_rfl) Try.func4
    (ChangeSpec.witness6 (enc := enc) (C := Try.checked) false ⟨#[], #[.agg #[.string ByteArray.empty, .int .i64 0, .int .i64 0, .slice none 0 0], .int .i64 0, .slice none 0 0], []⟩ 8 (by kernel_rfl) (by kernel_rfl) (by kernel_rfl) (by kernel_rfl)) ?_
  intro W base args ds gs before hval0 hW hcnd _
  have hval : ∀ (j : Nat) t v, Try.f4.params[j]? = some t → args[j]? = some v → Value.okWide Try.prog W .any base t v := hval0
  have hW' := hW
  obtain ⟨p, q, hA0, hV, rfl, hfz, hnd⟩ := hW
  have hA : DataW.TrodAll enc Try.prog W 0 (fun _ => true) true Try.f4.params.toList args.toList ds p := hA0
  rw [Try.params4] at hA hval
  obtain ⟨v0, vs0, d0, ds0, p0, q0, hargs, rfl, rfl, h0, r0⟩ := trodAll_cons hA
  obtain ⟨v1, vs1, d1, ds1, p1, q1, rfl, rfl, rfl, h1, r1⟩ := trodAll_cons r0
  obtain ⟨v2, vs2, d2, ds2, p2, q2, rfl, rfl, rfl, h2, r2⟩ := trodAll_cons r1
  obtain ⟨rfl, rfl, rfl⟩ := trodAll_nil r2
  obtain rfl : args = #[v0, v1, v2] := by cases args; simp_all
  obtain ⟨rfl, rfl⟩ := trodVars_none hV
  have k0 := h0
  have lt0 : ∀ x ∈ p0, x.block < W.heap.size := by obtain ⟨m, hm⟩ := k0; exact DataW.trod_lt m _ _ _ hm
  obtain ⟨f0, o0⟩ := open_fmt (hval 0 28 v0 rfl rfl) h0
  have k1 := h1
  have lt1 : ∀ x ∈ p1, x.block < W.heap.size := by obtain ⟨m, hm⟩ := k1; exact DataW.trod_lt m _ _ _ hm
  obtain ⟨x1, rfl, wx1⟩ := open_intV (hval 1 3 v1 rfl rfl) h1
  have k2 := h2
  have lt2 : ∀ x ∈ p2, x.block < W.heap.size := by obtain ⟨m, hm⟩ := k2; exact DataW.trod_lt m _ _ _ hm
  obtain ⟨l2, o2⟩ := open_intsV (hval 2 29 v2 rfl rfl) h2
  clear hA0 hval0
  refine (walk o0 wx1 o2).mono fun e W' ⟨he, bel⟩ => ?_
  subst he
  exact ⟨_, rfl, _, _, _, [], _, [], hW', trodAll_mk1 (shut_bool Try.underlying4 _), (trodAll_cons_mk (Below.trod laidOut (by kernel_rfl) (of_decide_eq_true (by kernel_rfl)) k0 bel lt0) (trodAll_cons_mk (Below.trod laidOut (by kernel_rfl) (of_decide_eq_true (by kernel_rfl)) k1 bel lt1) (trodAll_cons_mk (Below.trod laidOut (by kernel_rfl) (of_decide_eq_true (by kernel_rfl)) k2 bel lt2) trodAll_mk0))), rfl, bel.frame _, fun h => by cases h⟩
theorem over : Rows.frameCodesRow.holds Try.pinned (OpenSpec.ofChange Rows.frameCodesSpec) :=
  OpenClaim.holds_of_wide 4 Try.f4 rfl rfl rfl rfl rfl rfl rfl ⟨rfl, rfl, rfl, rfl, rfl⟩ rfl rfl rfl rfl rfl (by kernel_rfl) Try.func4 (by kernel_rfl)
    (of_decide_eq_true (by kernel_rfl)) (by unfold Func.isWrapper; first | (rw [if_pos (by decide +kernel)]; kernel_rfl) | (rw [if_neg (by decide +kernel)]; exact ⟨rfl, rfl⟩))
    (fun os started H enc _ => lifted os started H enc)
end FrameCodesLaw
/-- The statement. -/
theorem codes_holds : Rows.FrameCodesSaid := FrameCodesLaw.over
end Go.Proofs.Ytjnnkcnnandeeaa
