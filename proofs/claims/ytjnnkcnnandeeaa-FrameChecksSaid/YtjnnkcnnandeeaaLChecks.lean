/-
  Proves that Check and CheckSky return what the reference's return, for any format and sky, and that Awake holds: 'FrameChecksSaid'. No conditions.
-/
import Derived.Test.YtjnnkcnnandeeaaRows
import Derived.Test.YtjnnkcnnandeeaaWAwake
import Derived.Test.YtjnnkcnnandeeaaWCom
import Derived.Test.YtjnnkcnnandeeaaWRefSky
import Derived.Test.YtjnnkcnnandeeaaOpenSky
namespace Go.Proofs.Ytjnnkcnnandeeaa
open Go.ChangeShapes Go.WideShapes Go.ChangeAt Go.RowKit
namespace FrameChecksLaw
theorem box3 (w : World) (a b c : Value) (t : TypeId) {W' : World} (hx : Ext (w.alloc (.cells #[a, b, c] t)) W') :
    W'.cell? ⟨w.heap.size, 0, none⟩ = some a ∧ W'.cell? ⟨w.heap.size, 1, none⟩ = some b ∧ W'.cell? ⟨w.heap.size, 2, none⟩ = some c :=
  ⟨hx.cell (by simp), hx.cell (by simp), hx.cell (by simp)⟩
set_option maxRecDepth 100000 in
set_option maxHeartbeats 2000000 in
theorem walk {v u : Value} {f : Fmt} {s : Sky} {w : World} (hv : FmtV w v f) (hu : SkyV w u s) :
    Calls Try.prog 11 #[v, u] w fun e w' => e = .returned (.bool true) ∧ Below w.heap.size w w' := by
  have HV := hide hv
  have HU := hide hu
  obtain ⟨_, _, A, cap, rfl, _, _, _⟩ := hv
  obtain ⟨A1, c1, A2, c2, rfl, _, _, _, _, _, _⟩ := hu
  obtain ⟨W0, hW0⟩ : ∃ W0, (w.alloc (.cells #[.string f.sync, .int .i64 f.words, .int .i64 f.depth, .slice A f.channels.length cap] 28)).alloc (.cells #[.slice A1 s.dirs.length c1, .int .i64 s.turn, .slice A2 s.sens.length c2] 76) = W0 := ⟨_, rfl⟩
  have hx0 : Ext w W0 := by rw [← hW0]; exact ((Ext.refl w).alloc _).alloc _
  have HBX := hide (fun W' (hx : Ext W0 W') => box4 w (.string f.sync) (.int .i64 f.words) (.int .i64 f.depth) (.slice A f.channels.length cap) 28 (show Ext (w.alloc (.cells #[.string f.sync, .int .i64 f.words, .int .i64 f.depth, .slice A f.channels.length cap] 28)) W' from by
    refine Ext.trans ?_ hx; rw [← hW0]; exact (Ext.refl _).alloc _))
  have HBY := hide (fun W' (hx : Ext W0 W') => box3 (w.alloc (.cells #[.string f.sync, .int .i64 f.words, .int .i64 f.depth, .slice A f.channels.length cap] 28)) (.slice A1 s.dirs.length c1) (.int .i64 s.turn) (.slice A2 s.sens.length c2) 76 (by rw [hW0]; exact hx))
  rw [size_alloc] at HBY
  have HX0 := hide hx0
  have HW0 := hide hW0
  clear hW0
  have HC1 := hide (check_any _ f W0 (HV.out.ext hx0))
  have HC2 := hide (fun W (hx : Ext w W) => refCheck_any _ f W (HV.out.ext hx))
  have HC3 := hide (fun W (hx : Ext w W) => sky_any _ _ f s W (HV.out.ext hx) (HU.out.ext hx))
  have HC4 := hide (fun W (hx : Ext w W) => refSky_any _ _ f s W (HV.out.ext hx) (HU.out.ext hx))
  have HA := hide awake_any
  generalize chk f = ck at *
  obtain ⟨k1, k2, k3⟩ := ck
  generalize skyOut f s = so at *
  obtain ⟨o1, o2⟩ := so
  dsimp only at HC1 HC2 HC3 HC4
  clear hx0
  go_enter Try.func11, Try.ntmps11
  go_wp2_with fail
  rw [HW0.out]
  refine HC1.out.mono ?_
  rintro e w1 ⟨rfl, hx1⟩
  obtain ⟨g0, g1, g2, g3⟩ := HBX.out _ hx1
  have HE1 := hide hx1
  have HX1 := hide (HX0.out.trans hx1)
  clear hx1
  go_wp2_with fail
  refine (HC2.out _ HX1.out).mono ?_
  rintro e w2 ⟨rfl, hx2⟩
  have HE2 := hide (HE1.out.trans hx2)
  have HX2 := hide (HX1.out.trans hx2)
  clear hx2 g0 g1 g2 g3
  obtain ⟨g0, g1, g2, g3⟩ := HBX.out _ HE2.out
  obtain ⟨y0, y1, y2⟩ := HBY.out _ HE2.out
  have e1 : (k1 != k1) = false := by simp
  have e2 : (k2 != k2) = false := by simp
  have e3 : (k3 != k3) = false := by simp
  have e4 : (o1 == o1) = true := by simp
  have e5 : (o2 == o2) = true := by simp
  go_wp2_with fail
  refine (HC3.out _ HX2.out).mono ?_
  rintro e w3 ⟨rfl, hx3⟩
  have HE3 := hide (HE2.out.trans hx3)
  have HX3 := hide (HX2.out.trans hx3)
  clear hx3 g0 g1 g2 g3 y0 y1 y2
  obtain ⟨g0, g1, g2, g3⟩ := HBX.out _ HE3.out
  obtain ⟨y0, y1, y2⟩ := HBY.out _ HE3.out
  go_wp2_with fail
  refine (HC4.out _ HX3.out).mono ?_
  rintro e w4 ⟨rfl, hx4⟩
  go_wp2_with (go_at_call 21; refine (HA.out _).mono ?_; rintro e w5 ⟨rfl, hx5⟩)
  go_ret
  exact ⟨rfl, (HX3.out.trans hx4).trans hx5⟩
theorem own : ownKnob Try.prog.godebug = none := by kernel_rfl
theorem laidOut : laidOutB Try.prog = true := by kernel_rfl
set_option maxRecDepth 100000 in
theorem lifted (os : Os) (started : os.Started) (H : Type) (enc : TypeId × Value → H) :
    ReturnsInHanded {} Try.checked os 11 .any (Rows.frameChecksSpec.pre6 enc Try.prog Try.f11 Rows.frameChecksRow.domain false) (Rows.frameChecksSpec.post enc Try.prog Try.f11 false true false false) := by
  refine returnsInHanded_of_change (C := Try.checked) own started (by kernel_rfl) Try.func11
    (ChangeSpec.witness6 (enc := enc) (C := Try.checked) false ⟨#[], #[.agg #[.string ByteArray.empty, .int .i64 0, .int .i64 0, .slice none 0 0], .agg #[.slice none 0 0, .int .i64 0, .slice none 0 0]], []⟩ 8 (by kernel_rfl) (by kernel_rfl) (by kernel_rfl) (by kernel_rfl)) ?_
  intro W base args ds gs before hval0 hW hcnd _
  have hval : ∀ (j : Nat) t v, Try.f11.params[j]? = some t → args[j]? = some v → Value.okWide Try.prog W .any base t v := hval0
  have hW' := hW
  obtain ⟨p, q, hA0, hV, rfl, hfz, hnd⟩ := hW
  have hA : DataW.TrodAll enc Try.prog W 0 (fun _ => true) true Try.f11.params.toList args.toList ds p := hA0
  rw [Try.params11] at hA hval
  obtain ⟨v0, vs0, d0, ds0, p0, q0, hargs, rfl, rfl, h0, r0⟩ := trodAll_cons hA
  obtain ⟨v1, vs1, d1, ds1, p1, q1, rfl, rfl, rfl, h1, r1⟩ := trodAll_cons r0
  obtain ⟨rfl, rfl, rfl⟩ := trodAll_nil r1
  obtain rfl : args = #[v0, v1] := by cases args; simp_all
  obtain ⟨rfl, rfl⟩ := trodVars_none hV
  have k0 := h0
  have lt0 : ∀ x ∈ p0, x.block < W.heap.size := by obtain ⟨m, hm⟩ := k0; exact DataW.trod_lt m _ _ _ hm
  obtain ⟨f0, o0⟩ := open_fmt (hval 0 28 v0 rfl rfl) h0
  have k1 := h1
  have lt1 : ∀ x ∈ p1, x.block < W.heap.size := by obtain ⟨m, hm⟩ := k1; exact DataW.trod_lt m _ _ _ hm
  obtain ⟨s1, o1, wx1⟩ := open_sky (hval 1 76 v1 rfl rfl) h1
  clear hA0 hval0
  refine (walk o0 o1).mono fun e W' ⟨he, bel⟩ => ?_
  subst he
  exact ⟨_, rfl, _, _, _, [], _, [], hW', trodAll_mk1 (shut_bool Try.underlying4 _), (trodAll_cons_mk (Below.trod laidOut (by kernel_rfl) (of_decide_eq_true (by kernel_rfl)) k0 bel lt0) (trodAll_cons_mk (Below.trod laidOut (by kernel_rfl) (of_decide_eq_true (by kernel_rfl)) k1 bel lt1) trodAll_mk0)), rfl, bel.frame _, fun h => by cases h⟩
theorem over : Rows.frameChecksRow.holds Try.pinned (OpenSpec.ofChange Rows.frameChecksSpec) :=
  OpenClaim.holds_of_wide 11 Try.f11 rfl rfl rfl rfl rfl rfl rfl ⟨rfl, rfl, rfl, rfl, rfl⟩ rfl rfl rfl rfl rfl (by kernel_rfl) Try.func11 (by kernel_rfl)
    (of_decide_eq_true (by kernel_rfl)) (by unfold Func.isWrapper; first | (rw [if_pos (by decide +kernel)]; kernel_rfl) | (rw [if_neg (by decide +kernel)]; exact ⟨rfl, rfl⟩))
    (fun os started H enc _ => lifted os started H enc)
end FrameChecksLaw
/-- The statement. -/
theorem checks_holds : Rows.FrameChecksSaid := FrameChecksLaw.over
end Go.Proofs.Ytjnnkcnnandeeaa
