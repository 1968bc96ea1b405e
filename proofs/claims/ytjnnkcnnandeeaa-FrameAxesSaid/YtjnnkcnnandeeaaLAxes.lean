/-
  Proves that Axes returns what the reference's returns, for any format, sky and reports, and that Awake holds: 'FrameAxesSaid'. No conditions.
-/
import Derived.Test.YtjnnkcnnandeeaaRows
import Derived.Test.YtjnnkcnnandeeaaWAwake
import Derived.Test.YtjnnkcnnandeeaaWCom
import Derived.Test.YtjnnkcnnandeeaaWRefAxes
import Derived.Test.YtjnnkcnnandeeaaOpenSky
import Derived.Test.YtjnnkcnnandeeaaOpenReps
namespace Go.Proofs.Ytjnnkcnnandeeaa
open Go.ChangeShapes Go.WideShapes Go.ChangeAt Go.RowKit
namespace FrameAxesLaw
theorem box3 (w : World) (a b c : Value) (t : TypeId) {W' : World} (hx : Ext (w.alloc (.cells #[a, b, c] t)) W') :
    W'.cell? ⟨w.heap.size, 0, none⟩ = some a ∧ W'.cell? ⟨w.heap.size, 1, none⟩ = some b ∧ W'.cell? ⟨w.heap.size, 2, none⟩ = some c :=
  ⟨hx.cell (by simp), hx.cell (by simp), hx.cell (by simp)⟩
set_option maxRecDepth 100000 in
set_option maxHeartbeats 2000000 in
theorem walk {v u t : Value} {f : Fmt} {s : Sky} {xs : List RepX} {w : World} (hv : FmtV w v f) (hu : SkyV w u s) (ht : RepsV w t xs) :
    Calls Try.prog 13 #[v, u, t] w fun e w' => e = .returned (.bool true) ∧ Below w.heap.size w w' := by
  have HV := hide hv
  have HU := hide hu
  have HT := hide ht
  obtain ⟨_, _, A, cap, rfl, _, _, _⟩ := hv
  obtain ⟨A1, c1, A2, c2, rfl, _, _, _, _, _, _⟩ := hu
  obtain ⟨AT, capT, rfl, _, _, _, _⟩ := ht
  obtain ⟨W0, hW0⟩ : ∃ W0, (w.alloc (.cells #[.string f.sync, .int .i64 f.words, .int .i64 f.depth, .slice A f.channels.length cap] 28)).alloc (.cells #[.slice A1 s.dirs.length c1, .int .i64 s.turn, .slice A2 s.sens.length c2] 76) = W0 := ⟨_, rfl⟩
  have hx0 : Ext w W0 := by rw [← hW0]; exact ((Ext.refl w).alloc _).alloc _
  have HBX := hide (fun W' (hx : Ext W0 W') => box4 w (.string f.sync) (.int .i64 f.words) (.int .i64 f.depth) (.slice A f.channels.length cap) 28 (show Ext (w.alloc (.cells #[.string f.sync, .int .i64 f.words, .int .i64 f.depth, .slice A f.channels.length cap] 28)) W' from by
    refine Ext.trans ?_ hx; rw [← hW0]; exact (Ext.refl _).alloc _))
  have HBY := hide (fun W' (hx : Ext W0 W') => box3 (w.alloc (.cells #[.string f.sync, .int .i64 f.words, .int .i64 f.depth, .slice A f.channels.length cap] 28)) (.slice A1 s.dirs.length c1) (.int .i64 s.turn) (.slice A2 s.sens.length c2) 76 (by rw [hW0]; exact hx))
  rw [size_alloc] at HBY
  have HX0 := hide hx0
  have HW0 := hide hW0
  clear hW0
  have HC3 := hide (fun W (hx : Ext w W) => axes_any _ _ _ f s xs W (HV.out.ext hx) (HU.out.ext hx) (HT.out.ext hx))
  have HC4 := hide (fun W (hx : Ext w W) => refAxes_any _ _ _ f s xs W (HV.out.ext hx) (HU.out.ext hx) (HT.out.ext hx))
  have HA := hide awake_any
  generalize axesOut f s xs = so at *
  obtain ⟨o1, o2⟩ := so
  dsimp only at HC3 HC4
  clear hx0
  go_enter Try.func13, Try.ntmps13
  go_wp2_with fail
  rw [HW0.out]
  refine (HC3.out _ HX0.out).mono ?_
  rintro e w1 ⟨r1, ys1, rfl, hy1, hm1, hx1⟩
  obtain ⟨g0, g1, g2, g3⟩ := HBX.out _ (Ext.trans (Ext.refl _) hx1)
  obtain ⟨y0, y1, y2⟩ := HBY.out _ hx1
  have HX1 := hide (HX0.out.trans hx1)
  have HY1 := hide hy1
  have HM1 := hide hm1
  clear hx1 hy1 hm1
  go_wp2_with fail
  refine (HC4.out _ HX1.out).mono ?_
  rintro e w2 ⟨r2, ys2, rfl, hy2, hm2, hx2⟩
  have HX2 := hide (HX1.out.trans hx2)
  have HS := hide (fun V (e : Ext w2 V) => sameAxes_any r1 r2 ys1 ys2 V (HY1.out.ext (hx2.trans e)) (hy2.ext e))
  have HE := hide (show sameX ys1 ys2 = true by unfold sameX; rw [HM1.out, hm2]; simp)
  rw [HE.out] at HS
  clear hx2 hy2 hm2 g0 g1 g2 g3 y0 y1 y2
  have e5 : (o2 == o2) = true := by simp
  go_wp2_with fail
  refine (HS.out _ (Ext.refl _)).mono ?_
  rintro e w3 ⟨rfl, hx3⟩
  go_wp2_with (go_at_call 21; refine (HA.out _).mono ?_; rintro e w5 ⟨rfl, hx5⟩)
  go_ret
  exact ⟨rfl, (HX2.out.trans hx3).trans hx5⟩
theorem own : ownKnob Try.prog.godebug = none := by kernel_rfl
theorem laidOut : laidOutB Try.prog = true := by kernel_rfl
set_option maxRecDepth 100000 in
theorem lifted (os : Os) (started : os.Started) (H : Type) (enc : TypeId × Value → H) :
    ReturnsInHanded {} Try.checked os 13 .any (Rows.frameAxesSpec.pre6 enc Try.prog Try.f13 Rows.frameAxesRow.domain false) (Rows.frameAxesSpec.post enc Try.prog Try.f13 false true false false) := by
  refine returnsInHanded_of_change (C := Try.checked) own started (by kernel_rfl) Try.func13
    (ChangeSpec.witness6 (enc := enc) (C := Try.checked) false ⟨#[], #[.agg #[.string ByteArray.empty, .int .i64 0, .int .i64 0, .slice none 0 0], .agg #[.slice none 0 0, .int .i64 0, .slice none 0 0], .slice none 0 0], []⟩ 8 (by kernel_rfl) (by kernel_rfl) (by kernel_rfl) (by kernel_rfl)) ?_
  intro W base args ds gs before hval0 hW hcnd _
  have hval : ∀ (j : Nat) t v, Try.f13.params[j]? = some t → args[j]? = some v → Value.okWide Try.prog W .any base t v := hval0
  have hW' := hW
  obtain ⟨p, q, hA0, hV, rfl, hfz, hnd⟩ := hW
  have hA : DataW.TrodAll enc Try.prog W 0 (fun _ => true) true Try.f13.params.toList args.toList ds p := hA0
  rw [Try.params13] at hA hval
  obtain ⟨v0, vs0, d0, ds0, p0, q0, hargs, rfl, rfl, h0, r0⟩ := trodAll_cons hA
  obtain ⟨v1, vs1, d1, ds1, p1, q1, rfl, rfl, rfl, h1, r1⟩ := trodAll_cons r0
  obtain ⟨v2, vs2, d2, ds2, p2, q2, rfl, rfl, rfl, h2, r2⟩ := trodAll_cons r1
  obtain ⟨rfl, rfl, rfl⟩ := trodAll_nil r2
  obtain rfl : args = #[v0, v1, v2] := by cases args; simp_all
  obtain ⟨rfl, rfl⟩ := trodVars_none hV
  have k0 := h0
  have lt0 : ∀ x ∈ p0, x.block < W.heap.size := by obtain ⟨m, hm⟩ := k0; exact DataW.trod_lt m _ _ _ hm
  obtain ⟨f0, o0⟩ := open_fmt (hval 0 28 v0 rfl rfl) h0
  have k1 := h1
  have lt1 : ∀ x ∈ p1, x.block < W.heap.size := by obtain ⟨m, hm⟩ := k1; exact DataW.trod_lt m _ _ _ hm
  obtain ⟨s1, o1, wx1⟩ := open_sky (hval 1 76 v1 rfl rfl) h1
  have k2 := h2
  have lt2 : ∀ x ∈ p2, x.block < W.heap.size := by obtain ⟨m, hm⟩ := k2; exact DataW.trod_lt m _ _ _ hm
  obtain ⟨l2, o2⟩ := open_reps (hval 2 84 v2 rfl rfl) h2
  clear hA0 hval0
  refine (walk o0 o1 o2).mono fun e W' ⟨he, bel⟩ => ?_
  subst he
  exact ⟨_, rfl, _, _, _, [], _, [], hW', trodAll_mk1 (shut_bool Try.underlying4 _), (trodAll_cons_mk (Below.trod laidOut (by kernel_rfl) (of_decide_eq_true (by kernel_rfl)) k0 bel lt0) (trodAll_cons_mk (Below.trod laidOut (by kernel_rfl) (of_decide_eq_true (by kernel_rfl)) k1 bel lt1) (trodAll_cons_mk (Below.trod laidOut (by kernel_rfl) (of_decide_eq_true (by kernel_rfl)) k2 bel lt2) trodAll_mk0))), rfl, bel.frame _, fun h => by cases h⟩
theorem over : Rows.frameAxesRow.holds Try.pinned (OpenSpec.ofChange Rows.frameAxesSpec) :=
  OpenClaim.holds_of_wide 13 Try.f13 rfl rfl rfl rfl rfl rfl rfl ⟨rfl, rfl, rfl, rfl, rfl⟩ rfl rfl rfl rfl rfl (by kernel_rfl) Try.func13 (by kernel_rfl)
    (of_decide_eq_true (by kernel_rfl)) (by unfold Func.isWrapper; first | (rw [if_pos (by decide +kernel)]; kernel_rfl) | (rw [if_neg (by decide +kernel)]; exact ⟨rfl, rfl⟩))
    (fun os started H enc _ => lifted os started H enc)
end FrameAxesLaw
/-- The statement. -/
theorem axes_holds : Rows.FrameAxesSaid := FrameAxesLaw.over
end Go.Proofs.Ytjnnkcnnandeeaa
