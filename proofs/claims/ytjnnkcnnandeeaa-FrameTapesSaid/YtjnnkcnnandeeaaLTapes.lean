/-
  Proves that Numbers and Values return what the reference's return, for any format, tape and channel, and that Awake holds: 'FrameTapesSaid'. No conditions.
-/
import Derived.Test.YtjnnkcnnandeeaaRows
import Derived.Test.YtjnnkcnnandeeaaWAwake
import Derived.Test.YtjnnkcnnandeeaaWRefVals
import Derived.Test.YtjnnkcnnandeeaaOpens
namespace Go.Proofs.Ytjnnkcnnandeeaa
open Go.ChangeShapes Go.WideShapes Go.ChangeAt Go.RowKit
namespace FrameTapesLaw
theorem pair_at {w : World} {A : Option Addr} {ps : List (Int × Int)} {k : Nat} (h : Rows2 w A ps.length 2 (pairAt ps)) (hk : k < ps.length) :
    ∃ b off, A = some ⟨b, off, none⟩ ∧ b < w.heap.size ∧ w.cell? ⟨b, off + k * 2, none⟩ = some (.int .i64 (ps.getD k (0, 0)).1) ∧ w.cell? ⟨b, off + k * 2 + 1, none⟩ = some (.int .i64 (ps.getD k (0, 0)).2) := by
  obtain ⟨b, off, e, hb, hc⟩ := h (by omega)
  exact ⟨b, off, e, hb, hc k 0 hk (by omega), hc k 1 hk (by omega)⟩
set_option maxRecDepth 100000 in
set_option maxHeartbeats 1000000 in
theorem walk {v b : Value} {f : Fmt} {l : List Nat} {first ch : Int} {w : World} (hv : FmtV w v f) (hb : BytesV w b l) (hn : (Lit.int .i64 ch).wf = true) :
    Calls Try.prog 5 #[v, .agg #[b, .int .i64 first], .int .i64 ch] w fun e w' => e = .returned (.bool true) ∧ Below w.heap.size w w' := by
  have HV := hide hv
  have HB := hide hb
  obtain ⟨_, _, A, cap, rfl, _, _, _⟩ := hv
  obtain ⟨_, A', cap', rfl, _, _, _⟩ := hb
  have HX0 := hide (((Ext.refl w).alloc (.cells #[.string f.sync, .int .i64 f.words, .int .i64 f.depth, .slice A f.channels.length cap] 28)).alloc (.cells #[.slice A' l.length cap', .int .i64 first] 38))
  have HC1 := hide (fun W (hx : Ext w W) => numbers_any _ _ f l first W (HV.out.ext hx) (HB.out.ext hx))
  have HC2 := hide (fun W (hx : Ext w W) => refNumbers_any _ _ f l first W (HV.out.ext hx) (HB.out.ext hx))
  have HC3 := hide (fun W (hx : Ext w W) => values_any _ _ f l first ch W hn (HV.out.ext hx) (HB.out.ext hx))
  have HC4 := hide (fun W (hx : Ext w W) => refValues_any _ _ f l first ch W hn (HV.out.ext hx) (HB.out.ext hx))
  generalize numErr f l first = ce at *
  generalize valErr f l first ch = ee at *
  generalize valsOf f l first ch = ps at *
  generalize numsOf f l first = ns at *
  have HA := hide awake_any
  have HCC : Hid (∀ W, Ext ((w.alloc (.cells #[.string f.sync, .int .i64 f.words, .int .i64 f.depth, .slice A f.channels.length cap] 28)).alloc (.cells #[.slice A' l.length cap', .int .i64 first] 38)) W → W.cell? ⟨w.heap.size, 0, none⟩ = some (.string f.sync) ∧ W.cell? ⟨w.heap.size, 1, none⟩ = some (.int .i64 f.words) ∧ W.cell? ⟨w.heap.size, 2, none⟩ = some (.int .i64 f.depth) ∧ W.cell? ⟨w.heap.size, 3, none⟩ = some (.slice A f.channels.length cap) ∧ W.cell? ⟨w.heap.size + 1, 0, none⟩ = some (.slice A' l.length cap') ∧ W.cell? ⟨w.heap.size + 1, 1, none⟩ = some (.int .i64 first)) :=
    hide fun W hx => by
      have h4 := box4 w (.string f.sync) (.int .i64 f.words) (.int .i64 f.depth) (.slice A f.channels.length cap) 28 (((Ext.refl _).alloc _).trans hx)
      have h2 := heap_ext hx (heap_new2 w _ _)
      exact ⟨h4.1, h4.2.1, h4.2.2.1, h4.2.2.2, cell_heap h2 0 _ rfl, cell_heap h2 1 _ rfl⟩
  go_enter Try.func5, Try.ntmps5
  go_wp2_with fail
  refine (HC1.out _ HX0.out).mono ?_
  rintro e w1 ⟨r1, rfl, hi1, hx1⟩
  obtain ⟨g0, g1, g2, g3, g4, g5⟩ := HCC.out _ hx1
  have HX1 := hide (HX0.out.trans hx1)
  have HI1 := hide hi1
  have HY1 := hide hx1
  clear hx1 hi1
  go_wp2_with fail
  refine (HC2.out _ HX1.out).mono ?_
  rintro e w2 ⟨r2, rfl, hi2, hx2⟩
  have HX2 := hide (HX1.out.trans hx2)
  have HY2 := hide (HY1.out.trans hx2)
  have HINTS := hide (ints_any _ _ _ _ w2 (HI1.out.ext hx2) hi2)
  clear hx2 hi2 g0 g1 g2 g3 g4 g5
  go_wp2_with (go_at_call 24; refine Calls.mono HINTS.out ?_; rintro e w3 ⟨rfl, hx3⟩; simp only [decide_true]; obtain ⟨g0, g1, g2, g3, g4, g5⟩ := HCC.out _ (HY2.out.trans hx3); have HX3 := hide (HX2.out.trans hx3); have HY3 := hide (HY2.out.trans hx3); clear hx3)
  refine (HC3.out _ HX3.out).mono ?_
  rintro e w4 ⟨r3, rfl, hi4, hx4⟩
  obtain ⟨g0, g1, g2, g3, g4, g5⟩ := HCC.out _ (HY3.out.trans hx4)
  have HX4 := hide (HX3.out.trans hx4)
  have HI4 := hide hi4
  obtain ⟨A3, cap3, rfl, hc3, hm3, hr3⟩ := hi4
  have hmx3 : cap3 ≤ 9223372036854775807 := by simpa [maxLen] using hm3
  have HR3 := hide hr3
  clear hx4 hr3 hm3
  go_wp2_with fail
  refine (HC4.out _ HX4.out).mono ?_
  rintro e w5 ⟨r4, rfl, hi5, hx5⟩
  have HX5 := hide (HX4.out.trans hx5)
  obtain ⟨A4, cap4, rfl, hc4, hm4, hr4⟩ := hi5
  have hmx4 : cap4 ≤ 9223372036854775807 := by simpa [maxLen] using hm4
  have HR4 := hide hr4
  have HR5 := hide (HR3.out.ext hx5)
  clear hx5 hr4 hm4 g0 g1 g2 g3 g4 g5
  go_wp2
  go_loopw [13] (fun v13 wr => ∃ k : Nat, k ≤ ps.length ∧ v13 = .int .i64 k ∧ Ext w5 wr) (fun v13 _ => ps.length - (intOf v13).toNat)
  case atStart => exact ⟨0, by omega, rfl, Ext.refl _⟩
  case round =>
    obtain ⟨k, hk, rfl, hE⟩ := hrel
    by_cases h8 : k < ps.length
    · obtain ⟨b3, o3, rfl, _, c30, c31⟩ := pair_at (HR5.out.ext hE) h8
      obtain ⟨b4, o4, rfl, _, c40, c41⟩ := pair_at (HR4.out.ext hE) h8
      generalize ps.getD k (0, 0) = p at *
      go_wp2
      go_quiet (fail)
      go_wp2
      go_roundw
      case rel => exact ⟨k + 1, by omega, by go_num, hE.trans ((Ext.refl _).drewN _)⟩
      case measure => simp [intOf]; omega
    · obtain rfl : k = ps.length := by omega
      go_wp2_with (go_at_call 21; refine (HA.out _).mono ?_; rintro e w6 ⟨rfl, hx6⟩)
      go_ret
      exact ⟨rfl, (HX5.out.trans hE).trans hx6⟩
theorem own : ownKnob Try.prog.godebug = none := by kernel_rfl
theorem laidOut : laidOutB Try.prog = true := by kernel_rfl
set_option maxRecDepth 100000 in
theorem lifted (os : Os) (started : os.Started) (H : Type) (enc : TypeId × Value → H) :
    ReturnsInHanded {} Try.checked os 5 .any (Rows.frameTapesSpec.pre6 enc Try.prog Try.f5 Rows.frameTapesRow.domain false) (Rows.frameTapesSpec.post enc Try.prog Try.f5 false true false false) := by
  refine returnsInHanded_of_change (C := Try.checked) own started (by kernel_rfl) Try.func5
    (ChangeSpec.witness6 (enc := enc) (C := Try.checked) false ⟨#[], #[.agg #[.string ByteArray.empty, .int .i64 0, .int .i64 0, .slice none 0 0], .agg #[.slice none 0 0, .int .i64 0], .int .i64 0], []⟩ 8 (by kernel_rfl) (by kernel_rfl) (by kernel_rfl) (by kernel_rfl)) ?_
  intro W base args ds gs before hval0 hW hcnd _
  have hval : ∀ (j : Nat) t v, Try.f5.params[j]? = some t → args[j]? = some v → Value.okWide Try.prog W .any base t v := hval0
  have hW' := hW
  obtain ⟨p, q, hA0, hV, rfl, hfz, hnd⟩ := hW
  have hA : DataW.TrodAll enc Try.prog W 0 (fun _ => true) true Try.f5.params.toList args.toList ds p := hA0
  rw [Try.params5] at hA hval
  obtain ⟨v0, vs0, d0, ds0, p0, q0, hargs, rfl, rfl, h0, r0⟩ := trodAll_cons hA
  obtain ⟨v1, vs1, d1, ds1, p1, q1, rfl, rfl, rfl, h1, r1⟩ := trodAll_cons r0
  obtain ⟨v2, vs2, d2, ds2, p2, q2, rfl, rfl, rfl, h2, r2⟩ := trodAll_cons r1
  obtain ⟨rfl, rfl, rfl⟩ := trodAll_nil r2
  obtain rfl : args = #[v0, v1, v2] := by cases args; simp_all
  obtain ⟨rfl, rfl⟩ := trodVars_none hV
  have k0 := h0
  have lt0 : ∀ x ∈ p0, x.block < W.heap.size := by obtain ⟨m, hm⟩ := k0; exact DataW.trod_lt m _ _ _ hm
  obtain ⟨f0, o0⟩ := open_fmt (hval 0 28 v0 rfl rfl) h0
  have k1 := h1
  have lt1 : ∀ x ∈ p1, x.block < W.heap.size := by obtain ⟨m, hm⟩ := k1; exact DataW.trod_lt m _ _ _ hm
  obtain ⟨b1, l1, t1, rfl, o1⟩ := open_tape (hval 1 38 v1 rfl rfl) h1
  have k2 := h2
  have lt2 : ∀ x ∈ p2, x.block < W.heap.size := by obtain ⟨m, hm⟩ := k2; exact DataW.trod_lt m _ _ _ hm
  obtain ⟨x2, rfl, wx2⟩ := open_intV (hval 2 3 v2 rfl rfl) h2
  clear hA0 hval0
  refine (walk o0 o1 wx2).mono fun e W' ⟨he, bel⟩ => ?_
  subst he
  exact ⟨_, rfl, _, _, _, [], _, [], hW', trodAll_mk1 (shut_bool Try.underlying4 _), (trodAll_cons_mk (Below.trod laidOut (by kernel_rfl) (of_decide_eq_true (by kernel_rfl)) k0 bel lt0) (trodAll_cons_mk (Below.trod laidOut (by kernel_rfl) (of_decide_eq_true (by kernel_rfl)) k1 bel lt1) (trodAll_cons_mk (Below.trod laidOut (by kernel_rfl) (of_decide_eq_true (by kernel_rfl)) k2 bel lt2) trodAll_mk0))), rfl, bel.frame _, fun h => by cases h⟩
theorem over : Rows.frameTapesRow.holds Try.pinned (OpenSpec.ofChange Rows.frameTapesSpec) :=
  OpenClaim.holds_of_wide 5 Try.f5 rfl rfl rfl rfl rfl rfl rfl ⟨rfl, rfl, rfl, rfl, rfl⟩ rfl rfl rfl rfl rfl (by kernel_rfl) Try.func5 (by kernel_rfl)
    (of_decide_eq_true (by kernel_rfl)) (by unfold Func.isWrapper; first | (rw [if_pos (by decide +kernel)]; kernel_rfl) | (rw [if_neg (by decide +kernel)]; exact ⟨rfl, rfl⟩))
    (fun os started H enc _ => lifted os started H enc)
end FrameTapesLaw
/-- The statement. -/
theorem tapes_holds : Rows.FrameTapesSaid := FrameTapesLaw.over
end Go.Proofs.Ytjnnkcnnandeeaa
