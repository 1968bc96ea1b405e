/-
  Proves that Decode returns what the reference's returns, for any format and bytes, and that Awake holds: 'FrameDecodesSaid'. No conditions.
-/
import Derived.Test.YtjnnkcnnandeeaaRows
import Derived.Test.YtjnnkcnnandeeaaWAwake
import Derived.Test.YtjnnkcnnandeeaaWDecode
import Derived.Test.YtjnnkcnnandeeaaWSame
import Derived.Test.YtjnnkcnnandeeaaOpens
namespace Go.Proofs.Ytjnnkcnnandeeaa
open Go.ChangeShapes Go.WideShapes Go.ChangeAt Go.RowKit
namespace FrameDecodesLaw
set_option maxRecDepth 100000 in
set_option maxHeartbeats 1000000 in
theorem walk {v b : Value} {f : Fmt} {l : List Nat} {w : World} (hv : FmtV w v f) (hb : BytesV w b l) :
    Calls Try.prog 6 #[v, b] w fun e w' => e = .returned (.bool true) ∧ Below w.heap.size w w' := by
  have HV := hide hv
  have HB := hide hb
  obtain ⟨_, _, A, cap, rfl, _, _, _⟩ := hv
  have HX0 := hide ((Ext.refl w).alloc (.cells #[.string f.sync, .int .i64 f.words, .int .i64 f.depth, .slice A f.channels.length cap] 28))
  have HC1 := hide (fun W (hx : Ext w W) => decode_any _ b f l W (HV.out.ext hx) (HB.out.ext hx))
  have HC2 := hide (fun W (hx : Ext w W) => refDecode_any _ b f l W (HV.out.ext hx) (HB.out.ext hx))
  have HBX := hide (fun W' (hx : Ext (w.alloc (.cells #[.string f.sync, .int .i64 f.words, .int .i64 f.depth, .slice A f.channels.length cap] 28)) W') => box4 w (.string f.sync) (.int .i64 f.words) (.int .i64 f.depth) (.slice A f.channels.length cap) 28 hx)
  have HA := hide awake_any
  unfold DecR at HC1 HC2
  generalize decErr f l.length = de at *
  go_enter Try.func6, Try.ntmps6
  go_wp2_with fail
  refine (HC1.out _ HX0.out).mono ?_
  rintro e w1 ⟨lv, gv, rfl, h1, h2, hx1⟩
  obtain ⟨g0, g1, g2, g3⟩ := HBX.out _ hx1
  have HX1 := hide (HX0.out.trans hx1)
  have H1 := hide h1
  have H2 := hide h2
  clear hx1 h1 h2
  go_wp2_with fail
  refine (HC2.out _ HX1.out).mono ?_
  rintro e w2 ⟨lv', gv', rfl, h1', h2', hx2⟩
  have HX2 := hide (HX1.out.trans hx2)
  have hcase : ∃ xs ys gs, FrsV w2 lv xs ∧ FrsV w2 lv' ys ∧ ds xs = ds ys ∧ GapsV w2 gv gs ∧ GapsV w2 gv' gs := by
    by_cases hz : de = 0
    · obtain ⟨xs, e1, f1, k1⟩ := H1.out hz
      obtain ⟨ys, e2, f2, k2⟩ := h1' hz
      exact ⟨xs, ys, _, f1.ext hx2, f2, e1.trans e2.symm, k1.ext hx2, k2⟩
    · obtain ⟨rfl, rfl⟩ := H2.out hz
      obtain ⟨rfl, rfl⟩ := h2' hz
      have hn : FrsV w2 (.slice none 0 0) [] := ⟨none, 0, rfl, Nat.le_refl _, by simp [maxLen], fun h => absurd h (by simp), fun x h => absurd h (by simp)⟩
      exact ⟨[], [], [], hn, hn, rfl, GapsV.nil _, GapsV.nil _⟩
  obtain ⟨xs, ys, gs, f1, f2, e, k1, k2⟩ := hcase
  have HS := hide (sameFrames_any _ _ _ _ _ f1 f2 e)
  have HG := hide (fun W (hx : Ext w2 W) => sameGaps_any _ _ _ W (k1.ext hx) (k2.ext hx))
  clear hx2 h1' h2' f1 f2 e k1 k2 g0 g1 g2 g3
  go_wp2_with first
    | (go_at_call 33; refine Calls.mono HS.out ?_; rintro e w3 ⟨rfl, hx3⟩)
    | (go_at_call 34; refine (HG.out _ hx3).mono ?_; rintro e w4 ⟨rfl, hx4⟩)
    | (go_at_call 21; refine (HA.out _).mono ?_; rintro e w5 ⟨rfl, hx5⟩)
  go_ret
  exact ⟨rfl, ((HX2.out.trans hx3).trans hx4).trans hx5⟩
theorem own : ownKnob Try.prog.godebug = none := by kernel_rfl
theorem laidOut : laidOutB Try.prog = true := by kernel_rfl
set_option maxRecDepth 100000 in
theorem lifted (os : Os) (started : os.Started) (H : Type) (enc : TypeId × Value → H) :
    ReturnsInHanded {} Try.checked os 6 .any (Rows.frameDecodesSpec.pre6 enc Try.prog Try.f6 Rows.frameDecodesRow.domain false) (Rows.frameDecodesSpec.post enc Try.prog Try.f6 false true false false) := by
  refine returnsInHanded_of_change (C := Try.checked) own started (by kernel_rfl) Try.func6
    (ChangeSpec.witness6 (enc := enc) (C := Try.checked) false ⟨#[], #[.agg #[.string ByteArray.empty, .int .i64 0, .int .i64 0, .slice none 0 0], .slice none 0 0], []⟩ 8 (by kernel_rfl) (by kernel_rfl) (by kernel_rfl) (by kernel_rfl)) ?_
  intro W base args ds gs before hval0 hW hcnd _
  have hval : ∀ (j : Nat) t v, Try.f6.params[j]? = some t → args[j]? = some v → Value.okWide Try.prog W .any base t v := hval0
  have hW' := hW
  obtain ⟨p, q, hA0, hV, rfl, hfz, hnd⟩ := hW
  have hA : DataW.TrodAll enc Try.prog W 0 (fun _ => true) true Try.f6.params.toList args.toList ds p := hA0
  rw [Try.params6] at hA hval
  obtain ⟨v0, vs0, d0, ds0, p0, q0, hargs, rfl, rfl, h0, r0⟩ := trodAll_cons hA
  obtain ⟨v1, vs1, d1, ds1, p1, q1, rfl, rfl, rfl, h1, r1⟩ := trodAll_cons r0
  obtain ⟨rfl, rfl, rfl⟩ := trodAll_nil r1
  obtain rfl : args = #[v0, v1] := by cases args; simp_all
  obtain ⟨rfl, rfl⟩ := trodVars_none hV
  have k0 := h0
  have lt0 : ∀ x ∈ p0, x.block < W.heap.size := by obtain ⟨m, hm⟩ := k0; exact DataW.trod_lt m _ _ _ hm
  obtain ⟨f0, o0⟩ := open_fmt (hval 0 28 v0 rfl rfl) h0
  have k1 := h1
  have lt1 : ∀ x ∈ p1, x.block < W.heap.size := by obtain ⟨m, hm⟩ := k1; exact DataW.trod_lt m _ _ _ hm
  obtain ⟨l1, o1⟩ := open_bytesV (hval 1 22 v1 rfl rfl) h1
  clear hA0 hval0
  refine (walk o0 o1).mono fun e W' ⟨he, bel⟩ => ?_
  subst he
  exact ⟨_, rfl, _, _, _, [], _, [], hW', trodAll_mk1 (shut_bool Try.underlying4 _), (trodAll_cons_mk (Below.trod laidOut (by kernel_rfl) (of_decide_eq_true (by kernel_rfl)) k0 bel lt0) (trodAll_cons_mk (Below.trod laidOut (by kernel_rfl) (of_decide_eq_true (by kernel_rfl)) k1 bel lt1) trodAll_mk0)), rfl, bel.frame _, fun h => by cases h⟩
theorem over : Rows.frameDecodesRow.holds Try.pinned (OpenSpec.ofChange Rows.frameDecodesSpec) :=
  OpenClaim.holds_of_wide 6 Try.f6 rfl rfl rfl rfl rfl rfl rfl ⟨rfl, rfl, rfl, rfl, rfl⟩ rfl rfl rfl rfl rfl (by kernel_rfl) Try.func6 (by kernel_rfl)
    (of_decide_eq_true (by kernel_rfl)) (by unfold Func.isWrapper; first | (rw [if_pos (by decide +kernel)]; kernel_rfl) | (rw [if_neg (by decide +kernel)]; exact ⟨rfl, rfl⟩))
    (fun os started H enc _ => lifted os started H enc)
end FrameDecodesLaw
/-- The statement. -/
theorem decodes_holds : Rows.FrameDecodesSaid := FrameDecodesLaw.over
end Go.Proofs.Ytjnnkcnnandeeaa
