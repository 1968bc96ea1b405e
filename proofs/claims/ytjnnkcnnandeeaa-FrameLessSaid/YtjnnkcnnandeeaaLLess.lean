/-
  Proves that with one report less no set of a number that both have is less, for any format, sky, reports and number: 'FrameLessSaid'. No conditions.
-/
import Derived.Test.YtjnnkcnnandeeaaRows
import Derived.Test.YtjnnkcnnandeeaaWLess
import Derived.Test.YtjnnkcnnandeeaaWCom
import Derived.Test.YtjnnkcnnandeeaaOpenSky
import Derived.Test.YtjnnkcnnandeeaaOpenReps
namespace Go.Proofs.Ytjnnkcnnandeeaa
open Go.ChangeShapes Go.WideShapes Go.ChangeAt Go.RowKit Go.Joins Go.Deep
section
variable {H : Type} {enc : TypeId × Value → H} {W : World}
set_option maxRecDepth 100000 in
theorem open_less {w0 : Nat} {v : Value} {d : DataW H} {p : List MemPlace} (hval : Value.okWide Try.prog W .any w0 106 v) (h : DataW.Trod enc Try.prog W 0 (fun _ => true) true 106 v d p) : ∃ z xs wh, v = .agg #[z, .int .u8 (wh : Nat)] ∧ RepsV W z xs ∧ wh < 256 := by
  obtain ⟨v0, v1, y0, y1, n, rfl, k0, k1, h0, h1⟩ := open_agg2 Try.underlying106 (by kernel_rfl) (by kernel_rfl) hval h
  obtain ⟨l, ⟨A, c, rfl, a1, a2, a3⟩, hg⟩ := open_rows (size := 5) RepX.cell (fun x : RepX => IntsV W .i64 x.2 x.1.words) Try.underlying84 (by kernel_rfl) (by omega) (fun _ _ _ h => open_rep h) h0
  obtain ⟨z1, e1, _, f1⟩ := DataW.trod_int Try.underlying5 h1
  injection e1 with e1
  subst e1
  have hb := bounds_u8 f1
  obtain ⟨wh, rfl⟩ := Int.eq_ofNat_of_zero_le hb.1
  exact ⟨_, l, wh, rfl, ⟨A, c, rfl, a1, a2, a3, hg⟩, by omega⟩
end
namespace FrameLessLaw
theorem walk {v u z : Value} {f : Fmt} {s : Sky} {xs : List RepX} {wh : Nat} {w : World} (hv : FmtV w v f) (hu : SkyV w u s) (ht : RepsV w z xs) (hwh : wh < 256) :
    Calls Try.prog 15 #[v, u, .agg #[z, .int .u8 wh]] w fun e w' => e = .returned (.bool true) ∧ Below w.heap.size w w' := less_walk hv hu ht hwh
theorem own : ownKnob Try.prog.godebug = none := by kernel_rfl
theorem laidOut : laidOutB Try.prog = true := by kernel_rfl
set_option maxRecDepth 100000 in
theorem lifted (os : Os) (started : os.Started) (H : Type) (enc : TypeId × Value → H) :
    ReturnsInHanded {} Try.checked os 15 .any (Rows.frameLessSpec.pre6 enc Try.prog Try.f15 Rows.frameLessRow.domain false) (Rows.frameLessSpec.post enc Try.prog Try.f15 false true false false) := by
  refine returnsInHanded_of_change (C := Try.checked) own started (by kernel_rfl) Try.func15
    (ChangeSpec.witness6 (enc := enc) (C := Try.checked) false ⟨#[], #[.agg #[.string ByteArray.empty, .int .i64 0, .int .i64 0, .slice none 0 0], .agg #[.slice none 0 0, .int .i64 0, .slice none 0 0], .agg #[.slice none 0 0, .int .u8 0]], []⟩ 8 (by kernel_rfl) (by kernel_rfl) (by kernel_rfl) (by kernel_rfl)) ?_
  intro W base args ds gs before hval0 hW hcnd _
  have hval : ∀ (j : Nat) t v, Try.f15.params[j]? = some t → args[j]? = some v → Value.okWide Try.prog W .any base t v := hval0
  have hW' := hW
  obtain ⟨p, q, hA0, hV, rfl, hfz, hnd⟩ := hW
  have hA : DataW.TrodAll enc Try.prog W 0 (fun _ => true) true Try.f15.params.toList args.toList ds p := hA0
  rw [Try.params15] at hA hval
  obtain ⟨v0, vs0, d0, ds0, p0, q0, hargs, rfl, rfl, h0, r0⟩ := trodAll_cons hA
  obtain ⟨v1, vs1, d1, ds1, p1, q1, rfl, rfl, rfl, h1, r1⟩ := trodAll_cons r0
  obtain ⟨v2, vs2, d2, ds2, p2, q2, rfl, rfl, rfl, h2, r2⟩ := trodAll_cons r1
  obtain ⟨rfl, rfl, rfl⟩ := trodAll_nil r2
  obtain rfl : args = #[v0, v1, v2] := by cases args; simp_all
  obtain ⟨rfl, rfl⟩ := trodVars_none hV
  have k0 := h0
  have lt0 : ∀ x ∈ p0, x.block < W.heap.size := by obtain ⟨m, hm⟩ := k0; exact DataW.trod_lt m _ _ _ hm
  obtain ⟨f0, o0⟩ := open_fmt (hval 0 28 v0 rfl rfl) h0
  have k1 := h1
  have lt1 : ∀ x ∈ p1, x.block < W.heap.size := by obtain ⟨m, hm⟩ := k1; exact DataW.trod_lt m _ _ _ hm
  obtain ⟨s1, o1, wx1⟩ := open_sky (hval 1 76 v1 rfl rfl) h1
  have k2 := h2
  have lt2 : ∀ x ∈ p2, x.block < W.heap.size := by obtain ⟨m, hm⟩ := k2; exact DataW.trod_lt m _ _ _ hm
  obtain ⟨z2, xs2, wh2, rfl, o2, wx2⟩ := open_less (hval 2 106 v2 rfl rfl) h2
  clear hA0 hval0
  refine (walk o0 o1 o2 wx2).mono fun e W' ⟨he, bel⟩ => ?_
  subst he
  exact ⟨_, rfl, _, _, _, [], _, [], hW', trodAll_mk1 (shut_bool Try.underlying4 _), (trodAll_cons_mk (Below.trod laidOut (by kernel_rfl) (of_decide_eq_true (by kernel_rfl)) k0 bel lt0) (trodAll_cons_mk (Below.trod laidOut (by kernel_rfl) (of_decide_eq_true (by kernel_rfl)) k1 bel lt1) (trodAll_cons_mk (Below.trod laidOut (by kernel_rfl) (of_decide_eq_true (by kernel_rfl)) k2 bel lt2) trodAll_mk0))), rfl, bel.frame _, fun h => by cases h⟩
theorem over : Rows.frameLessRow.holds Try.pinned (OpenSpec.ofChange Rows.frameLessSpec) :=
  OpenClaim.holds_of_wide 15 Try.f15 rfl rfl rfl rfl rfl rfl rfl ⟨rfl, rfl, rfl, rfl, rfl⟩ rfl rfl rfl rfl rfl (by kernel_rfl) Try.func15 (by kernel_rfl)
    (of_decide_eq_true (by kernel_rfl)) (by unfold Func.isWrapper; first | (rw [if_pos (by decide +kernel)]; kernel_rfl) | (rw [if_neg (by decide +kernel)]; exact ⟨rfl, rfl⟩))
    (fun os started H enc _ => lifted os started H enc)
end FrameLessLaw
/-- The statement. -/
theorem less_holds : Rows.FrameLessSaid := FrameLessLaw.over
end Go.Proofs.Ytjnnkcnnandeeaa
