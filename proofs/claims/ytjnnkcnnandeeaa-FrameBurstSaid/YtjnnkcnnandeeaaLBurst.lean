/-
  Proves that a frame in which bits were changed, of which the first and the last one are at most 15 apart, is not decoded as a frame, for any format, frame and bits: 'FrameBurstSaid'. No conditions.
-/
import Derived.Test.YtjnnkcnnandeeaaRows
import Derived.Test.YtjnnkcnnandeeaaWBurst
import Derived.Test.YtjnnkcnnandeeaaOpenSent
namespace Go.Proofs.Ytjnnkcnnandeeaa
open Go.ChangeShapes Go.WideShapes Go.ChangeAt Go.RowKit Go.Joins Go.Deep
section
variable {H : Type} {enc : TypeId × Value → H} {W : World}
theorem nat_of_u16 {z : Int} (h : (Lit.int .u16 z).wf = true) : ∃ n : Nat, z = n ∧ n < 65536 := by
  have := bounds_u16 h
  exact ⟨z.toNat, by omega, by omega⟩
set_option maxRecDepth 100000 in
theorem open_burst {w0 : Nat} {v : Value} {d : DataW H} {p : List MemPlace} (hval : Value.okWide Try.prog W .any w0 67 v) (h : DataW.Trod enc Try.prog W 0 (fun _ => true) true 67 v d p) : ∃ x, BurstV W v x := by
  obtain ⟨v0, v1, v2, v3, y0, y1, y2, y3, n, rfl, _, _, h0, h1, h2, h3⟩ := open_agg4 Try.underlying67 (by kernel_rfl) (by kernel_rfl) hval h
  obtain ⟨z0, e0, _, f0⟩ := DataW.trod_int Try.underlying65 h0
  obtain ⟨z2, e2, _, f2⟩ := DataW.trod_int Try.underlying65 h2
  obtain ⟨z3, e3, _, f3⟩ := DataW.trod_int Try.underlying65 h3
  injection e0 with e0
  injection e2 with e2
  injection e3 with e3
  subst e0 e2 e3
  obtain ⟨a1, l1, c1, zs1, rfl, r1⟩ := open_ints' (fun _ => rfl) Try.underlying53 Try.underlying65 (by kernel_rfl) h1
  obtain ⟨n0, rfl, g0⟩ := nat_of_u16 f0
  obtain ⟨n2, rfl, g2⟩ := nat_of_u16 f2
  obtain ⟨n3, rfl, g3⟩ := nat_of_u16 f3
  exact ⟨⟨n0, zs1.take l1, n2, n3⟩, g0, g2, g3, r1.u16, _, rfl, r1.ints⟩
end
namespace FrameBurstLaw
theorem own : ownKnob Try.prog.godebug = none := by kernel_rfl
theorem laidOut : laidOutB Try.prog = true := by kernel_rfl
set_option maxRecDepth 100000 in
theorem lifted (os : Os) (started : os.Started) (H : Type) (enc : TypeId × Value → H) :
    ReturnsInHanded {} Try.checked os 9 .any (Rows.frameBurstSpec.pre6 enc Try.prog Try.f9 Rows.frameBurstRow.domain false) (Rows.frameBurstSpec.post enc Try.prog Try.f9 false true false false) := by
  refine returnsInHanded_of_change (C := Try.checked) own started (by kernel_rfl) Try.func9
    (ChangeSpec.witness6 (enc := enc) (C := Try.checked) false ⟨#[], #[.agg #[.string ByteArray.empty, .int .i64 0, .int .i64 0, .slice none 0 0], .agg #[.int .u16 0, .slice none 0 0, .int .u16 0, .int .u16 0]], []⟩ 8 (by kernel_rfl) (by kernel_rfl) (by kernel_rfl) (by kernel_rfl)) ?_
  intro W base args ds gs before hval0 hW hcnd _
  have hval : ∀ (j : Nat) t v, Try.f9.params[j]? = some t → args[j]? = some v → Value.okWide Try.prog W .any base t v := hval0
  have hW' := hW
  obtain ⟨p, q, hA0, hV, rfl, hfz, hnd⟩ := hW
  have hA : DataW.TrodAll enc Try.prog W 0 (fun _ => true) true Try.f9.params.toList args.toList ds p := hA0
  rw [Try.params9] at hA hval
  obtain ⟨v0, vs0, d0, ds0, p0, q0, hargs, rfl, rfl, h0, r0⟩ := trodAll_cons hA
  obtain ⟨v1, vs1, d1, ds1, p1, q1, rfl, rfl, rfl, h1, r1⟩ := trodAll_cons r0
  obtain ⟨rfl, rfl, rfl⟩ := trodAll_nil r1
  obtain rfl : args = #[v0, v1] := by cases args; simp_all
  obtain ⟨rfl, rfl⟩ := trodVars_none hV
  have k0 := h0
  have lt0 : ∀ x ∈ p0, x.block < W.heap.size := by obtain ⟨m, hm⟩ := k0; exact DataW.trod_lt m _ _ _ hm
  obtain ⟨f0, o0⟩ := open_fmt (hval 0 28 v0 rfl rfl) h0
  have k1 := h1
  have lt1 : ∀ x ∈ p1, x.block < W.heap.size := by obtain ⟨m, hm⟩ := k1; exact DataW.trod_lt m _ _ _ hm
  obtain ⟨l1, o1⟩ := open_burst (hval 1 67 v1 rfl rfl) h1
  clear hA0 hval0
  refine (walk o0 o1).mono fun e W' ⟨he, bel⟩ => ?_
  subst he
  exact ⟨_, rfl, _, _, _, [], _, [], hW', trodAll_mk1 (shut_bool Try.underlying4 _), (trodAll_cons_mk (Below.trod laidOut (by kernel_rfl) (of_decide_eq_true (by kernel_rfl)) k0 bel lt0) (trodAll_cons_mk (Below.trod laidOut (by kernel_rfl) (of_decide_eq_true (by kernel_rfl)) k1 bel lt1) trodAll_mk0)), rfl, bel.frame _, fun h => by cases h⟩
theorem over : Rows.frameBurstRow.holds Try.pinned (OpenSpec.ofChange Rows.frameBurstSpec) :=
  OpenClaim.holds_of_wide 9 Try.f9 rfl rfl rfl rfl rfl rfl rfl ⟨rfl, rfl, rfl, rfl, rfl⟩ rfl rfl rfl rfl rfl (by kernel_rfl) Try.func9 (by kernel_rfl)
    (of_decide_eq_true (by kernel_rfl)) (by unfold Func.isWrapper; first | (rw [if_pos (by decide +kernel)]; kernel_rfl) | (rw [if_neg (by decide +kernel)]; exact ⟨rfl, rfl⟩))
    (fun os started H enc _ => lifted os started H enc)
end FrameBurstLaw
/-- The statement. -/
theorem burst_holds : Rows.FrameBurstSaid := FrameBurstLaw.over
end Go.Proofs.Ytjnnkcnnandeeaa
