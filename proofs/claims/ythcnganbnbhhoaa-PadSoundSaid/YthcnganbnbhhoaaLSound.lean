/-
  Proves that an act that is not refused leads to a sound state without dangers, at its tick, for any pad, state and act: 'PadSoundSaid'. No conditions.
-/
import Derived.Test.YthcnganbnbhhoaaRows
import Derived.Test.YthcnganbnbhhoaaLawP
import Derived.Test.YthcnganbnbhhoaaKept
import Derived.Test.YthcnganbnbhhoaaFew
import Derived.Test.YthcnganbnbhhoaaDanger
import Derived.Test.YthcnganbnbhhoaaAwake
import Derived.Test.YthcnganbnbhhoaaOpen
import Derived.SizedLaws
import Derived.Deep.Cut
namespace Go.Proofs.Ythcnganbnbhhoaa
open Go.ChangeShapes Go.WideShapes Go.ChangeAt Go.RowKit Go.Shelf
theorem Blk.threeS (w : World) (t t' t'' : TypeId) (cs ds es : Array Value) : Ext w (((w.alloc (.cells cs t)).alloc (.cells ds t')).alloc (.cells es t'')) ∧ Blk (((w.alloc (.cells cs t)).alloc (.cells ds t')).alloc (.cells es t'')) w.heap.size t cs ∧ Blk (((w.alloc (.cells cs t)).alloc (.cells ds t')).alloc (.cells es t'')) (w.heap.size + 1) t' ds ∧ Blk (((w.alloc (.cells cs t)).alloc (.cells ds t')).alloc (.cells es t'')) (w.heap.size + 1 + 1) t'' es := by
 refine ⟨(((Ext.refl _).alloc _).alloc _).alloc _, (Blk.new w t cs).ext (((Ext.refl _).alloc _).alloc _), ?_, ?_⟩
 ·have := (Blk.new (w.alloc (.cells cs t)) t' ds).ext ((Ext.refl _).alloc (.cells es t''))
  rwa [World.size_alloc] at this
 ·have := Blk.new ((w.alloc (.cells cs t)).alloc (.cells ds t')) t'' es
  rwa [World.size_alloc, World.size_alloc] at this
theorem doE_act {p : Pad} {s : State} {a : PAct} (h : doE p s a = 0) : ActOk p a := actOk_of (doE_zero h).2.1
namespace PadSoundLaw
set_option maxRecDepth 100000 in
set_option maxHeartbeats 4000000 in
theorem walk {v sv : Value} {p : Pad} {s : State} {w : World} (hv : PadV w v p) (hs : StateV w sv s) (hf : s.Fits) (a : PAct) :
 Calls Try.prog 14 #[v, sv, a.val] w fun e w' => e = .returned (.bool true) ∧ Below w.heap.size w w' := by
 have HDO := hide (fun V (hx : Ext w V) => doA_any v sv p s a V (hv.ext hx) (hs.ext hx) hf)
 have HDG := hide (fun V (hx : Ext w V) (u : Value) (x : State) (h : StateV V u x) hfx h0 => danger_none (hv.ext hx) h hfx h0)
 have HCS := hide (fun V (hx : Ext w V) (u : Value) (x : State) (h : StateV V u x) hfx => checkState_any v u p x V (hv.ext hx) h hfx)
 have HFW := hide (fun V (hx : Ext w V) (u : Value) (x : State) (h : StateV V u x) h1 h2 => few_any (hv.ext hx) h h1 h2)
 obtain ⟨X, rfl, hX⟩ := padV_iff.1 hv
 obtain ⟨az, cz, ad, cd, ap, cp, ak, ck, aq, cq⟩ := X
 obtain ⟨A1, c1, A2, c2, A3, c3, rfl, _⟩ := stateV_rows.1 hs
 unfold PadX.cells at HDO HDG HCS HFW ⊢
 unfold PAct.val
 dsimp only at HDO HDG HCS HFW ⊢
 clear hv hs hX hf
 go_enter Try.func14, Try.ntmps14
 go_wp2_with fail
 have HBOX := hide (Blk.threeS w 28 38 48 #[.slice az p.zones.length cz, .slice ad p.doors.length cd, .slice ap p.people.length cp, .slice ak p.keys.length ck, .slice aq p.squibs.length cq, .int .i64 p.panel, .int .i64 p.wait] #[.int .i64 s.now, .slice A1 s.zones.length c1, .slice A2 s.holder.length c2, .slice A3 s.squibs.length c3, .int .i64 s.siren, .bool s.storm] #[.int .i64 a.at_, .int .i64 a.kind, .int .i64 a.who, .int .i64 a.what, .int .i64 a.with_])
 obtain ⟨W1, hW1⟩ : ∃ V, ((w.alloc (.cells #[.slice az p.zones.length cz, .slice ad p.doors.length cd, .slice ap p.people.length cp, .slice ak p.keys.length ck, .slice aq p.squibs.length cq, .int .i64 p.panel, .int .i64 p.wait] 28)).alloc (.cells #[.int .i64 s.now, .slice A1 s.zones.length c1, .slice A2 s.holder.length c2, .slice A3 s.squibs.length c3, .int .i64 s.siren, .bool s.storm] 38)).alloc (.cells #[.int .i64 a.at_, .int .i64 a.kind, .int .i64 a.who, .int .i64 a.what, .int .i64 a.with_] 48) = V := ⟨_, rfl⟩
 rw [hW1] at HBOX ⊢
 obtain ⟨HX, HP, HS, HA⟩ := HBOX.out
 clear HBOX hW1
 have HX := hide HX
 have HP := hide HP
 have HS := hide HS
 have HA := hide HA
 have p0 := cell_heap HP.out 0 _ rfl
 have p1 := cell_heap HP.out 1 _ rfl
 have p2 := cell_heap HP.out 2 _ rfl
 have p3 := cell_heap HP.out 3 _ rfl
 have p4 := cell_heap HP.out 4 _ rfl
 have p5 := cell_heap HP.out 5 _ rfl
 have p6 := cell_heap HP.out 6 _ rfl
 have s0 := cell_heap HS.out 0 _ rfl
 have s1 := cell_heap HS.out 1 _ rfl
 have s2 := cell_heap HS.out 2 _ rfl
 have s3 := cell_heap HS.out 3 _ rfl
 have s4 := cell_heap HS.out 4 _ rfl
 have s5 := cell_heap HS.out 5 _ rfl
 have a0 := cell_heap HA.out 0 _ rfl
 have a1 := cell_heap HA.out 1 _ rfl
 have a2 := cell_heap HA.out 2 _ rfl
 have a3 := cell_heap HA.out 3 _ rfl
 have a4 := cell_heap HA.out 4 _ rfl
 go_wp2_with fail
 clear p0 p1 p2 p3 p4 p5 p6 s0 s1 s2 s3 s4 s5 a0 a1 a2 a3 a4
 refine Calls.mono (HDO.out _ HX.out) ?_
 rintro e w3 ⟨u, rfl, hu, hx⟩
 obtain ⟨F, hF⟩ : ∃ F, doE p s a = F := ⟨_, rfl⟩
 have HF := hide hF
 rw [hF]
 obtain ⟨XD, hxx⟩ : ∃ x, doS p s a = x := ⟨_, rfl⟩
 have HXX := hide hxx
 rw [hxx] at hu
 have HU := hide hu.v
 obtain ⟨D1, f1, D2, f2, D3, f3, rfl, _⟩ := hu
 have HX3a := hide (HX.out.trans hx)
 have HP3a := hide (HP.out.ext hx)
 have HS3a := hide (HS.out.ext hx)
 have HA3a := hide (HA.out.ext hx)
 clear hx hF hxx HX HP HS HA HDO
 go_upto_region 2 with (fail)
 obtain ⟨W3, hW3⟩ : ∃ V, w3.alloc (.cells #[.int .i64 XD.now, .slice D1 XD.zones.length f1, .slice D2 XD.holder.length f2, .slice D3 XD.squibs.length f3, .int .i64 XD.siren, .bool XD.storm] 38) = V := ⟨_, rfl⟩
 have hx3 : Ext w3 W3 := by rw [← hW3]; exact (Ext.refl _).alloc _
 have HB := hide (show Blk W3 w3.heap.size 38 #[.int .i64 XD.now, .slice D1 XD.zones.length f1, .slice D2 XD.holder.length f2, .slice D3 XD.squibs.length f3, .int .i64 XD.siren, .bool XD.storm] by rw [← hW3]; exact Blk.new _ _ _)
 rw [hW3]
 have HX3 := hide (HX3a.out.trans hx3)
 have HP3 := hide (HP3a.out.ext hx3)
 have HS3 := hide (HS3a.out.ext hx3)
 have HA3 := hide (HA3a.out.ext hx3)
 replace HU := hide (HU.out.ext hx3)
 clear hx3 hW3 HX3a HP3a HS3a HA3a
 by_cases f0 : F = 0
 ·subst f0
  have HDZ := hide (doE_zero HF.out)
  have HAO := hide (doE_act HF.out)
  have HXS := hide (show doneS p s a = XD by rw [← HXX.out]; exact (doS_eq HF.out).symm)
  have HSX := hide (stateE_done HDZ.out.1 HAO.out HDZ.out.2.2)
  have HMR := hide (moves_rest HAO.out HDZ.out.2.2).2.2
  have HDN := hide (done_zero HDZ.out.2.2).1
  rw [HXS.out] at HSX HMR
  have HSO := hide (stateE_t.1 HSX.out)
  have HFX := hide (fits_ok (padOk_of HSO.out.1) HSO.out.2.1)
  have t1 : (XD.now == a.at_) = true := by rw [HMR.out]; simp
  have t2 : decide (s.now ≤ a.at_) = true := decide_eq_true HDN.out
  have p0 := cell_heap HP3.out 0 _ rfl
  have p1 := cell_heap HP3.out 1 _ rfl
  have p2 := cell_heap HP3.out 2 _ rfl
  have p3 := cell_heap HP3.out 3 _ rfl
  have p4 := cell_heap HP3.out 4 _ rfl
  have p5 := cell_heap HP3.out 5 _ rfl
  have p6 := cell_heap HP3.out 6 _ rfl
  have s0 := cell_heap HS3.out 0 _ rfl
  have s1 := cell_heap HS3.out 1 _ rfl
  have s2 := cell_heap HS3.out 2 _ rfl
  have s3 := cell_heap HS3.out 3 _ rfl
  have s4 := cell_heap HS3.out 4 _ rfl
  have s5 := cell_heap HS3.out 5 _ rfl
  have a0 := cell_heap HA3.out 0 _ rfl
  have a1 := cell_heap HA3.out 1 _ rfl
  have a2 := cell_heap HA3.out 2 _ rfl
  have a3 := cell_heap HA3.out 3 _ rfl
  have a4 := cell_heap HA3.out 4 _ rfl
  have b0 := cell_heap HB.out 0 _ rfl
  have b1 := cell_heap HB.out 1 _ rfl
  have b2 := cell_heap HB.out 2 _ rfl
  have b3 := cell_heap HB.out 3 _ rfl
  have b4 := cell_heap HB.out 4 _ rfl
  have b5 := cell_heap HB.out 5 _ rfl
  go_wp2_with fail
  refine Calls.mono (HDG.out _ HX3.out _ XD HU.out HFX.out HSX.out) ?_
  rintro e w4 ⟨rfl, hx⟩
  have HX4 := hide (HX3.out.trans hx)
  have HP4 := hide (HP3.out.ext hx)
  have HS4 := hide (HS3.out.ext hx)
  have HA4 := hide (HA3.out.ext hx)
  have HB4 := hide (HB.out.ext hx)
  replace HU := hide (HU.out.ext hx)
  clear hx HX3 HP3 HS3 HA3 HB p0 p1 p2 p3 p4 p5 p6 s0 s1 s2 s3 s4 s5 a0 a1 a2 a3 a4 b0 b1 b2 b3 b4 b5
  have p0 := cell_heap HP4.out 0 _ rfl
  have p1 := cell_heap HP4.out 1 _ rfl
  have p2 := cell_heap HP4.out 2 _ rfl
  have p3 := cell_heap HP4.out 3 _ rfl
  have p4 := cell_heap HP4.out 4 _ rfl
  have p5 := cell_heap HP4.out 5 _ rfl
  have p6 := cell_heap HP4.out 6 _ rfl
  have s0 := cell_heap HS4.out 0 _ rfl
  have s1 := cell_heap HS4.out 1 _ rfl
  have s2 := cell_heap HS4.out 2 _ rfl
  have s3 := cell_heap HS4.out 3 _ rfl
  have s4 := cell_heap HS4.out 4 _ rfl
  have s5 := cell_heap HS4.out 5 _ rfl
  have a0 := cell_heap HA4.out 0 _ rfl
  have a1 := cell_heap HA4.out 1 _ rfl
  have a2 := cell_heap HA4.out 2 _ rfl
  have a3 := cell_heap HA4.out 3 _ rfl
  have a4 := cell_heap HA4.out 4 _ rfl
  have b0 := cell_heap HB4.out 0 _ rfl
  have b1 := cell_heap HB4.out 1 _ rfl
  have b2 := cell_heap HB4.out 2 _ rfl
  have b3 := cell_heap HB4.out 3 _ rfl
  have b4 := cell_heap HB4.out 4 _ rfl
  have b5 := cell_heap HB4.out 5 _ rfl
  go_wp2_with fail
  refine Calls.mono (HCS.out _ HX4.out _ XD HU.out HFX.out) ?_
  rintro e w5 ⟨rfl, hx⟩
  rw [HSX.out]
  have HX5 := hide (HX4.out.trans hx)
  have HP5 := hide (HP4.out.ext hx)
  have HS5 := hide (HS4.out.ext hx)
  have HA5 := hide (HA4.out.ext hx)
  have HB5 := hide (HB4.out.ext hx)
  replace HU := hide (HU.out.ext hx)
  clear hx HX4 HP4 HS4 HA4 HB4 p0 p1 p2 p3 p4 p5 p6 s0 s1 s2 s3 s4 s5 a0 a1 a2 a3 a4 b0 b1 b2 b3 b4 b5
  have p0 := cell_heap HP5.out 0 _ rfl
  have p1 := cell_heap HP5.out 1 _ rfl
  have p2 := cell_heap HP5.out 2 _ rfl
  have p3 := cell_heap HP5.out 3 _ rfl
  have p4 := cell_heap HP5.out 4 _ rfl
  have p5 := cell_heap HP5.out 5 _ rfl
  have p6 := cell_heap HP5.out 6 _ rfl
  have s0 := cell_heap HS5.out 0 _ rfl
  have s1 := cell_heap HS5.out 1 _ rfl
  have s2 := cell_heap HS5.out 2 _ rfl
  have s3 := cell_heap HS5.out 3 _ rfl
  have s4 := cell_heap HS5.out 4 _ rfl
  have s5 := cell_heap HS5.out 5 _ rfl
  have a0 := cell_heap HA5.out 0 _ rfl
  have a1 := cell_heap HA5.out 1 _ rfl
  have a2 := cell_heap HA5.out 2 _ rfl
  have a3 := cell_heap HA5.out 3 _ rfl
  have a4 := cell_heap HA5.out 4 _ rfl
  have b0 := cell_heap HB5.out 0 _ rfl
  have b1 := cell_heap HB5.out 1 _ rfl
  have b2 := cell_heap HB5.out 2 _ rfl
  have b3 := cell_heap HB5.out 3 _ rfl
  have b4 := cell_heap HB5.out 4 _ rfl
  have b5 := cell_heap HB5.out 5 _ rfl
  go_wp2_with fail
  refine Calls.mono (HFW.out _ HX5.out _ XD HU.out HSO.out.2.1 HSO.out.2.2) ?_
  rintro e w6 ⟨rfl, hx⟩
  have HX6 := hide (HX5.out.trans hx)
  have HP6 := hide (HP5.out.ext hx)
  have HS6 := hide (HS5.out.ext hx)
  have HA6 := hide (HA5.out.ext hx)
  have HB6 := hide (HB5.out.ext hx)
  clear hx HX5 HP5 HS5 HA5 HB5 p0 p1 p2 p3 p4 p5 p6 s0 s1 s2 s3 s4 s5 a0 a1 a2 a3 a4 b0 b1 b2 b3 b4 b5
  have p0 := cell_heap HP6.out 0 _ rfl
  have p1 := cell_heap HP6.out 1 _ rfl
  have p2 := cell_heap HP6.out 2 _ rfl
  have p3 := cell_heap HP6.out 3 _ rfl
  have p4 := cell_heap HP6.out 4 _ rfl
  have p5 := cell_heap HP6.out 5 _ rfl
  have p6 := cell_heap HP6.out 6 _ rfl
  have s0 := cell_heap HS6.out 0 _ rfl
  have s1 := cell_heap HS6.out 1 _ rfl
  have s2 := cell_heap HS6.out 2 _ rfl
  have s3 := cell_heap HS6.out 3 _ rfl
  have s4 := cell_heap HS6.out 4 _ rfl
  have s5 := cell_heap HS6.out 5 _ rfl
  have a0 := cell_heap HA6.out 0 _ rfl
  have a1 := cell_heap HA6.out 1 _ rfl
  have a2 := cell_heap HA6.out 2 _ rfl
  have a3 := cell_heap HA6.out 3 _ rfl
  have a4 := cell_heap HA6.out 4 _ rfl
  have b0 := cell_heap HB6.out 0 _ rfl
  have b1 := cell_heap HB6.out 1 _ rfl
  have b2 := cell_heap HB6.out 2 _ rfl
  have b3 := cell_heap HB6.out 3 _ rfl
  have b4 := cell_heap HB6.out 4 _ rfl
  have b5 := cell_heap HB6.out 5 _ rfl
  go_wp2_with fail
  refine (awake_any _).mono ?_
  rintro e w9 ⟨rfl, hx9⟩
  have HX9 := hide (HX6.out.trans hx9)
  clear hx9
  go_wp2_with fail
  go_ret
  exact ⟨rfl, HX9.out⟩
 ·have HXZ := hide (show XD = zeroS by rw [← HXX.out]; exact doS_ne (by rw [HF.out]; exact f0))
  have hne : (F != 0) = true := by simpa using f0
  have HSM := hide (fun V (hV : Ext W3 V) => same_self (.agg #[.int .i64 XD.now, .slice D1 XD.zones.length f1, .slice D2 XD.holder.length f2, .slice D3 XD.squibs.length f3, .int .i64 XD.siren, .bool XD.storm]) (.agg #[.int .i64 0, .slice none 0 0, .slice none 0 0, .slice none 0 0, .int .i64 0, .bool false]) XD V (HU.out.ext hV) (by rw [HXZ.out]; exact (stateO_zero V 0).v))
  have b0 := cell_heap HB.out 0 _ rfl
  have b1 := cell_heap HB.out 1 _ rfl
  have b2 := cell_heap HB.out 2 _ rfl
  have b3 := cell_heap HB.out 3 _ rfl
  have b4 := cell_heap HB.out 4 _ rfl
  have b5 := cell_heap HB.out 5 _ rfl
  clear f0
  go_wp2_with fail
  refine Calls.mono (HSM.out _ (Ext.refl _)) ?_
  rintro e w4 ⟨rfl, hx⟩
  have HX4 := hide (HX3.out.trans hx)
  clear hx HX3 b0 b1 b2 b3 b4 b5
  go_wp2_with fail
  refine (awake_any _).mono ?_
  rintro e w9 ⟨rfl, hx9⟩
  have HX9 := hide (HX4.out.trans hx9)
  clear hx9
  go_wp2_with fail
  go_ret
  exact ⟨rfl, HX9.out⟩
theorem own : ownKnob Try.prog.godebug = none := by kernel_rfl
theorem laidOut : laidOutB Try.prog = true := by kernel_rfl
set_option maxRecDepth 100000 in
theorem lifted (os : Os) (started : os.Started) (H : Type) (enc : TypeId × Value → H) :
 ReturnsInHanded {} Try.checked os 14 .any (Rows.padSoundSpec.pre6 enc Try.prog Try.f14 Rows.padSoundRow.domain false) (Rows.padSoundSpec.post enc Try.prog Try.f14 false true false false) := by
 refine returnsInHanded_of_change_sized (C := Try.checked) own started (by kernel_rfl) Try.func14
  (ChangeSpec.witness6 (enc := enc) (C := Try.checked) false ⟨#[], #[.agg #[.slice none 0 0, .slice none 0 0, .slice none 0 0, .slice none 0 0, .slice none 0 0, .int .i64 0, .int .i64 0], .agg #[.int .i64 0, .slice none 0 0, .slice none 0 0, .slice none 0 0, .int .i64 0, .bool false], .agg #[.int .i64 0, .int .i64 0, .int .i64 0, .int .i64 0, .int .i64 0]], []⟩ 8 (by kernel_rfl) (by kernel_rfl) (by kernel_rfl) (by kernel_rfl)) ?_
 intro W base args ds gs before hval0 hW hcnd hsz0 _
 have hval : ∀ (j : Nat) t v, Try.f14.params[j]? = some t → args[j]? = some v → Value.okWide Try.prog W .any base t v := hval0
 have hsz : (DataW.weightsEach Try.prog (Try.f14.params.toList ++ Rows.padSoundSpec.plain.varTypes Try.prog) (ds ++ gs)).all (· ≤ reachBytes) = true := hsz0
 have hW' := hW
 obtain ⟨p, q, hA0, hV, rfl, hfz, hnd⟩ := hW
 have hA : DataW.TrodAll enc Try.prog W 0 (fun _ => true) true Try.f14.params.toList args.toList ds p := hA0
 rw [Try.params14] at hA hval hsz
 obtain ⟨v0, vs0, d0, ds0, p0, q0, hargs, rfl, rfl, h0, r0⟩ := trodAll_cons hA
 obtain ⟨v1, vs1, d1, ds1, p1, q1, rfl, rfl, rfl, h1, r1⟩ := trodAll_cons r0
 obtain ⟨v2, vs2, d2, ds2, p2, q2, rfl, rfl, rfl, h2, r2⟩ := trodAll_cons r1
 obtain ⟨rfl, rfl, rfl⟩ := trodAll_nil r2
 obtain rfl : args = #[v0, v1, v2] := by cases args; simp_all
 obtain ⟨rfl, rfl⟩ := trodVars_none hV
 have k0 := h0
 have lt0 : ∀ x ∈ p0, x.block < W.heap.size := by obtain ⟨m, hm⟩ := k0; exact DataW.trod_lt m _ _ _ hm
 obtain ⟨pd0, o0⟩ := open_pad (hval 0 28 v0 rfl rfl) h0
 have k1 := h1
 have lt1 : ∀ x ∈ p1, x.block < W.heap.size := by obtain ⟨m, hm⟩ := k1; exact DataW.trod_lt m _ _ _ hm
 obtain ⟨s1, o1, f1⟩ := open_state (hval 1 38 v1 rfl rfl) h1
 have k2 := h2
 have lt2 : ∀ x ∈ p2, x.block < W.heap.size := by obtain ⟨m, hm⟩ := k2; exact DataW.trod_lt m _ _ _ hm
 obtain ⟨a2, rfl⟩ := open_actV (hval 2 48 v2 rfl rfl) h2
 clear hA0 hval0 hsz0
 refine (walk o0 o1 (f1 fun m hm => by have := List.all_eq_true.1 hsz m (DataW.weights_mem_each (j := 1) (t := 38) rfl rfl m hm); simpa using this) a2).mono fun e W' ⟨he, bel⟩ => ?_
 subst he
 exact ⟨_, rfl, _, _, _, [], _, [], hW', trodAll_mk1 (shut_bool Try.underlying4 _), (trodAll_cons_mk (Below.trod laidOut (by kernel_rfl) (of_decide_eq_true (by kernel_rfl)) k0 bel lt0) (trodAll_cons_mk (Below.trod laidOut (by kernel_rfl) (of_decide_eq_true (by kernel_rfl)) k1 bel lt1) (trodAll_cons_mk (Below.trod laidOut (by kernel_rfl) (of_decide_eq_true (by kernel_rfl)) k2 bel lt2) trodAll_mk0))), rfl, bel.frame _, fun h => by cases h⟩
theorem over : Rows.padSoundRow.holds Try.pinned (OpenSpec.ofChange Rows.padSoundSpec) :=
 OpenClaim.holds_of_wide 14 Try.f14 rfl rfl rfl rfl rfl rfl rfl ⟨rfl, rfl, rfl, rfl, rfl⟩ rfl rfl rfl rfl rfl (by kernel_rfl) Try.func14 (by kernel_rfl)
  (of_decide_eq_true (by kernel_rfl)) (by unfold Func.isWrapper; first | (rw [if_pos (by decide +kernel)]; kernel_rfl) | (rw [if_neg (by decide +kernel)]; exact ⟨rfl, rfl⟩))
  (fun os started H enc _ => lifted os started H enc)
end PadSoundLaw
/-- The statement. -/
theorem sound_holds : Rows.PadSoundSaid := PadSoundLaw.over
end Go.Proofs.Ythcnganbnbhhoaa
