/-
  Proves that May returns just those who, alone, are not refused, and that they need a door, for any pad, state and zone: 'PadMaySaid'. No conditions.
-/
import Derived.Test.YthcnganbnbhhoaaRows
import Derived.Test.YthcnganbnbhhoaaLawP
import Derived.Test.YthcnganbnbhhoaaAsk
import Derived.Test.YthcnganbnbhhoaaAwake
import Derived.Test.YthcnganbnbhhoaaOpen
import Derived.SizedLaws
namespace Go.Proofs.Ythcnganbnbhhoaa
open Go.ChangeShapes Go.WideShapes Go.ChangeAt Go.RowKit Go.Shelf
theorem Blk.pairM (w : World) (t t' : TypeId) (cs ds : Array Value) : Ext w ((w.alloc (.cells cs t)).alloc (.cells ds t')) ∧ Blk ((w.alloc (.cells cs t)).alloc (.cells ds t')) w.heap.size t cs ∧ Blk ((w.alloc (.cells cs t)).alloc (.cells ds t')) (w.heap.size + 1) t' ds := by
 refine ⟨((Ext.refl _).alloc _).alloc _, (Blk.new w t cs).ext ((Ext.refl _).alloc _), ?_⟩
 have := Blk.new (w.alloc (.cells cs t)) t' ds
 rwa [World.size_alloc] at this
namespace PadMayLaw
set_option maxRecDepth 100000 in
set_option maxHeartbeats 8000000 in
theorem walk {v sv : Value} {p : Pad} {s : State} {z : Int} {w : World} (hv : PadV w v p) (hs : StateV w sv s) (hf : s.Fits) (_hz : (Lit.int .i64 z).wf = true) :
  Calls Try.prog 12 #[v, sv, .int .i64 z] w fun e w' => e = .returned (.bool true) ∧ Below w.heap.size w w' := by
 have HMA := hide (fun V (hx : Ext w V) => mayX_any v sv p s z V (hv.ext hx) (hs.ext hx) hf)
 have HDO := hide (fun V (hx : Ext w V) (a : PAct) => doA_any v sv p s a V (hv.ext hx) (hs.ext hx) hf)
 obtain ⟨X, rfl, hX⟩ := padV_iff.1 hv
 obtain ⟨az, cz, ad, cd, ap, cp, ak, ck, aq, cq⟩ := X
 obtain ⟨A1, c1, A2, c2, A3, c3, rfl, h1, h2, h3⟩ := stateV_rows.1 hs
 have HI1 := hide h1
 have m1 := h1.rows.2.2.1
 have n1 := h1.rows.2.1
 unfold PadX.cells at HMA HDO ⊢
 dsimp only at HMA HDO ⊢
 clear hv hs hX hf h1 h2 h3
 go_enter Try.func12, Try.ntmps12
 go_wp2_with fail
 have HBOX := hide (Blk.pairM w 28 38 #[.slice az p.zones.length cz, .slice ad p.doors.length cd, .slice ap p.people.length cp, .slice ak p.keys.length ck, .slice aq p.squibs.length cq, .int .i64 p.panel, .int .i64 p.wait] #[.int .i64 s.now, .slice A1 s.zones.length c1, .slice A2 s.holder.length c2, .slice A3 s.squibs.length c3, .int .i64 s.siren, .bool s.storm])
 obtain ⟨W1, hW1⟩ : ∃ V, (w.alloc (.cells #[.slice az p.zones.length cz, .slice ad p.doors.length cd, .slice ap p.people.length cp, .slice ak p.keys.length ck, .slice aq p.squibs.length cq, .int .i64 p.panel, .int .i64 p.wait] 28)).alloc (.cells #[.int .i64 s.now, .slice A1 s.zones.length c1, .slice A2 s.holder.length c2, .slice A3 s.squibs.length c3, .int .i64 s.siren, .bool s.storm] 38) = V := ⟨_, rfl⟩
 rw [hW1] at HBOX ⊢
 obtain ⟨HX, HP, HS⟩ := HBOX.out
 clear HBOX hW1
 refine Calls.mono (HMA.out _ HX) ?_
 rintro e w2 ⟨u, rfl, hu, hx⟩
 replace HX := hide (HX.trans hx)
 replace HP := hide (HP.ext hx)
 replace HS := hide (HS.ext hx)
 obtain ⟨E, hE⟩ : ∃ E, mayE p s z = E := ⟨_, rfl⟩
 have HE := hide hE
 rw [hE] at hu ⊢
 obtain ⟨L, hL⟩ : ∃ L, (if E = 0 then mayL p s z p.people.length else []) = L := ⟨_, rfl⟩
 rw [hL] at hu
 have HU := hide hu
 have HL := hide hL
 obtain ⟨Au, cu, rfl, hcu, hmu, _⟩ := hu
 simp only [maxLen] at hmu
 clear hx hE hL HMA
 by_cases e0 : E = 0
 ·subst e0
  have HLL := hide (show L = mayL p s z p.people.length by rw [← HL.out, if_pos rfl])
  have HS0 := hide (show stateE p s = 0 from by
   have h := HE.out
   unfold mayE at h
   split at h
   ·rename_i h1; exact absurd h h1
   ·rename_i h1; simpa using h1)
  have HB := hide (show -1 ≤ z ∧ z < p.zones.length from by
   have h := HE.out
   unfold mayE at h
   rw [HS0.out, if_neg (by decide)] at h
   split at h
   ·cases h
   ·rename_i h1
    rw [Bool.not_eq_true] at h1
    have := outB_f.1 h1
    omega)
  have HSO := hide (stateE_t.1 HS0.out)
  have HPO := hide (padOk_of HSO.out.1)
  have HLZ := hide HSO.out.2.1.lz
  obtain ⟨iI, hiI, hzI0, hzI1, hzI2⟩ := info_parts infoInt
  have hI := hide hiI
  have hI0 := hide hzI0
  have hI1 := hide hzI1
  have hI2 := hide hzI2
  clear hiI hzI0 hzI1 hzI2
  have hnp := HPO.out.np
  go_wp2_with fail
  go_loopw [10, 9, 11, 12] (fun v10 v9 _ _ wr => Hid (Ext w2 wr) ∧ ∃ k : Nat, k ≤ p.people.length ∧ v10 = .int .i64 k ∧ ∃ n, Hid (n ≤ k ∧ Own wr w2.heap.size 3 1 v9 n ((mayL p s z k).map (Value.int .i64)))) (fun v10 _ _ _ _ => p.people.length - (intOf v10).toNat)
  case atStart => exact ⟨hide (Ext.refl _), 0, by omega, rfl, 0, hide ⟨Nat.le_refl _, Own.nil _ _ _ _⟩⟩
  case round =>
   obtain ⟨HXR, k, hk, rfl, m, HOW⟩ := hrel
   have HP2 := hide (HP.out.ext HXR.out)
   have HS2 := hide (HS.out.ext HXR.out)
   have p0 := cell_heap HP2.out 0 _ rfl
   have p1 := cell_heap HP2.out 1 _ rfl
   have p2 := cell_heap HP2.out 2 _ rfl
   have p3 := cell_heap HP2.out 3 _ rfl
   have p4 := cell_heap HP2.out 4 _ rfl
   have p5 := cell_heap HP2.out 5 _ rfl
   have p6 := cell_heap HP2.out 6 _ rfl
   have s0 := cell_heap HS2.out 0 _ rfl
   have s1 := cell_heap HS2.out 1 _ rfl
   have s2 := cell_heap HS2.out 2 _ rfl
   have s3 := cell_heap HS2.out 3 _ rfl
   have s4 := cell_heap HS2.out 4 _ rfl
   have s5 := cell_heap HS2.out 5 _ rfl
   by_cases h8 : k < p.people.length
   ·have hsz := HXR.out.size
    have HMAC := hide (may_act HS0.out (z := z) HB.out h8)
    have HDE := hide (doE_eq HS0.out HMAC.out)
    have HC := hide (HDO.out wr (HX.out.trans HXR.out) (mayA s z k))
    unfold mayA at HC
    dsimp only at HC
    go_wp2_with fail
    refine Calls.mono HC.out ?_
    rintro e w3 ⟨u3, rfl, hu3, hx⟩
    obtain ⟨D, hD⟩ : ∃ D, doneE p s (mayA s z k) = D := ⟨_, rfl⟩
    have HD := hide hD
    have hde : doE p s ⟨s.now, 1, (k : Nat), z, -1⟩ = D := by rw [← hD]; exact HDE.out
    have HDX := hide hde
    rw [hde]
    obtain ⟨x, hxx⟩ : ∃ x, doS p s ⟨s.now, 1, (k : Nat), z, -1⟩ = x := ⟨_, rfl⟩
    have HXX := hide hxx
    rw [hxx] at hu3
    obtain ⟨D1, f1, D2, f2, D3, f3, rfl, o1, _, _⟩ := hu3
    have HO1 := hide o1
    have HOW3 := hide (HOW.out.2.ext hx)
    have HXR3 := hide (HXR.out.trans hx)
    have hsz3 := HXR3.out.size
    have HLT := hide (fun b hb => (HOW.out.2.block b hb).2)
    have hszx := hx.size
    have HSW := hide (HS2.out.ext hx)
    clear hx hxx hde hD HC o1 p0 p1 p2 p3 p4 p5 p6 s0 s1 s2 s3 s4 s5
    by_cases d0 : D = 0
    ·subst d0
     have HMV := hide (may_moves HS0.out HB.out h8 HD.out)
     rw [show doneS p s (mayA s z k) = x from by rw [← HXX.out]; exact (doS_eq HDX.out).symm] at HMV
     obtain ⟨W3, hW3⟩ : ∃ V, w3.alloc (.cells #[.int .i64 x.now, .slice D1 x.zones.length f1, .slice D2 x.holder.length f2, .slice D3 x.squibs.length f3, .int .i64 x.siren, .bool x.storm] 38) = V := ⟨_, rfl⟩
     have HA3 := hide (show Ext w3 W3 by rw [← hW3]; exact (Ext.refl _).alloc _)
     have HB3 := hide (show Blk W3 w3.heap.size 38 #[.int .i64 x.now, .slice D1 x.zones.length f1, .slice D2 x.holder.length f2, .slice D3 x.squibs.length f3, .int .i64 x.siren, .bool x.storm] by rw [← hW3]; exact Blk.new _ _ _)
     have HW3 := hide hW3
     have hsW : W3.heap.size = w3.heap.size + 1 := by rw [← hW3, World.size_alloc]
     have HSZ := hide hsW
     clear hW3 hsW
     go_upto_region 10 with (fail)
     rw [HW3.out]
     go_upto_region 11 with (at_builtin; refine wpList_append rfl (.tmp 48) (.tmp 50) 36 rfl w2.heap.size 3 iI _ 1 8 Try.underlying36 hI.out hI0.out hI1.out hI2.out rfl _ m _ rfl ((HOW3.out.ext HA3.out).ext ((Ext.refl _).alloc _)) (some ⟨W3.heap.size, 0, none⟩) 1 1 [.int .i64 k] rfl (Own.lit W3 0 3 1 1 #[.int .i64 k] (Nat.zero_le _) rfl (by simp [maxLen])).src (by simp [Value.oneCell']) (by have := HOW.out.1; simp only [maxLen]; omega) (by have := HOW.out.1; omega) (by have := HSZ.out; rw [World.size_alloc]; omega) ?_; intro v4 w4 hown hg hbk)
     have HO4 := hide hown
     have HX4 := hide (show Ext w2 w4 from (((HXR3.out.trans HA3.out).alloc _)).grown hg (fun b hb => (HOW.out.2.block b hb).1))
     have HB4 := hide (show Blk w4 w3.heap.size 38 #[.int .i64 x.now, .slice D1 x.zones.length f1, .slice D2 x.holder.length f2, .slice D3 x.squibs.length f3, .int .i64 x.siren, .bool x.storm] from (HB3.out.ext ((Ext.refl _).alloc _)).kept hg (fun e => by have := HLT.out _ e.symm; omega))
     have HZ4 := hide (show IntsV w4 .i64 (.slice D1 x.zones.length f1) x.zones from ((((HO1.out.ext HA3.out).ext ((Ext.refl _).alloc _)).grow hg (fun b hb e => by have := HLT.out _ e; have := (HO1.out.block b hb).1; omega))).ints)
     have HS4 := hide (show Blk w4 (w.heap.size + 1) 38 #[.int .i64 s.now, .slice A1 s.zones.length c1, .slice A2 s.holder.length c2, .slice A3 s.squibs.length c3, .int .i64 s.siren, .bool s.storm] from ((HSW.out.ext HA3.out).ext ((Ext.refl _).alloc _)).kept hg (fun e => by have := (HOW.out.2.block _ e.symm).1; have := HS.out.lt; omega))
     have HI4 := hide (HI1.out.ext (HX.out.trans HX4.out))
     clear hown hg hbk
     have h8x : k < x.zones.length := HMV.out.2.1
     have h8s : k < s.zones.length := by have := HMV.out.1; omega
     obtain ⟨bz, oz, xz, rfl, hltz, hcz, HVX⟩ := ints_at (HZ4.out.rows.2.2.2) h8x
     obtain ⟨by_, oy, ys, rfl, hlty, hcy, HVS⟩ := ints_at (HI4.out.rows.2.2.2) h8s
     have j1 := HZ4.out.rows.2.2.1
     have i1 := HZ4.out.rows.2.1
     have t1 : (((x.zones.length : Nat) : Int) != ((s.zones.length : Nat) : Int)) = false := by simp [HMV.out.1]
     have t2 : decide (((x.zones.length : Nat) : Int) ≤ ((k : Nat) : Int)) = false := decide_eq_false (by omega)
     have t3 : (xz != z) = false := by have := HMV.out.2.2.1; rw [HVX.out] at this; simp [this]
     have t4 : (ys == z) = false := by have := HMV.out.2.2.2; rw [HVS.out] at this; simpa using this
     have x0 := cell_heap HB4.out 0 _ rfl
     have x1 := cell_heap HB4.out 1 _ rfl
     have x2 := cell_heap HB4.out 2 _ rfl
     have x3 := cell_heap HB4.out 3 _ rfl
     have x4 := cell_heap HB4.out 4 _ rfl
     have x5 := cell_heap HB4.out 5 _ rfl
     have s0 := cell_heap HS4.out 0 _ rfl
     have s1 := cell_heap HS4.out 1 _ rfl
     have s2 := cell_heap HS4.out 2 _ rfl
     have s3 := cell_heap HS4.out 3 _ rfl
     have s4 := cell_heap HS4.out 4 _ rfl
     have s5 := cell_heap HS4.out 5 _ rfl
     go_wp2_with fail
     go_roundw
     case rel =>
      refine ⟨HX4, k + 1, by omega, by go_num, m + 1, hide ⟨by have := HOW.out.1; omega, ?_⟩⟩
      rw [mayL_succ, if_pos HD.out, List.map_append]
      exact HO4.out
     case measure => simp [intOf]; omega
    ·have hne : (D != 0) = true := by simpa using d0
     have HNZ := hide d0
     clear d0
     go_wp2_with fail
     go_roundw
     case rel =>
      refine ⟨hide (HXR3.out.alloc _), k + 1, by omega, by go_num, m, hide ⟨by have := HOW.out.1; omega, ?_⟩⟩
      rw [mayL_succ, if_neg (by rw [HD.out]; exact HNZ.out), List.append_nil]
      exact HOW3.out.ext ((Ext.refl _).alloc _)
     case measure => simp [intOf]; omega
   ·obtain rfl : k = p.people.length := by omega
    have HII := hide (ints_self _ _ L wr (HU.out.ext HXR.out) (by rw [HLL.out]; exact HOW.out.2.ints))
    go_wp2_with fail
    refine Calls.mono HII.out ?_
    rintro e w5 ⟨rfl, hx5⟩
    have HX5 := hide ((HX.out.trans HXR.out).trans hx5)
    clear hx5
    go_wp2_with fail
    refine (awake_any _).mono ?_
    rintro e w9 ⟨rfl, hx9⟩
    have HX9 := hide (HX5.out.trans hx9)
    clear hx9
    go_wp2_with fail
    go_ret
    exact ⟨rfl, HX9.out⟩
 ·have hne : (E != 0) = true := by simpa using e0
  have HLE := hide (show L = [] by rw [← HL.out, if_neg e0])
  have hl0 : (((L.length : Nat) : Int) == 0) = true := by rw [HLE.out]; rfl
  clear e0
  go_wp2_with fail
  refine (awake_any _).mono ?_
  rintro e w9 ⟨rfl, hx9⟩
  have HX9 := hide (HX.out.trans hx9)
  clear hx9
  go_wp2_with fail
  go_ret
  exact ⟨rfl, HX9.out⟩
theorem own : ownKnob Try.prog.godebug = none := by kernel_rfl
theorem laidOut : laidOutB Try.prog = true := by kernel_rfl
set_option maxRecDepth 100000 in
theorem lifted (os : Os) (started : os.Started) (H : Type) (enc : TypeId × Value → H) :
 ReturnsInHanded {} Try.checked os 12 .any (Rows.padMaySpec.pre6 enc Try.prog Try.f12 Rows.padMayRow.domain false) (Rows.padMaySpec.post enc Try.prog Try.f12 false true false false) := by
 refine returnsInHanded_of_change_sized (C := Try.checked) own started (by kernel_rfl) Try.func12
  (ChangeSpec.witness6 (enc := enc) (C := Try.checked) false ⟨#[], #[.agg #[.slice none 0 0, .slice none 0 0, .slice none 0 0, .slice none 0 0, .slice none 0 0, .int .i64 0, .int .i64 0], .agg #[.int .i64 0, .slice none 0 0, .slice none 0 0, .slice none 0 0, .int .i64 0, .bool false], .int .i64 0], []⟩ 8 (by kernel_rfl) (by kernel_rfl) (by kernel_rfl) (by kernel_rfl)) ?_
 intro W base args ds gs before hval0 hW hcnd hsz0 _
 have hval : ∀ (j : Nat) t v, Try.f12.params[j]? = some t → args[j]? = some v → Value.okWide Try.prog W .any base t v := hval0
 have hsz : (DataW.weightsEach Try.prog (Try.f12.params.toList ++ Rows.padMaySpec.plain.varTypes Try.prog) (ds ++ gs)).all (· ≤ reachBytes) = true := hsz0
 have hW' := hW
 obtain ⟨p, q, hA0, hV, rfl, hfz, hnd⟩ := hW
 have hA : DataW.TrodAll enc Try.prog W 0 (fun _ => true) true Try.f12.params.toList args.toList ds p := hA0
 rw [Try.params12] at hA hval hsz
 obtain ⟨v0, vs0, d0, ds0, p0, q0, hargs, rfl, rfl, h0, r0⟩ := trodAll_cons hA
 obtain ⟨v1, vs1, d1, ds1, p1, q1, rfl, rfl, rfl, h1, r1⟩ := trodAll_cons r0
 obtain ⟨v2, vs2, d2, ds2, p2, q2, rfl, rfl, rfl, h2, r2⟩ := trodAll_cons r1
 obtain ⟨rfl, rfl, rfl⟩ := trodAll_nil r2
 obtain rfl : args = #[v0, v1, v2] := by cases args; simp_all
 obtain ⟨rfl, rfl⟩ := trodVars_none hV
 have k0 := h0
 have lt0 : ∀ x ∈ p0, x.block < W.heap.size := by obtain ⟨m, hm⟩ := k0; exact DataW.trod_lt m _ _ _ hm
 obtain ⟨pd0, o0⟩ := open_pad (hval 0 28 v0 rfl rfl) h0
 have k1 := h1
 have lt1 : ∀ x ∈ p1, x.block < W.heap.size := by obtain ⟨m, hm⟩ := k1; exact DataW.trod_lt m _ _ _ hm
 obtain ⟨s1, o1, f1⟩ := open_state (hval 1 38 v1 rfl rfl) h1
 have k2 := h2
 have lt2 : ∀ x ∈ p2, x.block < W.heap.size := by obtain ⟨m, hm⟩ := k2; exact DataW.trod_lt m _ _ _ hm
 obtain ⟨x2, rfl, wx2⟩ := open_intV (hval 2 3 v2 rfl rfl) h2
 clear hA0 hval0 hsz0
 refine (walk o0 o1 (f1 fun m hm => by have := List.all_eq_true.1 hsz m (DataW.weights_mem_each (j := 1) (t := 38) rfl rfl m hm); simpa using this) wx2).mono fun e W' ⟨he, bel⟩ => ?_
 subst he
 exact ⟨_, rfl, _, _, _, [], _, [], hW', trodAll_mk1 (shut_bool Try.underlying4 _), (trodAll_cons_mk (Below.trod laidOut (by kernel_rfl) (of_decide_eq_true (by kernel_rfl)) k0 bel lt0) (trodAll_cons_mk (Below.trod laidOut (by kernel_rfl) (of_decide_eq_true (by kernel_rfl)) k1 bel lt1) (trodAll_cons_mk (Below.trod laidOut (by kernel_rfl) (of_decide_eq_true (by kernel_rfl)) k2 bel lt2) trodAll_mk0))), rfl, bel.frame _, fun h => by cases h⟩
theorem over : Rows.padMayRow.holds Try.pinned (OpenSpec.ofChange Rows.padMaySpec) :=
 OpenClaim.holds_of_wide 12 Try.f12 rfl rfl rfl rfl rfl rfl rfl ⟨rfl, rfl, rfl, rfl, rfl⟩ rfl rfl rfl rfl rfl (by kernel_rfl) Try.func12 (by kernel_rfl)
  (of_decide_eq_true (by kernel_rfl)) (by unfold Func.isWrapper; first | (rw [if_pos (by decide +kernel)]; kernel_rfl) | (rw [if_neg (by decide +kernel)]; exact ⟨rfl, rfl⟩))
  (fun os started H enc _ => lifted os started H enc)
end PadMayLaw
/-- The statement. -/
theorem may_holds : Rows.PadMaySaid := PadMayLaw.over
end Go.Proofs.Ythcnganbnbhhoaa
