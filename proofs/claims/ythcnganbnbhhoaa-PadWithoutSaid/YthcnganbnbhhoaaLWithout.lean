/-
 Proves that without the acts that are refused the state is the same, and none of the others is refused, for any pad, state and acts: 'PadWithoutSaid'. No conditions.
-/
import Derived.Test.YthcnganbnbhhoaaRows
import Derived.Test.YthcnganbnbhhoaaLawP
import Derived.Test.YthcnganbnbhhoaaAwake
import Derived.Test.YthcnganbnbhhoaaOpen
import Derived.SizedLaws
namespace Go.Proofs.Ythcnganbnbhhoaa
open Go.ChangeShapes Go.WideShapes Go.ChangeAt Go.RowKit Go.Shelf
theorem infoAct : (Try.prog.info? 48).map (fun i => (i.zero, i.size, i.bytes)) = some (some (.agg #[.int .i64 0, .int .i64 0, .int .i64 0, .int .i64 0, .int .i64 0]), 5, 40) := by kernel_rfl
def actC (a : PAct) : List Value := [.int .i64 a.at_, .int .i64 a.kind, .int .i64 a.who, .int .i64 a.what, .int .i64 a.with_]
theorem actC_flat (l : List PAct) : ∀ i f, i < l.length → f < 5 → (l.flatMap actC)[i * 5 + f]? = some ((l.getD i default).cell f) := by
 intro i f hi hf
 have := flat_get 5 PAct.cell l i f hi hf
 have e : (fun x : PAct => (List.range 5).map (PAct.cell x)) = actC := by
  funext x; rfl
 rwa [e] at this
theorem actC_len (l : List PAct) : (l.flatMap actC).length = l.length * 5 := by
 induction l with
 | nil => rfl
 | cons a l ih => rw [List.flatMap_cons, List.length_append, ih]; simp [actC]; omega
theorem own_acts {w : World} {base n : Nat} {v : Value} {l : List PAct} (h : Own w base 48 5 v n (l.flatMap actC)) : ListV 5 PAct.cell w v l := by
 have hn : n = l.length := by have := h.1; rw [actC_len] at this; omega
 subst hn
 rcases h.2 with ⟨rfl, h0⟩ | ⟨g, cap, cur, lo, hi, rfl, _, hg, hc, hm, hcs, _, ht⟩
 ·have : l = [] := List.eq_nil_of_length_eq_zero h0
  subst this
  exact ListV.nil
 ·refine ⟨_, cap, rfl, hc, hm, fun _ => ⟨g, 0, rfl, (Array.getElem?_eq_some_iff.1 hg).1, fun i f hi hf => ?_⟩⟩
  rw [Nat.zero_add]
  refine cell_heap hg _ _ ?_
  have h1 := actC_flat l i f hi hf
  rw [← ht, List.getElem?_take] at h1
  split at h1
  ·simpa using h1
  ·cases h1
theorem Blk.pair (w : World) (t t' : TypeId) (cs ds : Array Value) : Ext w ((w.alloc (.cells cs t)).alloc (.cells ds t')) ∧ Blk ((w.alloc (.cells cs t)).alloc (.cells ds t')) w.heap.size t cs ∧ Blk ((w.alloc (.cells cs t)).alloc (.cells ds t')) (w.heap.size + 1) t' ds := by
 refine ⟨((Ext.refl _).alloc _).alloc _, (Blk.new w t cs).ext ((Ext.refl _).alloc _), ?_⟩
 have := Blk.new (w.alloc (.cells cs t)) t' ds
 rwa [World.size_alloc] at this
namespace PadWithoutLaw
set_option maxRecDepth 100000 in
set_option maxHeartbeats 4000000 in
theorem walk {v sv lv : Value} {p : Pad} {s : State} {l : List PAct} {w : World} (hv : PadV w v p) (hs : StateV w sv s) (hf : s.Fits) (hl : ListV 5 PAct.cell w lv l) :
 Calls Try.prog 5 #[v, sv, lv] w fun e w' => e = .returned (.bool true) ∧ Below w.heap.size w w' := by
 have HPL := hide (fun V (hx : Ext w V) (lv : Value) (l : List PAct) (h : ListV 5 PAct.cell V lv l) => play_any v sv lv p s l V (hv.ext hx) (hs.ext hx) h hf)
 obtain ⟨X, rfl, hX⟩ := padV_iff.1 hv
 obtain ⟨az, cz, ad, cd, ap, cp, ak, ck, aq, cq⟩ := X
 obtain ⟨A1, c1, A2, c2, A3, c3, rfl, _⟩ := stateV_rows.1 hs
 have HL := hide hl
 obtain ⟨Al, cl, rfl, hcl, hml, _⟩ := hl
 simp only [maxLen] at hml
 unfold PadX.cells at HPL ⊢
 dsimp only at HPL ⊢
 clear hv hs hX hf
 go_enter Try.func5, Try.ntmps5
 go_wp2_with fail
 have HBOX := hide (Blk.pair w 28 38 #[.slice az p.zones.length cz, .slice ad p.doors.length cd, .slice ap p.people.length cp, .slice ak p.keys.length ck, .slice aq p.squibs.length cq, .int .i64 p.panel, .int .i64 p.wait] #[.int .i64 s.now, .slice A1 s.zones.length c1, .slice A2 s.holder.length c2, .slice A3 s.squibs.length c3, .int .i64 s.siren, .bool s.storm])
 obtain ⟨W1, hW1⟩ : ∃ V, (w.alloc (.cells #[.slice az p.zones.length cz, .slice ad p.doors.length cd, .slice ap p.people.length cp, .slice ak p.keys.length ck, .slice aq p.squibs.length cq, .int .i64 p.panel, .int .i64 p.wait] 28)).alloc (.cells #[.int .i64 s.now, .slice A1 s.zones.length c1, .slice A2 s.holder.length c2, .slice A3 s.squibs.length c3, .int .i64 s.siren, .bool s.storm] 38) = V := ⟨_, rfl⟩
 rw [hW1] at HBOX ⊢
 obtain ⟨HX, HP, HS⟩ := HBOX.out
 clear HBOX hW1
 refine Calls.mono (HPL.out _ HX _ l (HL.out.ext HX)) ?_
 rintro e w2 ⟨u, y, rfl, hu, ⟨n, hy⟩, hx⟩
 replace HX := hide (HX.trans hx)
 replace HP := hide (HP.ext hx)
 replace HS := hide (HS.ext hx)
 have hhy := hy.ints
 obtain ⟨E, hE⟩ : ∃ E, playE p s l = E := ⟨_, rfl⟩
 have HE := hide hE
 rw [hE] at hu hhy ⊢
 obtain ⟨S, hS⟩ : ∃ S, (if E = 0 then runS p s l else zeroS) = S := ⟨_, rfl⟩
 rw [hS] at hu
 obtain ⟨L, hL⟩ : ∃ L, (if E = 0 then runE p s l else []) = L := ⟨_, rfl⟩
 rw [hL] at hhy
 have HSV := hide hu.v
 obtain ⟨B1, d1, B2, d2, B3, d3, rfl, _⟩ := hu
 have HY := hide hhy
 obtain ⟨Ay, cy, rfl, hcy, hmy, _⟩ := hhy
 simp only [maxLen] at hmy
 have HSE := hide hS
 have HLE := hide hL
 clear hx hy hE hS hL
 by_cases e0 : E = 0
 ·subst e0
  have hS := HSE.out
  have hL := HLE.out
  rw [if_pos rfl] at hS hL
  have hlen : (((L.length : Nat) : Int) != ((l.length : Nat) : Int)) = false := by rw [← hL, runE_len]; simp
  have HS1 := hide hS
  have HS0 := hide hL
  have HN := hide (show L.length = l.length by rw [← hL, runE_len])
  clear hS hL HSE HLE
  go_wp2_with fail
  obtain ⟨W3, hW3⟩ : ∃ V, w2.alloc (.cells #[.int .i64 S.now, .slice B1 S.zones.length d1, .slice B2 S.holder.length d2, .slice B3 S.squibs.length d3, .int .i64 S.siren, .bool S.storm] 38) = V := ⟨_, rfl⟩
  have hx3 : Ext w2 W3 := by rw [← hW3]; exact (Ext.refl _).alloc _
  have HB := hide (show Blk W3 w2.heap.size 38 #[.int .i64 S.now, .slice B1 S.zones.length d1, .slice B2 S.holder.length d2, .slice B3 S.squibs.length d3, .int .i64 S.siren, .bool S.storm] by rw [← hW3]; exact Blk.new _ _ _)
  rw [hW3]
  replace HX := hide (HX.out.trans hx3)
  replace HP := hide (HP.out.ext hx3)
  replace HS := hide (HS.out.ext hx3)
  replace HSV := hide (HSV.out.ext hx3)
  replace HY := hide (HY.out.ext hx3)
  clear hx3 hW3
  obtain ⟨iI, hiI, hzI0, hzI1, hzI2⟩ := info_parts infoAct
  have hI := hide hiI
  have hI0 := hide hzI0
  have hI1 := hide hzI1
  have hI2 := hide hzI2
  clear hiI hzI0 hzI1 hzI2
  have HL60 := hide (show l.length ≤ 60 from by
   have h1 := (playE_t.1 HE.out).2.1
   exact h1)
  go_loopw [11, 10] (fun v11 v10 wr => Hid (Ext W3 wr) ∧ ∃ k : Nat, k ≤ l.length ∧ v11 = .int .i64 k ∧ ∃ n, Hid (n ≤ k ∧ Own wr W3.heap.size 48 5 v10 n ((keepL p s (l.take k)).flatMap actC))) (fun v11 _ _ => l.length - (intOf v11).toNat)
  case atStart => exact ⟨hide (Ext.refl _), 0, by omega, rfl, 0, hide ⟨Nat.le_refl _, Own.nil _ _ _ _⟩⟩
  case round =>
   obtain ⟨HXR, k, hk, rfl, m, HOW⟩ := hrel
   by_cases h8 : k < l.length
   ·have h8' : k < L.length := by have := HN.out; omega
    obtain ⟨by_, oy, xy, rfl, hlty, hcy0, HXY⟩ := ints_at ((HY.out.ext HXR.out).rows.2.2.2) h8'
    by_cases z0 : xy = 0
    ·subst z0
     obtain ⟨b9, o9, hA, hb9, hc0⟩ := ListV.at (((HL.out.ext HX.out).ext HXR.out).rows.2.2.2) h8
     have a0 := hc0 0 (by omega)
     have a1 := hc0 1 (by omega)
     have a2 := hc0 2 (by omega)
     have a3 := hc0 3 (by omega)
     have a4 := hc0 4 (by omega)
     obtain ⟨a, ha⟩ : ∃ a, l.getD k default = a := ⟨_, rfl⟩
     have HAK := hide ha
     rw [ha] at a0 a1 a2 a3 a4
     simp only [PAct.cell, Nat.add_zero] at a0 a1 a2 a3 a4
     subst hA
     clear hc0 ha
     have HRW := hide (show (runE p s l).getD k 0 = 0 by rw [HS0.out]; exact HXY.out)
     have hwlt := HXR.out.size
     go_wp2_with (at_builtin; refine wpList_app rfl (.tmp 42) (.tmp 47) 43 rfl W3.heap.size 48 iI _ 5 40 Try.underlying43 hI.out hI0.out hI1.out hI2.out rfl _ m _ rfl (HOW.out.2.ext ((Ext.refl _).alloc _)) (some ⟨wr.heap.size, 0, none⟩) 1 1 (actC a) rfl ((Own.lit wr 0 48 5 1 (actC a).toArray (Nat.zero_le _) rfl (by simp [maxLen])).src) (by simp [actC, Value.oneCell']) (by have := HOW.out.1; have := HL60.out; simp only [maxLen]; omega) (by have := HOW.out.1; have := HL60.out; omega) (by rw [World.size_alloc]; omega) ?_; intro v4 w4 hown hb)
     go_roundw
     case rel =>
      refine ⟨hide ((HXR.out.alloc _).step hb (Nat.le_refl _)), k + 1, by omega, by go_num, m + 1, hide ⟨by have := HOW.out.1; omega, ?_⟩⟩
      rw [keepL_take h8, if_pos HRW.out, HAK.out, List.flatMap_append, List.flatMap_singleton]
      exact hown
     case measure => simp [intOf]; omega
    ·have hne : (xy == 0) = false := by simpa using z0
     go_wp2_with fail
     go_roundw
     case rel => exact ⟨HXR, k + 1, by omega, by go_num, m, hide ⟨by have := HOW.out.1; omega, by
      rw [keepL_take h8, HS0.out, if_neg (by rw [← HXY.out] at z0; exact z0), List.append_nil]; exact HOW.out.2⟩⟩
     case measure => simp [intOf]; omega
   ·obtain rfl : k = l.length := by omega
    have HLK := hide (show ListV 5 PAct.cell wr u10 (keepL p s l) from own_acts (by have := HOW.out.2; rwa [List.take_length] at this))
    obtain ⟨Ak, ckk, hek, hck, hmk, _⟩ := HLK.out
    subst hek
    simp only [maxLen] at hmk
    have HE2 := hide (playE_keep HE.out)
    have HPL2 := hide (HPL.out wr (HX.out.trans HXR.out) _ (keepL p s l) HLK.out)
    have HB2 := hide (HB.out.ext HXR.out)
    have HP2 := hide (HP.out.ext HXR.out)
    have HS2 := hide (HS.out.ext HXR.out)
    have HSV2 := hide (HSV.out.ext HXR.out)
    have HX2 := hide (HX.out.trans HXR.out)
    have HZ := hide (keepL_zero (p := p) l s)
    have HKL := hide (runE_len (p := p) (keepL p s l) s)
    clear HB HSV HX HXR HOW HLK HP HS
    have p0 := cell_heap HP2.out 0 _ rfl
    have p1 := cell_heap HP2.out 1 _ rfl
    have p2 := cell_heap HP2.out 2 _ rfl
    have p3 := cell_heap HP2.out 3 _ rfl
    have p4 := cell_heap HP2.out 4 _ rfl
    have p5 := cell_heap HP2.out 5 _ rfl
    have p6 := cell_heap HP2.out 6 _ rfl
    have q0 := cell_heap HS2.out 0 _ rfl
    have q1 := cell_heap HS2.out 1 _ rfl
    have q2 := cell_heap HS2.out 2 _ rfl
    have q3 := cell_heap HS2.out 3 _ rfl
    have q4 := cell_heap HS2.out 4 _ rfl
    have q5 := cell_heap HS2.out 5 _ rfl
    go_wp2_with fail
    refine Calls.mono HPL2.out ?_
    rintro e w5 ⟨u2, y2, rfl, hu2, ⟨n2, hy2⟩, hx5⟩
    rw [HE2.out, if_pos rfl] at hu2 hy2
    rw [HE2.out]
    rw [keepL_run, HS1.out] at hu2
    obtain ⟨M, hM⟩ : ∃ M, runE p s (keepL p s l) = M := ⟨_, rfl⟩
    have HM := hide hM
    rw [hM] at hy2
    have hiy := hy2.ints
    have HSW := hide hu2.v
    obtain ⟨D1, f1, D2, f2, D3, f3, rfl, _⟩ := hu2
    have HY2 := hide hiy
    obtain ⟨Am, cm, rfl, hcm, hmm, _⟩ := hiy
    simp only [maxLen] at hmm
    have HB5 := hide (HB2.out.ext hx5)
    have HSV5 := hide (HSV2.out.ext hx5)
    have HX5 := hide (HX2.out.trans hx5)
    have hlt5 := HB5.out.lt
    have hlm : (((M.length : Nat) : Int) != (((keepL p s l).length : Nat) : Int)) = false := by rw [← hM, HKL.out]; simp
    clear hM hx5 hy2 HPL2 HB2 HSV2 HX2
    have b0 := cell_heap HB5.out 0 _ rfl
    have b1 := cell_heap HB5.out 1 _ rfl
    have b2 := cell_heap HB5.out 2 _ rfl
    have b3 := cell_heap HB5.out 3 _ rfl
    have b4 := cell_heap HB5.out 4 _ rfl
    have b5 := cell_heap HB5.out 5 _ rfl
    go_wp2_with fail
    obtain ⟨W6, hW6⟩ : ∃ V, w5.alloc (.cells #[.int .i64 S.now, .slice D1 S.zones.length f1, .slice D2 S.holder.length f2, .slice D3 S.squibs.length f3, .int .i64 S.siren, .bool S.storm] 38) = V := ⟨_, rfl⟩
    have hx6 : Ext w5 W6 := by rw [← hW6]; exact (Ext.refl _).alloc _
    rw [hW6]
    have HX6 := hide (HX5.out.trans hx6)
    have HY6 := hide (HY2.out.ext hx6)
    have HSM := hide (same_self _ _ S W6 (HSV5.out.ext hx6) (HSW.out.ext hx6))
    clear hW6 hx6 HX5 HSV5 HSW HB5 hlt5 b0 b1 b2 b3 b4 b5
    refine Calls.mono HSM.out ?_
    rintro e w7 ⟨rfl, hx7⟩
    have HX7 := hide (HX6.out.trans hx7)
    have HY7 := hide (HY6.out.ext hx7)
    clear hx7 HX6 HY6 HSM
    go_wp2_with fail
    go_loopw [14] (fun v14 wr2 => Hid (Ext w7 wr2) ∧ ∃ k : Nat, k ≤ M.length ∧ v14 = .int .i64 k) (fun v14 _ => M.length - (intOf v14).toNat)
    case atStart => exact ⟨hide (Ext.refl _), 0, by omega, rfl⟩
    case round =>
     obtain ⟨HXQ, k2, hk2, rfl⟩ := hrel
     by_cases h9 : k2 < M.length
     ·obtain ⟨by2, oy2, xy2, rfl, hlty2, hcy2, HXY2⟩ := ints_at ((HY7.out.ext HXQ.out).rows.2.2.2) h9
      obtain rfl : xy2 = 0 := by
       have h1 : M.getD k2 0 ∈ M := getD_in' 0 h9
       rw [← HM.out] at h1
       have := HZ.out _ h1
       rw [← HXY2.out, ← HM.out]
       exact this
      go_wp2_with fail
      go_roundw
      case rel => exact ⟨HXQ, k2 + 1, by omega, by go_num⟩
      case measure => simp [intOf]; omega
     ·obtain rfl : k2 = M.length := by omega
      go_wp2_with fail
      refine (awake_any _).mono ?_
      rintro e w9 ⟨rfl, hx9⟩
      have HX9 := hide ((HX7.out.trans HXQ.out).trans hx9)
      clear hx9
      go_wp2_with fail
      go_ret
      exact ⟨rfl, HX9.out⟩
 ·have hne : (E != 0) = true := by simpa using e0
  clear e0
  go_wp2_with fail
  obtain ⟨W3, hW3⟩ : ∃ V, w2.alloc (.cells #[.int .i64 S.now, .slice B1 S.zones.length d1, .slice B2 S.holder.length d2, .slice B3 S.squibs.length d3, .int .i64 S.siren, .bool S.storm] 38) = V := ⟨_, rfl⟩
  have hx3 : Ext w2 W3 := by rw [← hW3]; exact (Ext.refl _).alloc _
  rw [hW3]
  refine (awake_any _).mono ?_
  rintro e w9 ⟨rfl, hx9⟩
  have HX9 := hide ((HX.out.trans hx3).trans hx9)
  clear hx9 hx3 hW3
  go_wp2_with fail
  go_ret
  exact ⟨rfl, HX9.out⟩
theorem own : ownKnob Try.prog.godebug = none := by kernel_rfl
theorem laidOut : laidOutB Try.prog = true := by kernel_rfl
set_option maxRecDepth 100000 in
theorem lifted (os : Os) (started : os.Started) (H : Type) (enc : TypeId × Value → H) :
 ReturnsInHanded {} Try.checked os 5 .any (Rows.padWithoutSpec.pre6 enc Try.prog Try.f5 Rows.padWithoutRow.domain false) (Rows.padWithoutSpec.post enc Try.prog Try.f5 false true false false) := by
 refine returnsInHanded_of_change_sized (C := Try.checked) own started (by kernel_rfl) Try.func5
  (ChangeSpec.witness6 (enc := enc) (C := Try.checked) false ⟨#[], #[.agg #[.slice none 0 0, .slice none 0 0, .slice none 0 0, .slice none 0 0, .slice none 0 0, .int .i64 0, .int .i64 0], .agg #[.int .i64 0, .slice none 0 0, .slice none 0 0, .slice none 0 0, .int .i64 0, .bool false], .slice none 0 0], []⟩ 8 (by kernel_rfl) (by kernel_rfl) (by kernel_rfl) (by kernel_rfl)) ?_
 intro W base args ds gs before hval0 hW hcnd hsz0 _
 have hval : ∀ (j : Nat) t v, Try.f5.params[j]? = some t → args[j]? = some v → Value.okWide Try.prog W .any base t v := hval0
 have hsz : (DataW.weightsEach Try.prog (Try.f5.params.toList ++ Rows.padWithoutSpec.plain.varTypes Try.prog) (ds ++ gs)).all (· ≤ reachBytes) = true := hsz0
 have hW' := hW
 obtain ⟨p, q, hA0, hV, rfl, hfz, hnd⟩ := hW
 have hA : DataW.TrodAll enc Try.prog W 0 (fun _ => true) true Try.f5.params.toList args.toList ds p := hA0
 rw [Try.params5] at hA hval hsz
 obtain ⟨v0, vs0, d0, ds0, p0, q0, hargs, rfl, rfl, h0, r0⟩ := trodAll_cons hA
 obtain ⟨v1, vs1, d1, ds1, p1, q1, rfl, rfl, rfl, h1, r1⟩ := trodAll_cons r0
 obtain ⟨v2, vs2, d2, ds2, p2, q2, rfl, rfl, rfl, h2, r2⟩ := trodAll_cons r1
 obtain ⟨rfl, rfl, rfl⟩ := trodAll_nil r2
 obtain rfl : args = #[v0, v1, v2] := by cases args; simp_all
 obtain ⟨rfl, rfl⟩ := trodVars_none hV
 have k0 := h0
 have lt0 : ∀ x ∈ p0, x.block < W.heap.size := by obtain ⟨m, hm⟩ := k0; exact DataW.trod_lt m _ _ _ hm
 obtain ⟨pd0, o0⟩ := open_pad (hval 0 28 v0 rfl rfl) h0
 have k1 := h1
 have lt1 : ∀ x ∈ p1, x.block < W.heap.size := by obtain ⟨m, hm⟩ := k1; exact DataW.trod_lt m _ _ _ hm
 obtain ⟨s1, o1, f1⟩ := open_state (hval 1 38 v1 rfl rfl) h1
 have k2 := h2
 have lt2 : ∀ x ∈ p2, x.block < W.heap.size := by obtain ⟨m, hm⟩ := k2; exact DataW.trod_lt m _ _ _ hm
 obtain ⟨l2, o2⟩ := open_acts (hval 2 43 v2 rfl rfl) h2
 clear hA0 hval0 hsz0
 refine (walk o0 o1 (f1 fun m hm => by have := List.all_eq_true.1 hsz m (DataW.weights_mem_each (j := 1) (t := 38) rfl rfl m hm); simpa using this) o2).mono fun e W' ⟨he, bel⟩ => ?_
 subst he
 exact ⟨_, rfl, _, _, _, [], _, [], hW', trodAll_mk1 (shut_bool Try.underlying4 _), (trodAll_cons_mk (Below.trod laidOut (by kernel_rfl) (of_decide_eq_true (by kernel_rfl)) k0 bel lt0) (trodAll_cons_mk (Below.trod laidOut (by kernel_rfl) (of_decide_eq_true (by kernel_rfl)) k1 bel lt1) (trodAll_cons_mk (Below.trod laidOut (by kernel_rfl) (of_decide_eq_true (by kernel_rfl)) k2 bel lt2) trodAll_mk0))), rfl, bel.frame _, fun h => by cases h⟩
theorem over : Rows.padWithoutRow.holds Try.pinned (OpenSpec.ofChange Rows.padWithoutSpec) :=
 OpenClaim.holds_of_wide 5 Try.f5 rfl rfl rfl rfl rfl rfl rfl ⟨rfl, rfl, rfl, rfl, rfl⟩ rfl rfl rfl rfl rfl (by kernel_rfl) Try.func5 (by kernel_rfl)
  (of_decide_eq_true (by kernel_rfl)) (by unfold Func.isWrapper; first | (rw [if_pos (by decide +kernel)]; kernel_rfl) | (rw [if_neg (by decide +kernel)]; exact ⟨rfl, rfl⟩))
  (fun os started H enc _ => lifted os started H enc)
end PadWithoutLaw
/-- The statement. -/
theorem without_holds : Rows.PadWithoutSaid := PadWithoutLaw.over
end Go.Proofs.Ythcnganbnbhhoaa
