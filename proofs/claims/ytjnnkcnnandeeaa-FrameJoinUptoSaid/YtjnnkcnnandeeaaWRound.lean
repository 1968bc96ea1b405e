/- The walk of the statement FrameRound. -/
import Derived.Test.YtjnnkcnnandeeaaWAwake
import Derived.Test.YtjnnkcnnandeeaaWSentB
import Derived.Test.YtjnnkcnnandeeaaWSame
import Derived.Test.YtjnnkcnnandeeaaWNumbers
import Derived.Test.YtjnnkcnnandeeaaWRefFound
import Derived.Test.YtjnnkcnnandeeaaDet
namespace Go.Proofs.Ytjnnkcnnandeeaa
open Go.RowKit
/-- The frames of a Sent, numbered. -/
theorem nums_sentAs (z : Nat) : ∀ (a : List Nat) (n : Int) (p : Nat) (ps : List (Int × List Int)), (∀ x ∈ a, x < 256) → ps.map (·.1) = sNums n a → nums n (sentAs z p ps) = sNums n a
  | [], n, p, ps, _, h => by
    rw [sNums, List.map_eq_nil_iff] at h
    rw [h]; rfl
  | s :: a, n, p, [], _, h => by simp [sNums] at h
  | s :: a, n, p, q :: ps, hl, h => by
    rw [sNums, List.map_cons, List.cons.injEq] at h
    have hs := hl s (by simp)
    have e : nextOf n (q.1 % 256).toNat = n + (s : Int) := by unfold nextOf; rw [h.1]; omega
    rw [sentAs, nums]
    dsimp only
    rw [e, sNums, nums_sentAs z a _ _ ps (fun y hy => hl y (by simp [hy])) h.2]
theorem sPairs_fst (f : Fmt) (x : SentD) : (sPairs f x (sentNums x).length).map (·.1) = sentNums x := by
  unfold sPairs
  rw [List.map_map]
  have := map_range_getD (sentNums x) 0 (fun y : Int => y)
  rw [List.map_id'] at this
  exact this
section
variable {f : Fmt} {x : SentD}
theorem bytesOk_t (h : bytesOk f x = true) : (chk f).2.2 = 0 ∧ sentOk x = true ∧ (sBytes f x).length ≤ 4000 := by
  unfold bytesOk at h
  rw [Bool.and_eq_true, Bool.and_eq_true] at h
  exact ⟨of_decide_eq_true h.1, h.2.1, of_decide_eq_true h.2.2⟩
theorem frames_sent (h : bytesOk f x = true) (hw : ∀ y ∈ x.words, 0 ≤ y ∧ y < 65536) : framesOf f (sBytes f x) = sentAs (sizeF f) 0 (sPairs f x (sentNums x).length) := by
  obtain ⟨h1, h2, h3⟩ := bytesOk_t h
  obtain ⟨c1, c2, c3, c4, c5, _⟩ := chk_ok h1
  exact frames_cat (sPairs_ok c4 hw _)
theorem gaps_sent (h : bytesOk f x = true) (hw : ∀ y ∈ x.words, 0 ≤ y ∧ y < 65536) : gapsOf f (sBytes f x) = [] := by
  obtain ⟨h1, h2, h3⟩ := bytesOk_t h
  obtain ⟨c1, c2, c3, c4, c5, _⟩ := chk_ok h1
  exact gaps_cat (sPairs_ok c4 hw _)
theorem decErr_sent (h : bytesOk f x = true) : decErr f (sBytes f x).length = 0 := by
  obtain ⟨h1, h2, h3⟩ := bytesOk_t h
  unfold decErr
  rw [if_neg (by simpa using h1), if_neg (by omega)]
theorem frame_sent (h : bytesOk f x = true) (hw : ∀ y ∈ x.words, 0 ≤ y ∧ y < 65536) {i : Nat} (hi : i < (sentNums x).length) :
    (framesOf f (sBytes f x)).getD i default = ⟨i * sizeF f, ((sentNums x).getD i 0 % 256).toNat, sList x.words i f.words.toNat⟩ := by
  rw [frames_sent h hw, sentAs_at _ _ _ _ (by rw [sPairs_len]; exact hi), Nat.zero_add]
  have e : (sPairs f x (sentNums x).length).getD i default = sPair f x i := by
    unfold sPairs
    simp [List.getD_eq_getElem?_getD, hi]
  rw [e]
  rfl
theorem nums_sent (h : bytesOk f x = true) (hw : ∀ y ∈ x.words, 0 ≤ y ∧ y < 65536) (hs : ∀ y ∈ x.steps, y < 256) : numErr f (sBytes f x) x.first = 0 ∧ numsOf f (sBytes f x) x.first = sentNums x := by
  obtain ⟨h1, h2, h3⟩ := bytesOk_t h
  obtain ⟨s1, s2, s3, s4⟩ := sOk_t h2
  have hn : nums x.first (framesOf f (sBytes f x)) = sentNums x := by
    rw [frames_sent h hw]
    have e := sPairs_fst f x
    rw [s4] at e ⊢
    exact nums_sentAs _ _ _ _ _ hs e
  have ht : tapeErr f (sBytes f x).length x.first = 0 := by
    unfold tapeErr
    rw [if_neg (by simpa using h1), if_neg (by omega), if_neg (by rw [outB_f.2 ⟨s1, s2⟩]; decide)]
  have hr : readErr x.first (framesOf f (sBytes f x)) = 0 := by
    unfold readErr
    rw [hn, if_neg]
    unfold farB
    rw [List.any_eq_true]
    rintro ⟨y, hy, hlt⟩
    have := sentNums_bd h2 y hy
    have := of_decide_eq_true hlt
    omega
  have he : numErr f (sBytes f x) x.first = 0 := by unfold numErr; rw [if_pos ht, hr]
  exact ⟨he, by unfold numsOf; rw [if_pos he, hn]⟩
end
namespace FrameRoundLaw
set_option maxRecDepth 100000 in
set_option maxHeartbeats 4000000 in
theorem walk {v u : Value} {f : Fmt} {x : SentD} {w : World} (hv : FmtV w v f) (hu : SentV w u x) (hlen : x.steps.length ≤ 1048576) :
    Calls Try.prog 7 #[v, u] w fun e w' => e = .returned (.bool true) ∧ Below w.heap.size w w' := by
  have HV := hide hv
  have HU := hide hu
  have HWB := hide hu.1
  obtain ⟨_, _, AF, capF, rfl, _, _, _⟩ := hv
  obtain ⟨_, s, t, rfl, ⟨hst, As, caps, rfl, _, _, _⟩, ⟨A, cap, rfl, _, _, _⟩⟩ := hu
  have HST := hide hst
  clear hst
  obtain ⟨W0, hW0⟩ : ∃ W0, (w.alloc (.cells #[.string f.sync, .int .i64 f.words, .int .i64 f.depth, .slice AF f.channels.length capF] 28)).alloc (.cells #[.int .i64 x.first, .slice As x.steps.length caps, .slice A x.words.length cap] 55) = W0 := ⟨_, rfl⟩
  have hx0 : Ext w W0 := by rw [← hW0]; exact ((Ext.refl w).alloc _).alloc _
  have G0 := hide (show W0.cell? ⟨w.heap.size, 0, none⟩ = some (.string f.sync) by rw [← hW0]; simp)
  have G1 := hide (show W0.cell? ⟨w.heap.size, 1, none⟩ = some (.int .i64 f.words) by rw [← hW0]; simp)
  have G2 := hide (show W0.cell? ⟨w.heap.size, 2, none⟩ = some (.int .i64 f.depth) by rw [← hW0]; simp)
  have G3 := hide (show W0.cell? ⟨w.heap.size, 3, none⟩ = some (.slice AF f.channels.length capF) by rw [← hW0]; simp)
  have S0 := hide (show W0.cell? ⟨w.heap.size + 1, 0, none⟩ = some (.int .i64 x.first) by rw [← hW0]; simp)
  have S1 := hide (show W0.cell? ⟨w.heap.size + 1, 1, none⟩ = some (.slice As x.steps.length caps) by rw [← hW0]; simp)
  have S2 := hide (show W0.cell? ⟨w.heap.size + 1, 2, none⟩ = some (.slice A x.words.length cap) by rw [← hW0]; simp)
  have HX0 := hide hx0
  have HW0 := hide hW0
  clear hW0
  have HA := hide awake_any
  have HSB := hide (sbytes_any _ _ x f W0 (HU.out.ext hx0) (HV.out.ext hx0) hlen)
  unfold SbR at HSB
  clear hx0
  cases hok : bytesOk f x with
  | false =>
    rw [hok] at HSB
    clear hok
    go_enter Try.func7, Try.ntmps7
    go_wp2_with fail
    rw [HW0.out]
    refine Calls.mono HSB.out ?_
    rintro e w1 ⟨r, l, rfl, _, hx1⟩
    go_wp2_with (go_at_call 21; refine (HA.out _).mono ?_; rintro e w5 ⟨rfl, hx5⟩)
    go_ret
    exact ⟨rfl, (HX0.out.trans hx1).trans hx5⟩
  | true =>
    have HOK := hide hok
    obtain ⟨b1, b2, b3⟩ := bytesOk_t hok
    obtain ⟨c1, c2, c3, c4, c5, _⟩ := chk_ok b1
    have hnl : (sentNums x).length ≤ 1048576 := by rw [sentNums_len x b2]; exact hlen
    have hlz : (sBytes f x).length = (sentNums x).length * sizeF f := by
      have := cat_len (sPairs_ok (f := f) (x := x) c4 HWB.out (sentNums x).length)
      rw [sPairs_len] at this
      exact this
    have hzs : sizeF f ≤ 71 := by unfold sizeF bodyF; omega
    have HLZ := hide hlz
    have HDE := hide (decErr_sent hok)
    have HFR := hide (fun (i : Nat) (hi : i < (sentNums x).length) => frame_sent hok HWB.out hi)
    have HGA := hide (gaps_sent hok HWB.out)
    have HFL := hide (show (framesOf f (sBytes f x)).length = (sentNums x).length by rw [frames_sent hok HWB.out, sentAs_len, sPairs_len])
    obtain ⟨hn1, hn2⟩ := nums_sent hok HWB.out HST.out
    have HN1 := hide hn1
    have HN2 := hide hn2
    have HNB := hide (sentNums_bd b2)
    rw [hok] at HSB
    have HDC := hide (fun W b (hx : Ext w W) (hb : BytesV W b (sBytes f x)) => decode_any _ b f (sBytes f x) W (HV.out.ext hx) hb)
    have HNU := hide (fun W b (hx : Ext w W) (hb : BytesV W b (sBytes f x)) => numbers_any _ b f (sBytes f x) x.first W (HV.out.ext hx) hb)
    have HL := hide (fun W (i : Nat) (hx : Ext w W) (hi : i ≤ 1048576) => slist_any _ x i f.words.toNat W (HU.out.ext hx) hi (by omega))
    have HLE := hide (fun W (hx : Ext w W) => length_any _ f W (HV.out.ext hx) (by omega) (by omega) (by omega))
    unfold DecR at HDC
    rw [HDE.out] at HDC
    rw [HN1.out, HN2.out] at HNU
    rw [show ((f.words.toNat : Nat) : Int) = f.words by omega] at HL
    clear hok b1 b2 hn1 hn2 hlz b3
    go_enter Try.func7, Try.ntmps7
    go_wp2_with fail
    rw [HW0.out]
    refine Calls.mono HSB.out ?_
    rintro e w1 ⟨r, l, rfl, hrl, hx1⟩
    obtain ⟨hr, hl⟩ := hrl trivial
    have HX1 := hide (HX0.out.trans hx1)
    have HR := hide hr
    have HLL := hide hl
    obtain ⟨_, Ar, capr, rfl, _, _, _⟩ := hr
    obtain ⟨Al, capl, rfl, hcl, hml, hrowl⟩ := hl
    have hml' : capl ≤ 9223372036854775807 := by simpa [maxLen] using hml
    have HRL := hide hrowl
    have g0 := hx1.cell G0.out
    have g1 := hx1.cell G1.out
    have g2 := hx1.cell G2.out
    have g3 := hx1.cell G3.out
    have s0 := hx1.cell S0.out
    have s1 := hx1.cell S1.out
    have s2 := hx1.cell S2.out
    have HSX := hide hx1
    clear hx1 hrl hrowl hml
    go_wp2_with fail
    refine (HDC.out _ _ HX1.out HR.out).mono ?_
    rintro e w2 ⟨lv, gv, rfl, h1, _, hx2⟩
    obtain ⟨xs, hds, hfr, hga⟩ := h1 trivial
    have HDS := hide hds
    have hdl := ds_len xs
    rw [hds, HFL.out] at hdl
    obtain ⟨AL, capL, rfl, hcL, hmL, hrL, hwL⟩ := hfr
    have hgn : gapsOf f (sBytes f x) = [] := HGA.out
    rw [hgn] at hga
    obtain ⟨AG, capG, rfl, hcG, hmG, _⟩ := hga
    have hmL' : capL ≤ 9223372036854775807 := by simpa [maxLen] using hmL
    have HRX := hide hrL
    have HWX := hide hwL
    have HDL := hide hdl
    have HX2 := hide (HX1.out.trans hx2)
    have HS2 := hide hx2
    have k0 := hx2.cell g0
    have k1 := hx2.cell g1
    have k2 := hx2.cell g2
    have k3 := hx2.cell g3
    have j0 := hx2.cell s0
    have j1 := hx2.cell s1
    have j2 := hx2.cell s2
    have hd1 : ((xs.length : Int) != ((sentNums x).length : Int)) = false := by rw [hdl]; simp
    have hgl : ([] : List (Nat × Nat)).length = 0 := rfl
    clear h1 hds hdl hx2 hgn hrL hwL hmL hmG g0 g1 g2 g3 s0 s1 s2
    go_wp2_with fail
    go_loopw [11] (fun v11 wr => ∃ i : Nat, i ≤ (sentNums x).length ∧ v11 = .int .i64 i ∧ Ext w2 wr) (fun v11 _ => (sentNums x).length - (intOf v11).toNat)
    case atStart => exact ⟨0, by omega, rfl, Ext.refl _⟩
    case round =>
      obtain ⟨i, hi, rfl, hE⟩ := hrel
      have HXR := hide (HX2.out.trans hE)
      by_cases h8 : i < (sentNums x).length
      · obtain ⟨bx, offx, Bw, mw, cw, rfl, r0, r1, r2, hiw⟩ := frs_row (HRX.out.ext hE) (fun y hy => (HWX.out y hy).ext hE) (show i < xs.length by rw [← HDL.out]; exact h8)
        have hfi := HFR.out i h8
        rw [HDS.out, hfi] at r0 r1 hiw
        dsimp only at r0 r1 hiw
        obtain ⟨bn, bo, nx, rfl, _, hcn0, HNX⟩ := ints_at (HRL.out.ext ((HS2.out).trans hE)) h8
        have hnb := HNB.out _ (getD_mem (0 : Int) h8)
        rw [HNX.out] at r1 hnb
        have HLi := hide (fun W (hx : Ext wr W) => HL.out W i (HXR.out.trans hx) (by omega))
        have HII := hide (fun W v (hx : Ext wr W) (hv : IntsV W .i64 v (sList x.words i f.words.toNat)) => ints_any _ v _ _ W (hiw.ext hx) hv)
        have hiz : i * sizeF f ≤ 1048576 * 71 := Nat.mul_le_mul (by omega) hzs
        obtain ⟨p, hp⟩ : ∃ p, i * sizeF f = p := ⟨_, rfl⟩
        have HM1 := hide (show IntKind.i64.wrap ((i : Int) * (sizeF f : Int)) = (p : Int) by rw [IntKind.wrap_i64, ← Int.natCast_mul, hp]; omega)
        obtain ⟨c, hc⟩ : ∃ c, (nx % 256).toNat = c := ⟨_, rfl⟩
        have HM2 := hide (show nx.tmod 256 = (c : Int) by rw [Int.tmod_eq_emod_of_nonneg hnb.1]; omega)
        rw [hp] at r0
        rw [hc] at r1
        rw [decide_eq_true rfl] at HII
        clear hfi hiw hp hc hiz
        generalize sList x.words i f.words.toNat = sl at *
        generalize sizeF f = z at *
        have h8x : i < xs.length := by rw [← HDL.out]; exact h8
        have e0 := hE.cell k0
        have e1 := hE.cell k1
        have e2 := hE.cell k2
        have e3 := hE.cell k3
        have e4 := hE.cell j0
        have e5 := hE.cell j1
        have e6 := hE.cell j2
        go_wp2_with fail
        apply wp_region_f (50 :: 51 :: 52 :: 53 :: 54 :: 55 :: 56 :: 57 :: 58 :: 59 :: 60 :: 61 :: 62 :: 63 :: 64 :: 65 :: 66 :: 67 :: 68 :: 69 :: 70 :: 71 :: 72 :: 73 :: 74 :: 75 :: 76 :: 77 :: 78 :: 79 :: 80 :: 81 :: 82 :: 83 :: 84 :: 85 :: 86 :: [])
          (.is _ :: .is _ :: .is _ :: .is _ :: .is _ :: .is _ :: .is _ :: .is _ :: .is _ :: .is _ :: .is _ :: .is _ :: .is _ :: .is _ :: .is _ :: .is _ :: .is _ :: .is _ :: .is _ :: .is _ :: .is _ :: .is _ :: .is _ :: .is _ :: .is _ :: .is _ :: .is _ :: .is _ :: .is _ :: .is _ :: .is _ :: .is _ :: .is _ :: .so (fun v w => IntsV w .i64 v sl) :: .is _ :: .is _ :: .is _ :: [])
          [(2, _), (3, _), (6, _), (8, _), (11, _)]
        · kernel_rfl
        · decide
        · rfl
        · kernel_rfl
        · decide +kernel
        · kernel_rfl
        · kernel_rfl
        · kernel_rfl
        · kernel_rfl
        · rfl
        · exact ⟨trivial, trivial, trivial, trivial, trivial, trivial, trivial, trivial, trivial, trivial, trivial, trivial, trivial, trivial, trivial, trivial, trivial, trivial, trivial, trivial, trivial, trivial, trivial, trivial, trivial, trivial, trivial, trivial, trivial, trivial, trivial, trivial, trivial, fun _ _ _ h k => h.ext k, trivial, trivial, trivial, trivial⟩
        · refine ⟨?_, ?_, ?_, ?_, ?_, trivial⟩ <;> (simp; rfl)
        · repeat
            refine ⟨?_, ?_⟩
            · intro F W hF hd hR
              simp [fixedAt] at hF
              obtain ⟨t2, t3, t6, t8, t11⟩ := hF
              simp [Region.binds, Ent.holds] at hd
              refine ⟨fun _ K hK => ?_, by intro g b h hn; first | (cases h; done) | (cases h; exact absurd (by simp [hd]) hn)⟩
              simp only [Ent.holds, List.getD_cons_zero, List.getD_cons_succ] at hK
              have q0 := hR.cell e0
              have q1 := hR.cell e1
              have q2 := hR.cell e2
              have q3 := hR.cell e3
              have q4 := hR.cell e4
              have q5 := hR.cell e5
              have q6 := hR.cell e6
              have q7 := hR.cell hcn0
              have q8 := hR.cell r0
              have q9 := hR.cell r1
              have q10 := hR.cell r2
              have m1 := HM1.out
              have m2 := HM2.out
              go_simp
              first
                | exact hK _ _ rfl (Ext.refl _)
                | (with_reducible refine (HLi.out _ hR).mono ?_
                   rintro e w4 ⟨r, rfl, hi4, hx4⟩
                   exact hK _ _ hi4 hx4)
                | (with_reducible refine (HLE.out _ (HXR.out.trans hR)).mono ?_
                   rintro e w4 ⟨rfl, hx4⟩
                   exact hK _ _ rfl hx4)
                | (with_reducible refine (HII.out _ _ hR (by first | exact hd | exact hd.2 | exact hd.2.2 | exact hd.1 | exact hd.2.1)).mono ?_
                   rintro e w4 ⟨rfl, hx4⟩
                   exact hK _ _ rfl hx4)
          exact trivial
        intro X W hx hR
        simp only [toldX] at hx
        simp only [fillX, List.setIfInBounds_toArray, List.set_cons_succ, List.set_cons_zero]
        have HRR := hide (hE.trans hR)
        clear hx hR
        go_wp2_with fail
        go_roundw
        case rel => exact ⟨i + 1, by omega, by go_num, HRR.out⟩
        case measure => simp [intOf]; omega
      · obtain rfl : i = (sentNums x).length := by omega
        have e0 := hE.cell k0
        have e1 := hE.cell k1
        have e2 := hE.cell k2
        have e3 := hE.cell k3
        have e4 := hE.cell j0
        have HRW := hide (HR.out.ext (HS2.out.trans hE))
        have HLW := hide (HLL.out.ext (HS2.out.trans hE))
        clear h8 hi
        go_wp2_with fail
        refine (HNU.out _ _ HXR.out HRW.out).mono ?_
        rintro e w3 ⟨m, rfl, hm, hx3⟩
        have HII := hide (ints_any _ m _ _ w3 (HLW.out.ext hx3) hm)
        rw [decide_eq_true rfl] at HII
        have hz0 : ((0 : Int) == 0) = true := rfl
        go_wp2_with first
          | (go_at_call 24; refine HII.out.mono ?_; rintro e w4 ⟨rfl, hx4⟩)
          | (go_at_call 21; refine (HA.out _).mono ?_; rintro e w5 ⟨rfl, hx5⟩)
        go_ret
        exact ⟨rfl, ((HXR.out.trans hx3).trans hx4).trans hx5⟩
end FrameRoundLaw
end Go.Proofs.Ytjnnkcnnandeeaa
