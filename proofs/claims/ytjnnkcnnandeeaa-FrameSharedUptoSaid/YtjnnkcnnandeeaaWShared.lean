/- The walk of the statement FrameShared. -/
import Derived.Test.YtjnnkcnnandeeaaWAwake
import Derived.Test.YtjnnkcnnandeeaaPShared
import Derived.Test.YtjnnkcnnandeeaaWVals
import Derived.Test.YtjnnkcnnandeeaaWRefFound
import Derived.Test.YtjnnkcnnandeeaaDetS
import Derived.IntWalk
import Derived.Deep.Cut
namespace Go.Proofs.Ytjnnkcnnandeeaa
open Go.RowKit
/-- What Commute hands back. -/
def ComR (l : List Int) (v : Value) (w : World) : Prop := ∃ r, v = .tuple #[r, .int .i64 0] ∧ IntsV w .i64 r l
theorem ComR.ext {l : List Int} {v : Value} {A B : World} (h : ComR l v A) (k : Ext A B) : ComR l v B := by
  obtain ⟨r, h1, h2⟩ := h
  exact ⟨r, h1, h2.ext k⟩
/-- A pointer to a number. -/
def PtrI (y : Int) (v : Value) (w : World) : Prop := ∃ b o, v = .pointer (some ⟨b, o, none⟩) ∧ w.cell? ⟨b, o, none⟩ = some (.int .i64 y)
theorem PtrI.ext {y : Int} {v : Value} {A B : World} (h : PtrI y v A) (k : Ext A B) : PtrI y v B := by
  obtain ⟨b, o, h1, h2⟩ := h
  exact ⟨b, o, h1, k.cell h2⟩
theorem wf_nat {n : Nat} (h : n ≤ 1000000) : (Lit.int .i64 (n : Int)).wf = true := by
  have := wrap64_wf (n : Int)
  rwa [IntWalk.wrap64_in (n : Int) (by omega)] at this
namespace FrameSharedLaw
set_option maxRecDepth 100000 in
set_option maxHeartbeats 8000000 in
theorem walk {v u : Value} {f : Fmt} {x : SentD} {w : World} (hv : FmtV w v f) (hu : SentV w u x) (hlen : x.steps.length ≤ 1048576) :
    Calls Try.prog 12 #[v, u] w fun e w' => e = .returned (.bool true) ∧ Below w.heap.size w w' := by
  have HV := hide hv
  have HU := hide hu
  have HWB := hide hu.1
  obtain ⟨_, _, AF, capF, rfl, hcF, hmF, hrowF⟩ := hv
  have hmF' : capF ≤ 9223372036854775807 := by simpa [maxLen] using hmF
  have HRF := hide hrowF
  obtain ⟨_, s, t, rfl, ⟨hst, As, caps, rfl, _, _, _⟩, ⟨A, cap, rfl, _, _, _⟩⟩ := hu
  have HST := hide hst
  clear hst hrowF hmF
  obtain ⟨W0, hW0⟩ : ∃ W0, (w.alloc (.cells #[.string f.sync, .int .i64 f.words, .int .i64 f.depth, .slice AF f.channels.length capF] 28)).alloc (.cells #[.int .i64 x.first, .slice As x.steps.length caps, .slice A x.words.length cap] 55) = W0 := ⟨_, rfl⟩
  have hx0 : Ext w W0 := by rw [← hW0]; exact ((Ext.refl w).alloc _).alloc _
  have G0 := hide (show W0.cell? ⟨w.heap.size, 0, none⟩ = some (.string f.sync) by rw [← hW0]; simp)
  have G1 := hide (show W0.cell? ⟨w.heap.size, 1, none⟩ = some (.int .i64 f.words) by rw [← hW0]; simp)
  have G2 := hide (show W0.cell? ⟨w.heap.size, 2, none⟩ = some (.int .i64 f.depth) by rw [← hW0]; simp)
  have G3 := hide (show W0.cell? ⟨w.heap.size, 3, none⟩ = some (.slice AF f.channels.length capF) by rw [← hW0]; simp)
  have S0 := hide (show W0.cell? ⟨w.heap.size + 1, 0, none⟩ = some (.int .i64 x.first) by rw [← hW0]; simp)
  have S1 := hide (show W0.cell? ⟨w.heap.size + 1, 1, none⟩ = some (.slice As x.steps.length caps) by rw [← hW0]; simp)
  have S2 := hide (show W0.cell? ⟨w.heap.size + 1, 2, none⟩ = some (.slice A x.words.length cap) by rw [← hW0]; simp)
  have HX0 := hide hx0
  have HW0 := hide hW0
  clear hW0
  have HA := hide awake_any
  have HCH := hide (check_any _ f W0 (HV.out.ext hx0))
  have HNU := hide (fun W (hx : Ext w W) => snumbers_any _ x W (HU.out.ext hx) hlen)
  clear hx0
  by_cases hc : (chk f).2.2 = 0
  · have HC := hide hc
    rw [hc] at HCH
    obtain ⟨k1, k2, k3, k4, k5, _⟩ := chk_ok hc
    generalize (chk f).1 = ck1 at *
    generalize (chk f).2.1 = ck2 at *
    clear hc
    have hd1 : ¬ f.words < 1 := by omega
    cases hs : sentOk x with
    | false =>
      rw [hs] at HNU
      clear hs
      go_enter Try.func12, Try.ntmps12
      go_wp2_with fail
      rw [HW0.out]
      refine Calls.mono HCH.out ?_
      rintro e w1 ⟨rfl, hx1⟩
      have s0 := hx1.cell S0.out
      have s1 := hx1.cell S1.out
      have s2 := hx1.cell S2.out
      have HX1 := hide (HX0.out.trans hx1)
      clear hx1
      go_wp2_with fail
      refine (HNU.out _ HX1.out).mono ?_
      rintro e w2 ⟨r, rfl, hr, hx2⟩
      go_wp2_with (go_at_call 21; refine (HA.out _).mono ?_; rintro e w5 ⟨rfl, hx5⟩)
      go_ret
      exact ⟨rfl, (HX1.out.trans hx2).trans hx5⟩
    | true =>
      have HS := hide hs
      rw [hs] at HNU
      have hnl : (sentNums x).length ≤ 1048576 := by rw [sentNums_len x hs]; exact hlen
      have hhl : (hBytes f x).length = (sentNums x).length * sizeF f := by
        have := cat_len (hPairs_ok (f := f) (x := x) k4 HWB.out (sentNums x).length)
        rw [hPairs_len] at this
        exact this
      have HHL := hide hhl
      have HLE := hide (fun W (hx : Ext w W) => length_any _ f W (HV.out.ext hx) (by omega) (by omega) (by omega))
      have hzs : sizeF f ≤ 71 := by unfold sizeF bodyF; omega
      have hlz : (sentNums x).length * sizeF f ≤ 1048576 * 71 := Nat.mul_le_mul hnl hzs
      obtain ⟨p, hp⟩ : ∃ p, (sentNums x).length * sizeF f = p := ⟨_, rfl⟩
      have hM := show IntKind.i64.wrap (((sentNums x).length : Int) * (sizeF f : Int)) = (p : Int) by rw [IntKind.wrap_i64, ← Int.natCast_mul, hp]; omega
      have HM := hide hM
      have HP := hide hp
      rw [hp] at hlz
      have hlz' : p ≤ 80000000 := by omega
      clear hs hhl hp hM hlz
      go_enter Try.func12, Try.ntmps12
      go_wp2_with fail
      rw [HW0.out]
      refine Calls.mono HCH.out ?_
      rintro e w1 ⟨rfl, hx1⟩
      have s0 := hx1.cell S0.out
      have s1 := hx1.cell S1.out
      have s2 := hx1.cell S2.out
      have HX1 := hide (HX0.out.trans hx1)
      have HE1 := hide hx1
      clear hx1
      go_wp2_with fail
      refine (HNU.out _ HX1.out).mono ?_
      rintro e w2 ⟨r, rfl, hr, hx2⟩
      have HX2 := hide (HX1.out.trans hx2)
      have HR := hide hr
      obtain ⟨An, capn, rfl, hcn, hmn, hrn⟩ := hr
      have hmn' : capn ≤ 9223372036854775807 := by simpa [maxLen] using hmn
      have HRN := hide hrn
      have g0 := hx2.cell (HE1.out.cell G0.out)
      have g1 := hx2.cell (HE1.out.cell G1.out)
      have g2 := hx2.cell (HE1.out.cell G2.out)
      have g3 := hx2.cell (HE1.out.cell G3.out)
      have t0 := hx2.cell s0
      have t1 := hx2.cell s1
      have t2 := hx2.cell s2
      clear hx2 s0 s1 s2 hmn hrn
      by_cases hp4 : 4000 < p
      · have hp5 : decide ((4000 : Int) < (p : Int)) = true := by simp; omega
        go_upto_region 3 with (fail)
        apply wp_region_s (31 :: 32 :: 33 :: 34 :: 35 :: 36 :: 37 :: 38 :: 39 :: 40 :: 41 :: 42 :: 43 :: 44 :: 45 :: 46 :: 47 :: 48 :: 49 :: [])
          (.is _ :: .is _ :: .is _ :: .is _ :: .is _ :: .is _ :: .is _ :: .is _ :: .is _ :: .is _ :: .is _ :: .is _ :: .is _ :: .is _ :: .is _ :: .is _ :: .is _ :: .is _ :: .is _ :: [])
          [(2, _), (7, _), (8, _), (9, _)]
        · decide
        · rfl
        · kernel_rfl
        · decide +kernel
        · kernel_rfl
        · kernel_rfl
        · kernel_rfl
        · kernel_rfl
        · rfl
        · exact ⟨trivial, trivial, trivial, trivial, trivial, trivial, trivial, trivial, trivial, trivial, trivial, trivial, trivial, trivial, trivial, trivial, trivial, trivial, trivial, trivial⟩
        · refine ⟨?_, ?_, ?_, ?_, trivial⟩ <;> (simp; rfl)
        · repeat
            refine ⟨?_, ?_⟩
            · intro F W hF hd hR
              simp [fixedAt] at hF
              obtain ⟨t2, t7, t8, t9⟩ := hF
              simp [Region.binds, Ent.holds] at hd
              refine ⟨fun hgd K hK => ?_, by intro g b h hn; first | (cases h; done) | (cases h; refine absurd ?_ hn; simp [hd]; done) | (cases h; exact ⟨rfl, Ext.refl _⟩)⟩
              first
                | (refine absurd (hgd _ _ rfl) ?_; simp [hd]; done)
                | (simp only [Ent.holds, List.getD_cons_zero, List.getD_cons_succ] at hK
                   have q0 := hR.cell g0
                   have q1 := hR.cell g1
                   have q2 := hR.cell g2
                   have q3 := hR.cell g3
                   have m1 := HM.out
                   go_simp
                   first
                     | exact hK _ _ rfl (Ext.refl _)
                     | (with_reducible refine (HLE.out _ (HX2.out.trans hR)).mono ?_
                        rintro e w4 ⟨rfl, hx4⟩
                        exact hK _ _ rfl hx4))
          exact trivial
        intro X W hx hR
        simp only [toldX] at hx
        simp only [fillX, List.setIfInBounds_toArray, List.set_cons_succ, List.set_cons_zero]
        go_wp2_with (go_at_call 21; refine (HA.out _).mono ?_; rintro e w5 ⟨rfl, hx5⟩)
        go_ret
        exact ⟨rfl, (HX2.out.trans hR).trans hx5⟩
      · have hp5 : decide ((4000 : Int) < (p : Int)) = false := by simp; omega
        go_upto_region 3 with (fail)
        apply wp_region_s (31 :: 32 :: 33 :: 34 :: 35 :: 36 :: 37 :: 38 :: 39 :: 40 :: 41 :: 42 :: 43 :: 44 :: 45 :: 46 :: 47 :: 48 :: 49 :: [])
          (.is _ :: .is _ :: .is _ :: .is _ :: .is _ :: .is _ :: .is _ :: .is _ :: .is _ :: .is _ :: .is _ :: .is _ :: .is _ :: .is _ :: .is _ :: .is _ :: .is _ :: .is _ :: .is _ :: [])
          [(2, _), (7, _), (8, _), (9, _)]
        · decide
        · rfl
        · kernel_rfl
        · decide +kernel
        · kernel_rfl
        · kernel_rfl
        · kernel_rfl
        · kernel_rfl
        · rfl
        · exact ⟨trivial, trivial, trivial, trivial, trivial, trivial, trivial, trivial, trivial, trivial, trivial, trivial, trivial, trivial, trivial, trivial, trivial, trivial, trivial, trivial⟩
        · refine ⟨?_, ?_, ?_, ?_, trivial⟩ <;> (simp; rfl)
        · repeat
            refine ⟨?_, ?_⟩
            · intro F W hF hd hR
              simp [fixedAt] at hF
              obtain ⟨t2, t7, t8, t9⟩ := hF
              simp [Region.binds, Ent.holds] at hd
              refine ⟨fun _ K hK => ?_, by intro g b h hn; first | (cases h; done) | (cases h; exact absurd (by simp [hd]) hn)⟩
              simp only [Ent.holds, List.getD_cons_zero, List.getD_cons_succ] at hK
              have q0 := hR.cell g0
              have q1 := hR.cell g1
              have q2 := hR.cell g2
              have q3 := hR.cell g3
              have m1 := HM.out
              go_simp
              first
                | exact hK _ _ rfl (Ext.refl _)
                | (with_reducible refine (HLE.out _ (HX2.out.trans hR)).mono ?_
                   rintro e w4 ⟨rfl, hx4⟩
                   exact hK _ _ rfl hx4)
          exact trivial
        intro X W hx hR
        simp only [toldX] at hx
        simp only [fillX, List.setIfInBounds_toArray, List.set_cons_succ, List.set_cons_zero]
        have HX3 := hide (HX2.out.trans hR)
        have u0 := hR.cell g0
        have u1 := hR.cell g1
        have u2 := hR.cell g2
        have u3 := hR.cell g3
        have v0 := hR.cell t0
        have v1 := hR.cell t1
        have v2 := hR.cell t2
        have HRN3 := hide (HRN.out.ext hR)
        clear hR hx g0 g1 g2 g3 t0 t1 t2
        go_wp2_with fail
        have HP4 : (hBytes f x).length ≤ 4000 := by rw [HHL.out, HP.out]; omega
        obtain ⟨i0, hi0, hz0, hz1, hz2⟩ := info_parts u8_info
        obtain ⟨w3, hw3⟩ : ∃ w3, W = w3 := ⟨_, rfl⟩
        subst hw3
        have HEN := hide (fun (i : Nat) (hi : i < (sentNums x).length) => com_sent HC.out HS.out HWB.out hi)
        have HLL := hide (fun V (i : Nat) (hx : Ext w V) (hi : i ≤ 1048576) => slist_any _ x i f.channels.length V (HU.out.ext hx) hi (by omega))
        have HCC := hide (fun V r (i : Nat) (hx : Ext w V) (hr : IntsV V .i64 r (hList f x i)) => commute_any _ r f ((sentNums x).getD i 0) (hList f x i) V (HV.out.ext hx) hr)
        have HEE := hide (fun V r (i : Nat) (hx : Ext w V) (hr : IntsV V .i64 r (hPair f x i).2) => encode_any _ r f ((sentNums x).getD i 0) (hPair f x i).2 V (HV.out.ext hx) hr)
        have HVL := hide (fun V b (c : Nat) (hc : c < f.channels.length) (hx : Ext w V) (hb : BytesV V b (hBytes f x)) => values_any _ b f (hBytes f x) x.first c V (wf_nat (by omega)) (HV.out.ext hx) hb)
        have HTS := hide (fun (c : Nat) (hc : c < f.channels.length) => tape_sent HC.out HS.out HWB.out HST.out HP4 hc)
        clear HP4
        go_loopw [10, 11] (fun v10 v11 wr => ∃ i : Nat, i ≤ (sentNums x).length ∧ v11 = .int .i64 i ∧ Ext W wr ∧ Hid (Own wr W.heap.size 5 1 v10 (i * sizeF f) ((cat f (hPairs f x i)).map byteV))) (fun _ v11 _ => (sentNums x).length - (intOf v11).toNat)
        case atStart => exact ⟨0, by omega, rfl, Ext.refl _, hide (Own.of_eq (Own.nil _ _ _ _) (by simp) rfl)⟩
        case round =>
          obtain ⟨i, hi, rfl, hE, HO⟩ := hrel
          have HXR := hide (HX3.out.trans hE)
          obtain ⟨A10, c10, rfl, hl10, hm10, _⟩ := HO.out.form
          have hm10' : c10 ≤ 9223372036854775807 := by simpa [maxLen] using hm10
          clear hm10
          by_cases h8 : i < (sentNums x).length
          · obtain ⟨n1, n2, n3, n4⟩ := HEN.out i h8
            have HCi := hide (fun V r (hx : Ext wr V) (hr : IntsV V .i64 r (hList f x i)) => HCC.out V r i (HXR.out.trans hx) hr)
            have HEi0 := hide (fun V r (hx : Ext wr V) (hr : IntsV V .i64 r (hPair f x i).2) => HEE.out V r i (HXR.out.trans hx) hr)
            have HLi := hide (fun V (hx : Ext wr V) => HLL.out V i (HXR.out.trans hx) (by omega))
            rw [n1, n2] at HCi
            rw [n3, n4] at HEi0
            change Hid (∀ V, Ext wr V → Calls Try.prog 37 #[_, .int .i64 i, .int .i64 f.channels.length] V fun e w' => ∃ r, e = .returned r ∧ IntsV w' .i64 r (hList f x i) ∧ Ext V w') at HLi
            have HFL := hide (frameOf_len (hPair_ok (f := f) (x := x) k4 HWB.out i))
            have HSN := hide (hPairs_snoc (f := f) (x := x) i)
            obtain ⟨bn, bo, nx, rfl, _, hcn0, HNX⟩ := ints_at (HRN3.out.ext hE) h8
            rw [HNX.out] at HCi HEi0
            have HSZ := hide (show (i + 1) * sizeF f = i * sizeF f + sizeF f from Nat.succ_mul _ _)
            have him : i * sizeF f ≤ p := by rw [← HP.out]; exact Nat.mul_le_mul_right _ hi
            generalize hList f x i = hl at *
            generalize hcl : (hPair f x i).2 = cl at *
            generalize hfr : frameOf f (hPair f x i).1 cl = fr at *
            generalize sizeF f = z at *
            generalize i * z = iz at *
            clear n1 n2 n3 n4 hcl hfr
            have e0 := hE.cell u0
            have e1 := hE.cell u1
            have e2 := hE.cell u2
            have e3 := hE.cell u3
            have e4 := hE.cell v0
            have e5 := hE.cell v1
            have e6 := hE.cell v2
            go_wp2_with fail
            apply wp_region_f (58 :: 59 :: 60 :: 61 :: 62 :: 63 :: 64 :: 65 :: 66 :: 67 :: 68 :: 69 :: 57 :: 70 :: 71 :: 12 :: 13 :: [])
              (.is _ :: .is _ :: .is _ :: .is _ :: .is _ :: .is _ :: .is _ :: .is _ :: .is _ :: .is _ :: .so (fun v w => IntsV w .i64 v hl) :: .so (ComR cl) :: .so (ComR cl) :: .so (fun v w => IntsV w .i64 v cl) :: .is _ :: .so (fun v w => IntsV w .i64 v cl) :: .is _ :: [])
              [(2, _), (3, _), (8, _), (11, _)]
            · kernel_rfl
            · decide
            · rfl
            · kernel_rfl
            · decide +kernel
            · kernel_rfl
            · kernel_rfl
            · kernel_rfl
            · kernel_rfl
            · rfl
            · exact ⟨trivial, trivial, trivial, trivial, trivial, trivial, trivial, trivial, trivial, trivial, fun _ _ _ h k => h.ext k, fun _ _ _ h k => h.ext k, fun _ _ _ h k => h.ext k, fun _ _ _ h k => h.ext k, trivial, fun _ _ _ h k => h.ext k, trivial, trivial⟩
            · refine ⟨?_, ?_, ?_, ?_, trivial⟩ <;> (simp; rfl)
            · repeat
                refine ⟨?_, ?_⟩
                · intro F W1 hF hd hR
                  simp [fixedAt] at hF
                  obtain ⟨t2, t3, t8, t11⟩ := hF
                  simp [Region.binds, Ent.holds] at hd
                  refine ⟨fun _ K hK => ?_, by intro g b h hn; first | (cases h; done) | (cases h; exact absurd (by simp [hd]) hn)⟩
                  simp only [Ent.holds, List.getD_cons_zero, List.getD_cons_succ] at hK
                  have q0 := hR.cell e0
                  have q1 := hR.cell e1
                  have q2 := hR.cell e2
                  have q3 := hR.cell e3
                  have q4 := hR.cell e4
                  have q5 := hR.cell e5
                  have q6 := hR.cell e6
                  have q7 := hR.cell hcn0
                  go_simp
                  first
                    | exact hK _ _ rfl (Ext.refl _)
                    | (with_reducible refine (HLi.out _ hR).mono ?_
                       rintro e w4 ⟨r, rfl, hi4, hx4⟩
                       exact hK _ _ hi4 hx4)
                    | (with_reducible refine (HCi.out _ _ hR (by first | exact hd | exact hd.2 | exact hd.2.2 | exact hd.1 | exact hd.2.1)).mono ?_
                       rintro e w4 ⟨r, rfl, hb4, hx4⟩
                       exact hK _ _ ⟨r, rfl, hb4⟩ hx4)
                    | (exact hK _ _ hd (Ext.refl _))
                    | (obtain ⟨r, hr, hb⟩ := hd
                       simp only [hr] at hK ⊢
                       go_simp
                       first
                         | exact hK _ _ hb (Ext.refl _)
                         | exact hK _ _ rfl (Ext.refl _))
                    | (exact hK _ _ hd.1 (Ext.refl _))
              exact trivial
            intro X W1 hx hR
            simp only [toldX] at hx
            simp only [fillX, List.setIfInBounds_toArray, List.set_cons_succ, List.set_cons_zero]
            obtain ⟨hx68, hx69, hx57, hx70, hx12, _⟩ := hx
            have HX12 := hide hx12
            have HR1 := hide hR
            have HEi := hide (fun V (hy : Ext W1 V) => HEi0.out V _ (hR.trans hy) (hx12.ext hy))
            have HX1' := hide (HXR.out.trans hR)
            have HXW := hide (hE.trans hR)
            have HOW := hide (HO.out.ext hR)
            have j0 := hR.cell e0
            have j1 := hR.cell e1
            have j2 := hR.cell e2
            have j3 := hR.cell e3
            have j4 := hR.cell e4
            have j5 := hR.cell e5
            have j6 := hR.cell e6
            have jc := hR.cell hcn0
            clear hx68 hx69 hx57 hx70 hx12 hR e0 e1 e2 e3 e4 e5 e6 hcn0 hE
            have hz9 : ((0 : Int) != 0) = false := by decide
            go_wp2_with fail
            apply wp_region_f [75, 76, 77, 78, 79, 80, 81, 74, 82, 83, 14, 13]
              [.is _, .is _, .is _, .is _, .is _, .is _, .so (EncR fr), .so (EncR fr), .so (fun v w => BytesV w v fr), .is _, .so (fun v w => BytesV w v fr), .is _]
              [(2, _), (8, _), (11, _), (12, _)]
            · kernel_rfl
            · decide
            · rfl
            · kernel_rfl
            · decide +kernel
            · kernel_rfl
            · kernel_rfl
            · kernel_rfl
            · kernel_rfl
            · rfl
            · exact ⟨trivial, trivial, trivial, trivial, trivial, trivial, fun _ _ _ h k => h.ext k, fun _ _ _ h k => h.ext k, fun _ _ _ h k => h.ext k, trivial, fun _ _ _ h k => h.ext k, trivial, trivial⟩
            · refine ⟨?_, ?_, ?_, ?_, trivial⟩ <;> (simp; rfl)
            · repeat
                refine ⟨?_, ?_⟩
                · intro F W2 hF hd hR
                  simp [fixedAt] at hF
                  obtain ⟨t2, t8, t11, t12⟩ := hF
                  simp [Region.binds, Ent.holds] at hd
                  refine ⟨fun _ K hK => ?_, by intro g b h hn; first | (cases h; done) | (cases h; exact absurd (by simp [hd]) hn)⟩
                  simp only [Ent.holds, List.getD_cons_zero, List.getD_cons_succ] at hK
                  have q0 := hR.cell j0
                  have q1 := hR.cell j1
                  have q2 := hR.cell j2
                  have q3 := hR.cell j3
                  have q4 := hR.cell j4
                  have q5 := hR.cell j5
                  have q6 := hR.cell j6
                  have q7 := hR.cell jc
                  go_simp
                  first
                    | exact hK _ _ rfl (Ext.refl _)
                    | (with_reducible refine (HEi.out _ hR).mono ?_
                       rintro e w4 ⟨r, rfl, hb4, hx4⟩
                       exact hK _ _ ⟨r, rfl, hb4⟩ hx4)
                    | (exact hK _ _ hd (Ext.refl _))
                    | (obtain ⟨r, hr, hb⟩ := hd
                       simp only [hr] at hK ⊢
                       go_simp
                       first
                         | exact hK _ _ hb (Ext.refl _)
                         | exact hK _ _ rfl (Ext.refl _))
                    | (exact hK _ _ hd.1 (Ext.refl _))
              exact trivial
            intro X2 W2 hx hR
            simp only [toldX] at hx
            simp only [fillX, List.setIfInBounds_toArray, List.set_cons_succ, List.set_cons_zero]
            obtain ⟨hy81, hy74, hy82, hy14, _⟩ := hx
            have hb := hy14
            obtain ⟨_, Ab, cb, eb, _, _, _⟩ := hb
            rw [eb] at hy14
            have HSRC := hide hy14.src.2
            rw [HFL.out] at eb HSRC
            have HEW := hide (HXW.out.trans hR)
            have HOW2 := hide (HOW.out.ext hR)
            have hszw := (HXW.out.trans hR).size
            clear hy81 hy74 hy82 hy14 hR
            rw [eb]
            go_wp2_with (
              at_builtin
              refine wpList_app rfl (.tmp 86) (.tmp 87) 22 rfl W.heap.size 5 i0 _ 1 1 Try.underlying22 hi0 hz0 hz1 hz2 rfl _ iz _ rfl HOW2.out Ab z cb (fr.map byteV) rfl HSRC.out (byteV_one _) (by simp [maxLen]; omega) (by omega) hszw ?_
              intro v4 w4 hown4 hb4)
            go_roundw
            case rel => exact ⟨i + 1, by omega, by go_num, HEW.out.step hb4 (Nat.le_refl _), hide (Own.of_eq hown4 HSZ.out.symm (by rw [HSN.out, List.map_append]))⟩
            case measure => simp [intOf]; omega
          · obtain rfl : i = (sentNums x).length := by omega
            have HBY := hide (show BytesV wr (.slice A10 ((sentNums x).length * sizeF f) c10) (hBytes f x) from Own.bytes HO.out (cat_lt (hPairs_ok (f := f) (x := x) k4 HWB.out (sentNums x).length)))
            generalize (sentNums x).length * sizeF f = iz at *
            have e0 := hE.cell u0
            have e1 := hE.cell u1
            have e2 := hE.cell u2
            have e3 := hE.cell u3
            have e4 := hE.cell v0
            have e5 := hE.cell v1
            have e6 := hE.cell v2
            have HRN5 := hide (HRN3.out.ext hE)
            clear hE h8 hi u0 u1 u2 u3 v0 v1 v2
            obtain ⟨wo, hwo⟩ : ∃ wo, wr = wo := ⟨_, rfl⟩
            subst hwo
            go_wp2_with fail
            go_loopw [15] (fun v15 wq => ∃ c : Nat, c ≤ f.channels.length ∧ v15 = .int .i64 c ∧ Ext wr wq) (fun v15 _ => f.channels.length - (intOf v15).toNat)
            case atStart => exact ⟨0, by omega, rfl, Ext.refl _⟩
            case round =>
              obtain ⟨c, hc, rfl, hE⟩ := hrel
              have HXc := hide (HXR.out.trans hE)
              have j0 := hE.cell e0
              have j1 := hE.cell e1
              have j2 := hE.cell e2
              have j3 := hE.cell e3
              have j4 := hE.cell e4
              have j5 := hE.cell e5
              have j6 := hE.cell e6
              have HRN6 := hide (HRN5.out.ext hE)
              by_cases h9 : c < f.channels.length
              · obtain ⟨_, t2, t3⟩ := HTS.out c h9
                have HVc := hide (HVL.out _ _ c h9 HXc.out (HBY.out.ext hE))
                rw [t2, show valsOf f (hBytes f x) x.first c = hVals f x c (sentNums x).length from t3] at HVc
                have HEc := hide hE
                have HFC := hide (show Rows2 _ AF f.channels.length 4 (fun i k => (f.channels.getD i default).cell k) from HRF.out.ext HXc.out)
                clear t2 t3 hE e0 e1 e2 e3 e4 e5 e6
                go_wp2_with fail
                refine HVc.out.mono ?_
                rintro e w6 ⟨vr, rfl, hvr, hx6⟩
                obtain ⟨Av, capv, rfl, hcv, hmv, hrv⟩ := hvr
                have hmv' : capv ≤ 9223372036854775807 := by simpa [maxLen] using hmv
                have HRV := hide hrv
                have HX6 := hide (HXc.out.trans hx6)
                have HEw := hide (HEc.out.trans hx6)
                have HRN7 := hide (HRN6.out.ext hx6)
                have HFC7 := hide (HFC.out.ext hx6)
                have k0 := hx6.cell j0
                have k1' := hx6.cell j1
                have k2' := hx6.cell j2
                have k3' := hx6.cell j3
                have k4' := hx6.cell j4
                have k5' := hx6.cell j5
                have k6' := hx6.cell j6
                clear hx6 hrv hmv j0 j1 j2 j3 j4 j5 j6
                have hz9 : ((0 : Int) != 0) = false := by decide
                go_wp2_with fail
                go_loopw [18, 19] (fun v18 v19 wz => ∃ i : Nat, i ≤ (sentNums x).length ∧ v19 = .int .i64 i ∧ v18 = .int .i64 ((hVals f x c i).length : Nat) ∧ Ext w6 wz) (fun _ v19 _ => (sentNums x).length - (intOf v19).toNat)
                case atStart => exact ⟨0, by omega, rfl, rfl, Ext.refl _⟩
                case round =>
                  obtain ⟨i, hi, rfl, rfl, hE7⟩ := hrel
                  have HX7 := hide (HX6.out.trans hE7)
                  have l0 := hE7.cell k0
                  have l1 := hE7.cell k1'
                  have l2 := hE7.cell k2'
                  have l3 := hE7.cell k3'
                  have l4 := hE7.cell k4'
                  have l5 := hE7.cell k5'
                  have l6 := hE7.cell k6'
                  by_cases h10 : i < (sentNums x).length
                  · obtain ⟨bc, oc, nm, wd, ev, ph, rfl, _, hk0, hk1, hk2, hk3, HCC2⟩ := chans_at (HFC7.out.ext hE7) h9
                    obtain ⟨bn, bo, nx, rfl, _, hcn0, HNX⟩ := ints_at (HRN7.out.ext hE7) h10
                    have hnb := sentNums_bd HS.out _ (getD_mem (0 : Int) h10)
                    rw [HNX.out] at hnb
                    obtain ⟨_, _, _, _, _, _, _, _, q9⟩ := chk_ok HC.out
                    obtain ⟨_, _, _, q4, _, q6, _⟩ := chanErr_ok (q9 c h9)
                    rw [HCC2.out] at q4 q6
                    have q6' := outB_f.1 q6
                    dsimp only at q4 q6'
                    have hdv : decide (ev < 1) = false := by simp; omega
                    obtain ⟨m, hm⟩ : ∃ m, nx % ev = m := ⟨_, rfl⟩
                    have HM1 := hide (show nx.tmod ev = m by rw [Int.tmod_eq_emod_of_nonneg hnb.1]; exact hm)
                    have HMM := hide hm
                    have hev0 : ¬ ev = 0 := by omega
                    have hvl := valAt_len (f.channels.getD c default) (sentNums x) (sentAs (sizeF f) 0 (hPairs f x (sentNums x).length)) i
                    have hvl' : (hVals f x c i).length ≤ 1048576 := Nat.le_trans hvl (by omega)
                    clear q9 q4 q6 q6' hm hvl
                    by_cases hin : m = ph
                    · have hat := hVals_at (f := f) (x := x) HC.out h9 h10 HNX.out (by rw [HCC2.out]; exact HMM.out.trans hin)
                      have hyes := hVals_yes (f := f) (x := x) HC.out h9 h10 HNX.out (by rw [HCC2.out]; exact HMM.out.trans hin)
                      have HYES := hide (show (hVals f x c (i + 1)).length = (hVals f x c i).length + 1 by rw [hyes, List.length_append]; rfl)
                      obtain ⟨y, HY⟩ : ∃ y, Hid ((hList f x i).getD c 0 = y) := ⟨_, rfl⟩
                      rw [HY.out] at hat
                      obtain ⟨hat1, hat2⟩ := hat
                      obtain ⟨bv, ov, rfl, _, hcellv⟩ := (HRV.out.ext hE7) (by omega)
                      have hv0 := hcellv _ 0 hat1 (by omega)
                      have hv1 := hcellv _ 1 hat1 (by omega)
                      unfold pairAt at hv0 hv1
                      rw [hat2] at hv0 hv1
                      simp only [if_true, Nat.add_zero, Nat.one_ne_zero, if_false] at hv0 hv1
                      have HLi := hide (fun V (hy : Ext wr V) => HLL.out V i (HX7.out.trans hy) (by omega))
                      change Hid (∀ V, Ext wr V → Calls Try.prog 37 #[_, .int .i64 i, .int .i64 f.channels.length] V fun e w' => ∃ r, e = .returned r ∧ IntsV w' .i64 r (hList f x i) ∧ Ext V w') at HLi
                      have HLN := hide (hList_len (f := f) (x := x) i)
                      clear hyes hat2 hcellv
                      generalize hList f x i = hl at *
                      generalize (hVals f x c i).length = k at *
                      have hdm : (m != ph) = false := by simp [hin]
                      have hdk : decide ((hVals f x c (sentNums x).length).length ≤ k) = false := by simp; omega
                      have HIN := hide hin
                      clear hin
                      go_wp2_with fail
                      apply wp_region_f (114 :: 115 :: 116 :: 117 :: 118 :: 119 :: 120 :: 121 :: 122 :: 123 :: 124 :: 125 :: 126 :: 127 :: 128 :: 129 :: 130 :: 131 :: 132 :: 133 :: 134 :: 135 :: 136 :: 137 :: 138 :: 139 :: 140 :: [])
                        (.is _ :: .is _ :: .is _ :: .is _ :: .is _ :: .is _ :: .is _ :: .is _ :: .is _ :: .is _ :: .is _ :: .is _ :: .is _ :: .is _ :: .is _ :: .is _ :: .is _ :: .is _ :: .is _ :: .is _ :: .is _ :: .is _ :: .is _ :: .is _ :: .is _ :: .is _ :: .is _ :: [])
                        [(2, _), (8, _), (15, _), (19, _)]
                      · kernel_rfl
                      · decide
                      · rfl
                      · kernel_rfl
                      · decide +kernel
                      · kernel_rfl
                      · kernel_rfl
                      · kernel_rfl
                      · kernel_rfl
                      · rfl
                      · exact ⟨trivial, trivial, trivial, trivial, trivial, trivial, trivial, trivial, trivial, trivial, trivial, trivial, trivial, trivial, trivial, trivial, trivial, trivial, trivial, trivial, trivial, trivial, trivial, trivial, trivial, trivial, trivial, trivial⟩
                      · refine ⟨?_, ?_, ?_, ?_, trivial⟩ <;> (simp; rfl)
                      · repeat
                          refine ⟨?_, ?_⟩
                          · intro F W3 hF hd hR
                            simp [fixedAt] at hF
                            obtain ⟨t2, t8, t15, t19⟩ := hF
                            simp [Region.binds, Ent.holds] at hd
                            refine ⟨fun _ K hK => ?_, by intro g b h hn; first | (cases h; done) | (cases h; exact absurd (by simp [hd]) hn)⟩
                            simp only [Ent.holds, List.getD_cons_zero, List.getD_cons_succ] at hK
                            have q0 := hR.cell l0
                            have q1 := hR.cell l1
                            have q2 := hR.cell l2
                            have q3 := hR.cell l3
                            have q4 := hR.cell l4
                            have q5 := hR.cell l5
                            have q6 := hR.cell l6
                            have q7 := hR.cell hcn0
                            have q8 := hR.cell hk2
                            have q9 := hR.cell hk3
                            have m1 := HM1.out
                            go_simp
                            first
                              | exact hK _ _ rfl (Ext.refl _)
                        exact trivial
                      intro X W3 hx hR
                      simp only [toldX] at hx
                      simp only [fillX, List.setIfInBounds_toArray, List.set_cons_succ, List.set_cons_zero]
                      have HRR1 := hide hR
                      have n0 := hR.cell l0
                      have n1 := hR.cell l1
                      have n2 := hR.cell l2
                      have n3 := hR.cell l3
                      have n4 := hR.cell l4
                      have n5 := hR.cell l5
                      have n6 := hR.cell l6
                      have nc := hR.cell hcn0
                      have hv0' := hR.cell hv0
                      have hv1' := hR.cell hv1
                      have HE8 := hide (hE7.trans hR)
                      clear hx hR hv0 hv1 hE7 l0 l1 l2 l3 l4 l5 l6 hk0 hk1 hk2 hk3 hcn0
                      have hv0 := hv0'
                      have hv1 := hv1'
                      clear hv0' hv1'
                      go_wp2_with fail
                      apply wp_region_f (141 :: 142 :: 143 :: 144 :: 145 :: 146 :: 147 :: 148 :: 149 :: 150 :: 151 :: 152 :: 153 :: 154 :: 155 :: 156 :: 157 :: 158 :: 159 :: 160 :: 161 :: 162 :: 163 :: 164 :: 165 :: [])
                        (.is _ :: .is _ :: .is _ :: .is _ :: .is _ :: .is _ :: .is _ :: .is _ :: .is _ :: .is _ :: .is _ :: .is _ :: .is _ :: .is _ :: .is _ :: .is _ :: .is _ :: .is _ :: .so (fun v w => IntsV w .i64 v hl) :: .is _ :: .so (PtrI y) :: .is _ :: .is _ :: .is _ :: .is _ :: [])
                        [(2, _), (3, _), (8, _), (15, _), (16, _), (18, _), (19, _)]
                      · kernel_rfl
                      · decide
                      · rfl
                      · kernel_rfl
                      · decide +kernel
                      · kernel_rfl
                      · kernel_rfl
                      · kernel_rfl
                      · kernel_rfl
                      · rfl
                      · exact ⟨trivial, trivial, trivial, trivial, trivial, trivial, trivial, trivial, trivial, trivial, trivial, trivial, trivial, trivial, trivial, trivial, trivial, trivial, fun _ _ _ h k => h.ext k, trivial, fun _ _ _ h k => h.ext k, trivial, trivial, trivial, trivial, trivial⟩
                      · refine ⟨?_, ?_, ?_, ?_, ?_, ?_, ?_, trivial⟩ <;> (simp; rfl)
                      · repeat
                          refine ⟨?_, ?_⟩
                          · intro F W4 hF hd hR
                            simp [fixedAt] at hF
                            obtain ⟨t2, t3, t8, t15, t16, t18, t19⟩ := hF
                            simp [Region.binds, Ent.holds] at hd
                            refine ⟨fun _ K hK => ?_, by intro g b h hn; first | (cases h; done) | (cases h; exact absurd (by simp [hd]) hn)⟩
                            simp only [Ent.holds, List.getD_cons_zero, List.getD_cons_succ] at hK
                            have q0 := hR.cell n0
                            have q1 := hR.cell n1
                            have q2 := hR.cell n2
                            have q3 := hR.cell n3
                            have q4 := hR.cell n4
                            have q5 := hR.cell n5
                            have q6 := hR.cell n6
                            have q7 := hR.cell nc
                            have q8 := hR.cell hv0
                            have q9 := hR.cell hv1
                            go_simp
                            first
                              | exact hK _ _ rfl (Ext.refl _)
                              | (with_reducible refine (HLi.out _ (HRR1.out.trans hR)).mono ?_
                                 rintro e w4 ⟨r, rfl, hi4, hx4⟩
                                 exact hK _ _ hi4 hx4)
                              | (obtain ⟨⟨Aq, capq, eq, hcq, hmq, hrq⟩, hd2⟩ := hd
                                 rw [HLN.out] at eq hcq hrq
                                 have hmq' : capq ≤ 9223372036854775807 := by simpa [maxLen] using hmq
                                 obtain ⟨bq, oq, rfl, _, hcellq⟩ := hrq (by omega)
                                 simp only [eq] at hK ⊢
                                 go_simp
                                 exact hK _ _ ⟨_, _, rfl, (hcellq c h9).trans (by dsimp only; rw [HY.out])⟩ (Ext.refl _))
                              | (obtain ⟨⟨bq, oq, eq, hcq⟩, hd2⟩ := hd
                                 simp only [eq] at hK ⊢
                                 go_simp
                                 exact hK _ _ rfl (Ext.refl _))
                        exact trivial
                      intro X W4 hx hR
                      simp only [toldX] at hx
                      simp only [fillX, List.setIfInBounds_toArray, List.set_cons_succ, List.set_cons_zero]
                      have HE9 := hide (HE8.out.trans hR)
                      clear hx hR
                      go_wp2_with fail
                      go_roundw
                      case rel => exact ⟨i + 1, by omega, by go_num, by rw [HYES.out]; go_num, HE9.out⟩
                      case measure => simp [intOf]; omega
                    · have HNO := hide (show (hVals f x c (i + 1)).length = (hVals f x c i).length by rw [hVals_no (f := f) (x := x) (c := c) HNX.out (by rw [HCC2.out]; exact fun h => hin (HMM.out.symm.trans h))])
                      have hdm : (m != ph) = true := by simp [hin]
                      clear hin
                      generalize (hVals f x c i).length = k at *
                      go_wp2_with fail
                      apply wp_region_f (114 :: 115 :: 116 :: 117 :: 118 :: 119 :: 120 :: 121 :: 122 :: 123 :: 124 :: 125 :: 126 :: 127 :: 128 :: 129 :: 130 :: 131 :: 132 :: 133 :: 134 :: 135 :: 136 :: 137 :: 138 :: 139 :: 140 :: [])
                        (.is _ :: .is _ :: .is _ :: .is _ :: .is _ :: .is _ :: .is _ :: .is _ :: .is _ :: .is _ :: .is _ :: .is _ :: .is _ :: .is _ :: .is _ :: .is _ :: .is _ :: .is _ :: .is _ :: .is _ :: .is _ :: .is _ :: .is _ :: .is _ :: .is _ :: .is _ :: .is _ :: [])
                        [(2, _), (8, _), (15, _), (19, _)]
                      · kernel_rfl
                      · decide
                      · rfl
                      · kernel_rfl
                      · decide +kernel
                      · kernel_rfl
                      · kernel_rfl
                      · kernel_rfl
                      · kernel_rfl
                      · rfl
                      · exact ⟨trivial, trivial, trivial, trivial, trivial, trivial, trivial, trivial, trivial, trivial, trivial, trivial, trivial, trivial, trivial, trivial, trivial, trivial, trivial, trivial, trivial, trivial, trivial, trivial, trivial, trivial, trivial, trivial⟩
                      · refine ⟨?_, ?_, ?_, ?_, trivial⟩ <;> (simp; rfl)
                      · repeat
                          refine ⟨?_, ?_⟩
                          · intro F W3 hF hd hR
                            simp [fixedAt] at hF
                            obtain ⟨t2, t8, t15, t19⟩ := hF
                            simp [Region.binds, Ent.holds] at hd
                            refine ⟨fun _ K hK => ?_, by intro g b h hn; first | (cases h; done) | (cases h; exact absurd (by simp [hd]) hn)⟩
                            simp only [Ent.holds, List.getD_cons_zero, List.getD_cons_succ] at hK
                            have q0 := hR.cell l0
                            have q1 := hR.cell l1
                            have q2 := hR.cell l2
                            have q3 := hR.cell l3
                            have q4 := hR.cell l4
                            have q5 := hR.cell l5
                            have q6 := hR.cell l6
                            have q7 := hR.cell hcn0
                            have q8 := hR.cell hk2
                            have q9 := hR.cell hk3
                            have m1 := HM1.out
                            go_simp
                            first
                              | exact hK _ _ rfl (Ext.refl _)
                        exact trivial
                      intro X W3 hx hR
                      simp only [toldX] at hx
                      simp only [fillX, List.setIfInBounds_toArray, List.set_cons_succ, List.set_cons_zero]
                      have HE8 := hide (hE7.trans hR)
                      clear hx hR
                      go_wp2_with fail
                      go_roundw
                      case rel => exact ⟨i + 1, by omega, by go_num, by rw [HNO.out], HE8.out⟩
                      case measure => simp [intOf]; omega
                  · obtain rfl : i = (sentNums x).length := by omega
                    have hdl : (((hVals f x c (sentNums x).length).length : Int) != ((hVals f x c (sentNums x).length).length : Int)) = false := by simp
                    clear h10 hi
                    have HEz := hide (HEw.out.trans hE7)
                    go_wp2_with fail
                    go_roundw
                    case rel => exact ⟨c + 1, by omega, by go_num, HEz.out⟩
                    case measure => simp [intOf]; omega
              · obtain rfl : c = f.channels.length := by omega
                go_wp2_with (go_at_call 21; refine (HA.out _).mono ?_; rintro e w9 ⟨rfl, hx9⟩)
                go_ret
                exact ⟨rfl, HXc.out.trans hx9⟩
  · have hz : ((chk f).2.2 == 0) = false := by simpa using hc
    have hz' : ((chk f).2.2 != 0) = true := by simpa using hc
    clear hc
    generalize (chk f).1 = ck1 at *
    generalize (chk f).2.1 = ck2 at *
    generalize (chk f).2.2 = ck3 at *
    generalize sentOk x = so at *
    go_enter Try.func12, Try.ntmps12
    go_wp2_with fail
    rw [HW0.out]
    refine Calls.mono HCH.out ?_
    rintro e w1 ⟨rfl, hx1⟩
    have s0 := hx1.cell S0.out
    have s1 := hx1.cell S1.out
    have s2 := hx1.cell S2.out
    have HX1 := hide (HX0.out.trans hx1)
    clear hx1
    go_wp2_with fail
    refine (HNU.out _ HX1.out).mono ?_
    rintro e w2 ⟨r, rfl, hr, hx2⟩
    go_wp2_with (go_at_call 21; refine (HA.out _).mono ?_; rintro e w5 ⟨rfl, hx5⟩)
    go_ret
    exact ⟨rfl, (HX1.out.trans hx2).trans hx5⟩
end FrameSharedLaw
end Go.Proofs.Ytjnnkcnnandeeaa

