/- The walk of sound. -/
import Derived.Test.YthcnganbnbhhoaaKeyed
namespace Go.Proofs.Ythcnganbnbhhoaa
open Go.RowKit Go.Shelf
theorem mem_getD {α : Type} {l : List α} {k : Nat} (d : α) (h : k < l.length) : l.getD k d ∈ l := by
 rw [List.getD_eq_getElem?_getD, List.getElem?_eq_getElem h, Option.getD_some]; exact List.getElem_mem _
set_option maxRecDepth 100000 in
set_option maxHeartbeats 8000000 in
/-- sound -/
theorem sound_any (B : Nat) (X : SceneX) (p : Pad) (s : State) (w : World) (h : SceneAt w B X p s) (hok : PadOk p) (hst : StateOk p s) :
 Calls Try.prog 69 #[.pointer (some ⟨B, 0, none⟩)] w fun e w' => e = .returned (.bool (soundB p s)) ∧ Ext w w' := by
 obtain ⟨⟨az, cz, ad, cd, ap, cp, ak, ck, aq, cq⟩, sz, zc, sh, hc, sq, qc⟩ := X
 have HSC := hide h
 have HOK := hide hok
 have HST := hide hst
 have hz1 := h.z.rows
 have hz2 := h.q.rows
 have hz3 := h.pad.z.rows
 dsimp only at hz1 hz2 hz3
 have n1 : s.zones.length ≤ 9223372036854775807 := by omega
 have n2 : s.squibs.length ≤ 9223372036854775807 := by omega
 have n3 : p.zones.length ≤ 9223372036854775807 := by omega
 have HRF := hide (show ∀ k, k < p.zones.length → roomOk p s k = false → soundB p s = false from fun k hk hf => by unfold soundB; rw [allN_f hk hf]; simp)
 have HPF := hide (show ∀ k, k < s.zones.length → placeOk p s k = false → soundB p s = false from fun k hk hf => by unfold soundB; rw [allN_f hk hf]; simp)
 have HQF := hide (show ∀ k, k < s.squibs.length → safeOk p s k = false → soundB p s = false from fun k hk hf => by unfold soundB; rw [allN_f hk hf]; simp)
 obtain ⟨R, hR⟩ : ∃ R, soundB p s = R := ⟨_, rfl⟩
 have HRR := hide hR
 rw [hR] at HRF HPF HQF ⊢
 clear hR h hok hst hz1 hz2 hz3
 have HX := hide (Ext.refl w)
 have HSR := hide (HSC.out.ext HX.out)
 have k0 := HSR.out.k0
 have k1 := HSR.out.k1
 have k2 := HSR.out.k2
 have k3 := HSR.out.k3
 have k4 := HSR.out.k4
 have k5 := HSR.out.k5
 have k6 := HSR.out.k6
 have k7 := HSR.out.k7
 have k8 := HSR.out.k8
 have k9 := HSR.out.k9
 have k10 := HSR.out.k10
 have k11 := HSR.out.k11
 have k12 := HSR.out.k12
 dsimp only at k0 k1 k2 k3 k4 k5 k6 k7 k8 k9 k10 k11 k12
 go_enter Try.func69, Try.ntmps69
 go_wp2_with fail
 go_loopw [15] (fun v wr => Hid (Ext w wr) ∧ ∃ k : Nat, k ≤ p.zones.length ∧ v = .int .i64 k ∧ Hid (∀ j, j < k → roomOk p s j = true)) (fun v _ => p.zones.length - (intOf v).toNat)
 case atStart => exact ⟨HX, 0, by omega, rfl, hide (fun j hj => absurd hj (by omega))⟩
 case round =>
  clear k0 k1 k2 k3 k4 k5 k6 k7 k8 k9 k10 k11 k12 HSR HX
  obtain ⟨HX, k, hk, rfl, HS0⟩ := hrel
  have HSR := hide (HSC.out.ext HX.out)
  have k0 := HSR.out.k0
  have k1 := HSR.out.k1
  have k2 := HSR.out.k2
  have k3 := HSR.out.k3
  have k4 := HSR.out.k4
  have k5 := HSR.out.k5
  have k6 := HSR.out.k6
  have k7 := HSR.out.k7
  have k8 := HSR.out.k8
  have k9 := HSR.out.k9
  have k10 := HSR.out.k10
  have k11 := HSR.out.k11
  have k12 := HSR.out.k12
  dsimp only at k0 k1 k2 k3 k4 k5 k6 k7 k8 k9 k10 k11 k12
  by_cases h8 : k < p.zones.length
  ·obtain ⟨b, off, hA, hb, hcz⟩ := ListV.at HSR.out.pad.z.rows.2.2.2 h8
   dsimp only at hA
   have c0 := hcz 0 (by omega)
   have c1 := hcz 1 (by omega)
   have c2 := hcz 2 (by omega)
   have c3 := hcz 3 (by omega)
   have c4 := hcz 4 (by omega)
   have c5 := hcz 5 (by omega)
   have c6 := hcz 6 (by omega)
   have c7 := hcz 7 (by omega)
   have HCR := hide (fun V hv => crowd_any B ⟨⟨az, cz, ad, cd, ap, cp, ak, ck, aq, cq⟩, sz, zc, sh, hc, sq, qc⟩ p s (k : Nat) V hv)
   have HAL := hide (fun V hv => alone_any B ⟨⟨az, cz, ad, cd, ap, cp, ak, ck, aq, cq⟩, sz, zc, sh, hc, sq, qc⟩ p s (k : Nat) V hv (by omega))
   have HRO := hide (show roomOk p s k = !(decide ((p.zones.getD k default).room < manyN s.zones k) || aloneB p s k) from rfl)
   have hmn := manyN_le s.zones k
   have HMM := hide (rfl : manyN s.zones k = manyN s.zones k)
   obtain ⟨m, hm⟩ : ∃ m, manyN s.zones (k : Nat) = m := ⟨_, rfl⟩
   rw [hm] at HCR HRO hmn
   obtain ⟨z, hz⟩ : ∃ z, p.zones.getD k default = z := ⟨_, rfl⟩
   rw [hz] at HRO c0 c1 c2 c3 c4 c5 c6 c7
   obtain ⟨nm, za, zb, zc', zd, gr, rm, pr⟩ := z
   simp only [Zone.cell, Nat.add_zero] at c0 c1 c2 c3 c4 c5 c6 c7
   dsimp only at HRO
   subst hA
   clear hcz hz hm HMM
   go_wp2_with fail
   obtain ⟨W1, hW1⟩ : ∃ W1, wr.alloc (.cells #[.string nm, .int .i64 za, .int .i64 zb, .int .i64 zc', .int .i64 zd, .int .i64 gr, .int .i64 rm, .bool pr] 61) = W1 := ⟨_, rfl⟩
   have hx1 : Ext wr W1 := by rw [← hW1]; exact (Ext.refl _).alloc _
   have b6 : W1.cell? ⟨wr.heap.size, 6, none⟩ = some (.int .i64 rm) := by rw [← hW1]; exact cell_mk wr _ _ 6 _ rfl
   rw [hW1]
   replace HX := hide (HX.out.trans hx1)
   replace HSR := hide (HSR.out.ext hx1)
   clear hW1 hx1 k0 k1 k2 k3 k4 k5 k6 k7 k8 k9 k10 k11 k12 c0 c1 c2 c3 c4 c5 c6 c7
   by_cases hrm : rm < (m : Int)
   ·have hd1 : decide (rm < (m : Int)) = true := decide_eq_true hrm
    have HF := hide (HRF.out k h8 (by rw [HRO.out, hd1]; rfl))
    clear hrm
    apply wp_region_f [20, 21, 22, 23, 24, 25, 26, 27, 28, 29, 30]
     [.is _, .is _, .is _, .is _, .is _, .is _, .is _, .is _, .is _, .is _, .is _]
     [(0, _), (3, _), (4, _)]
    ·kernel_rfl
    ·decide
    ·rfl
    ·kernel_rfl
    ·decide +kernel
    iterate 4 (· kernel_rfl)
    ·rfl
    ·exact keepsIs _ rfl
    ·refine ⟨?_, ?_, ?_, trivial⟩ <;> (simp; rfl)
    ·repeat
      refine ⟨?_, ?_⟩
      ·intro F W hF hd hR
       simp [fixedAt] at hF
       obtain ⟨t0, t3, t4⟩ := hF
       simp [Region.binds, Ent.holds] at hd
       refine ⟨fun hgd K hK => ?_, by intro g b h hn; first | (cases h; done) | (cases h; refine absurd ?_ hn; simp [hd]; done) | (cases h; exact ⟨rfl, Ext.refl _⟩)⟩
       first
        | (refine absurd (hgd _ _ rfl) ?_; simp [hd]; done)
        | (refine absurd (hgd _ _ rfl) ?_; simp [hd]; simp [undef]; done)
        | (simp only [Ent.holds, List.getD_cons_zero, List.getD_cons_succ] at hK
           have b6' := hR.cell b6
           go_simp
           first
            | exact hK _ _ rfl (Ext.refl _)
            | (go_at_call 92
               with_reducible refine (HCR.out _ (HSR.out.ext hR)).mono ?_
               rintro e w' ⟨rfl, rfl⟩
               exact hK _ _ rfl (Ext.refl _))
            | (go_at_call 93
               with_reducible refine (HAL.out _ (HSR.out.ext hR)).mono ?_
               rintro e w' ⟨rfl, rfl⟩
               exact hK _ _ rfl (Ext.refl _)))
     exact trivial
    intro X W hx hR
    simp only [toldX] at hx
    simp only [fillX, List.setIfInBounds_toArray, List.set_cons_succ, List.set_cons_zero]
    replace HX := hide (HX.out.trans hR)
    go_wp2_with fail
    go_ret
    exact ⟨ret_bool (by rw [HF.out]), HX.out⟩
   ·have hd1 : decide (rm < (m : Int)) = false := decide_eq_false hrm
    cases hal : aloneB p s (k : Nat) with
    | true =>
      have HF := hide (HRF.out k h8 (by rw [HRO.out, hd1, hal]; rfl))
      rw [hal] at HAL
      clear hrm hal
      apply wp_region_f [20, 21, 22, 23, 24, 25, 26, 27, 28, 29, 30]
       [.is _, .is _, .is _, .is _, .is _, .is _, .is _, .is _, .is _, .is _, .is _]
       [(0, _), (3, _), (4, _)]
      ·kernel_rfl
      ·decide
      ·rfl
      ·kernel_rfl
      ·decide +kernel
      iterate 4 (· kernel_rfl)
      ·rfl
      ·exact keepsIs _ rfl
      ·refine ⟨?_, ?_, ?_, trivial⟩ <;> (simp; rfl)
      ·repeat
        refine ⟨?_, ?_⟩
        ·intro F W hF hd hR
         simp [fixedAt] at hF
         obtain ⟨t0, t3, t4⟩ := hF
         simp [Region.binds, Ent.holds] at hd
         refine ⟨fun hgd K hK => ?_, by intro g b h hn; first | (cases h; done) | (cases h; refine absurd ?_ hn; simp [hd]; done) | (cases h; exact ⟨rfl, Ext.refl _⟩)⟩
         first
          | (refine absurd (hgd _ _ rfl) ?_; simp [hd]; done)
          | (refine absurd (hgd _ _ rfl) ?_; simp [hd]; simp [undef]; done)
          | (simp only [Ent.holds, List.getD_cons_zero, List.getD_cons_succ] at hK
             have b6' := hR.cell b6
             go_simp
             first
              | exact hK _ _ rfl (Ext.refl _)
              | (go_at_call 92
                 with_reducible refine (HCR.out _ (HSR.out.ext hR)).mono ?_
                 rintro e w' ⟨rfl, rfl⟩
                 exact hK _ _ rfl (Ext.refl _))
              | (go_at_call 93
                 with_reducible refine (HAL.out _ (HSR.out.ext hR)).mono ?_
                 rintro e w' ⟨rfl, rfl⟩
                 exact hK _ _ rfl (Ext.refl _)))
       exact trivial
      intro X W hx hR
      simp only [toldX] at hx
      simp only [fillX, List.setIfInBounds_toArray, List.set_cons_succ, List.set_cons_zero]
      replace HX := hide (HX.out.trans hR)
      go_wp2_with fail
      go_ret
      exact ⟨ret_bool (by rw [HF.out]), HX.out⟩
    | false =>
      have HK1 := hide (show roomOk p s k = true by rw [HRO.out, hd1, hal]; rfl)
      rw [hal] at HAL
      clear hrm hal
      apply wp_region_f [20, 21, 22, 23, 24, 25, 26, 27, 28, 29, 30]
       [.is _, .is _, .is _, .is _, .is _, .is _, .is _, .is _, .is _, .is _, .is _]
       [(0, _), (3, _), (4, _)]
      ·kernel_rfl
      ·decide
      ·rfl
      ·kernel_rfl
      ·decide +kernel
      iterate 4 (· kernel_rfl)
      ·rfl
      ·exact keepsIs _ rfl
      ·refine ⟨?_, ?_, ?_, trivial⟩ <;> (simp; rfl)
      ·repeat
        refine ⟨?_, ?_⟩
        ·intro F W hF hd hR
         simp [fixedAt] at hF
         obtain ⟨t0, t3, t4⟩ := hF
         simp [Region.binds, Ent.holds] at hd
         refine ⟨fun hgd K hK => ?_, by intro g b h hn; first | (cases h; done) | (cases h; refine absurd ?_ hn; simp [hd]; done) | (cases h; exact ⟨rfl, Ext.refl _⟩)⟩
         first
          | (refine absurd (hgd _ _ rfl) ?_; simp [hd]; done)
          | (refine absurd (hgd _ _ rfl) ?_; simp [hd]; simp [undef]; done)
          | (simp only [Ent.holds, List.getD_cons_zero, List.getD_cons_succ] at hK
             have b6' := hR.cell b6
             go_simp
             first
              | exact hK _ _ rfl (Ext.refl _)
              | (go_at_call 92
                 with_reducible refine (HCR.out _ (HSR.out.ext hR)).mono ?_
                 rintro e w' ⟨rfl, rfl⟩
                 exact hK _ _ rfl (Ext.refl _))
              | (go_at_call 93
                 with_reducible refine (HAL.out _ (HSR.out.ext hR)).mono ?_
                 rintro e w' ⟨rfl, rfl⟩
                 exact hK _ _ rfl (Ext.refl _)))
       exact trivial
      intro X W hx hR
      simp only [toldX] at hx
      simp only [fillX, List.setIfInBounds_toArray, List.set_cons_succ, List.set_cons_zero]
      replace HX := hide (HX.out.trans hR)
      go_wp2_with fail
      go_roundw
      case rel => exact ⟨HX, k + 1, by omega, by go_num, hide (fun j hj => by
      by_cases hjk : j = k
      ·rw [hjk]; exact HK1.out
      ·exact HS0.out j (by omega))⟩
      case measure => simp [intOf]; omega
  ·have hkl : k = p.zones.length := by omega
   have HA1 := hide (allN_t (n := p.zones.length) (fun j hj => HS0.out j (by omega)))
   clear HS0 hkl
   go_wp2_with fail
   clear h8 hk
   obtain ⟨wa, rfl⟩ : ∃ W : World, W = wr := ⟨_, rfl⟩
   go_loopw [38] (fun v wr => Hid (Ext w wr) ∧ ∃ k : Nat, k ≤ s.zones.length ∧ v = .int .i64 k ∧ Hid (∀ j, j < k → placeOk p s j = true)) (fun v _ => s.zones.length - (intOf v).toNat)
   case atStart => exact ⟨HX, 0, by omega, rfl, hide (fun j hj => absurd hj (by omega))⟩
   case round =>
    clear k0 k1 k2 k3 k4 k5 k6 k7 k8 k9 k10 k11 k12 HSR HX
    obtain ⟨HX, k, hk, rfl, HS0⟩ := hrel
    have HSR := hide (HSC.out.ext HX.out)
    have k0 := HSR.out.k0
    have k1 := HSR.out.k1
    have k2 := HSR.out.k2
    have k3 := HSR.out.k3
    have k4 := HSR.out.k4
    have k5 := HSR.out.k5
    have k6 := HSR.out.k6
    have k7 := HSR.out.k7
    have k8 := HSR.out.k8
    have k9 := HSR.out.k9
    have k10 := HSR.out.k10
    have k11 := HSR.out.k11
    have k12 := HSR.out.k12
    dsimp only at k0 k1 k2 k3 k4 k5 k6 k7 k8 k9 k10 k11 k12
    by_cases h8 : k < s.zones.length
    ·obtain ⟨b, off, z, hA, hb, c0, HXZ⟩ := ints_at HSR.out.z.rows.2.2.2 h8
     dsimp only at hA
     have hzr := HST.out.z k h8
     have hkp : k < p.people.length := by have := HST.out.lz; omega
     rw [HXZ.out] at hzr
     have HKE := hide (fun V hv => keyed_any B ⟨⟨az, cz, ad, cd, ap, cp, ak, ck, aq, cq⟩, sz, zc, sh, hc, sq, qc⟩ p s (k : Nat) z V hv HOK.out HST.out.lh HST.out.lq hzr.2)
     have HPO := hide (show placeOk p s k = !((decide (0 ≤ z) && decide ((p.people.getD k default).grade < (zoneOf p z).grade)) || !keyedB p s k z) by unfold placeOk; rw [HXZ.out])
     obtain ⟨b2, off2, hA2, hb2, hc2⟩ := ListV.at HSR.out.pad.x.rows.2.2.2 hkp
     dsimp only at hA2
     have e1 := hc2 1 (by omega)
     obtain ⟨x, hx⟩ : ∃ x, p.people.getD k default = x := ⟨_, rfl⟩
     rw [hx] at HPO e1
     obtain ⟨xn, xg⟩ := x
     dsimp only [Person.cell] at e1 HPO
     subst hA hA2
     clear hc2 hx
     by_cases hz0 : 0 ≤ z
     ·obtain ⟨n, rfl⟩ : ∃ n : Nat, z = n := ⟨z.toNat, by omega⟩
      have hnz : n < p.zones.length := by omega
      have hd0 : decide ((0 : Int) ≤ (n : Int)) = true := decide_eq_true (by omega)
      obtain ⟨b3, off3, hA3, hb3, hc3⟩ := ListV.at HSR.out.pad.z.rows.2.2.2 hnz
      dsimp only at hA3
      have g5 := hc3 5 (by omega)
      obtain ⟨zz, hzz⟩ : ∃ x, p.zones.getD n default = x := ⟨_, rfl⟩
      have HZZ := hide (show (zoneOf p (n : Nat)).grade = zz.grade by unfold zoneOf; rw [Int.toNat_natCast, hzz])
      rw [hzz] at g5
      obtain ⟨nm, za, zb, zc', zd, gr, rm, pr⟩ := zz
      dsimp only [Zone.cell] at g5 HZZ
      rw [HZZ.out] at HPO
      subst hA3
      clear hc3 hzz HZZ
      by_cases hg : xg < gr
      ·have hdg : decide (xg < gr) = true := decide_eq_true hg
       have HF := hide (HPF.out k h8 (by rw [HPO.out, hdg, hd0]; rfl))
       clear hg hzr hz0
       go_wp2_with fail
       apply wp_region_f (43 :: 44 :: 45 :: 46 :: 47 :: 48 :: 49 :: 50 :: 51 :: 52 :: 53 :: 54 :: 55 :: 56 :: 57 :: 58 :: 59 :: 60 :: 61 :: 62 :: 63 :: 64 :: 65 :: 66 :: 67 :: 68 :: 69 :: 70 :: 71 :: 72 :: [])
        (.is _ :: .is _ :: .is _ :: .is _ :: .is _ :: .is _ :: .is _ :: .is _ :: .is _ :: .is _ :: .is _ :: .is _ :: .is _ :: .is _ :: .is _ :: .is _ :: .is _ :: .is _ :: .is _ :: .is _ :: .is _ :: .is _ :: .is _ :: .is _ :: .is _ :: .is _ :: .is _ :: .is _ :: .is _ :: .is _ :: [])
        [(0, _), (5, _), (6, _)]
       ·kernel_rfl
       ·decide
       ·rfl
       ·kernel_rfl
       ·decide +kernel
       iterate 4 (· kernel_rfl)
       ·rfl
       ·exact keepsIs _ rfl
       ·refine ⟨?_, ?_, ?_, trivial⟩ <;> (simp; rfl)
       ·repeat
         refine ⟨?_, ?_⟩
         ·intro F W hF hd hR
          simp [fixedAt] at hF
          obtain ⟨t0, t5, t6⟩ := hF
          simp [Region.binds, Ent.holds] at hd
          refine ⟨fun hgd K hK => ?_, by intro g b h hn; first | (cases h; done) | (cases h; refine absurd ?_ hn; simp [hd]; done) | (cases h; exact ⟨rfl, Ext.refl _⟩)⟩
          first
           | (refine absurd (hgd _ _ rfl) ?_; simp [hd]; done)
           | (refine absurd (hgd _ _ rfl) ?_; simp [hd]; simp [undef]; done)
           | (simp only [Ent.holds, List.getD_cons_zero, List.getD_cons_succ] at hK
              have k0' := hR.cell k0
              have k2' := hR.cell k2
              have e1' := hR.cell e1
              have g5' := hR.cell g5
              go_simp
              first
               | exact hK _ _ rfl (Ext.refl _)
               | (go_at_call 94
                  with_reducible refine (HKE.out _ (HSR.out.ext hR)).mono ?_
                  rintro e w' ⟨rfl, hx⟩
                  exact hK _ _ rfl hx))
        exact trivial
       intro X W hx hR
       simp only [toldX] at hx
       simp only [fillX, List.setIfInBounds_toArray, List.set_cons_succ, List.set_cons_zero]
       replace HX := hide (HX.out.trans hR)
       go_wp2_with fail
       go_ret
       exact ⟨ret_bool (by rw [HF.out]), HX.out⟩
      ·have hdg : decide (xg < gr) = false := decide_eq_false hg
       have HPO2 := hide (show placeOk p s k = keyedB p s k (n : Nat) by rw [HPO.out, hdg]; simp)
       clear hg hzr hz0
       cases hke : keyedB p s (k : Nat) (n : Nat) with
       | true =>
         have HK1 := hide (show placeOk p s k = true by rw [HPO2.out, hke])
         rw [hke] at HKE
         clear hke
         go_wp2_with fail
         apply wp_region_f (43 :: 44 :: 45 :: 46 :: 47 :: 48 :: 49 :: 50 :: 51 :: 52 :: 53 :: 54 :: 55 :: 56 :: 57 :: 58 :: 59 :: 60 :: 61 :: 62 :: 63 :: 64 :: 65 :: 66 :: 67 :: 68 :: 69 :: 70 :: 71 :: 72 :: [])
          (.is _ :: .is _ :: .is _ :: .is _ :: .is _ :: .is _ :: .is _ :: .is _ :: .is _ :: .is _ :: .is _ :: .is _ :: .is _ :: .is _ :: .is _ :: .is _ :: .is _ :: .is _ :: .is _ :: .is _ :: .is _ :: .is _ :: .is _ :: .is _ :: .is _ :: .is _ :: .is _ :: .is _ :: .is _ :: .is _ :: [])
          [(0, _), (5, _), (6, _)]
         ·kernel_rfl
         ·decide
         ·rfl
         ·kernel_rfl
         ·decide +kernel
         iterate 4 (· kernel_rfl)
         ·rfl
         ·exact keepsIs _ rfl
         ·refine ⟨?_, ?_, ?_, trivial⟩ <;> (simp; rfl)
         ·repeat
           refine ⟨?_, ?_⟩
           ·intro F W hF hd hR
            simp [fixedAt] at hF
            obtain ⟨t0, t5, t6⟩ := hF
            simp [Region.binds, Ent.holds] at hd
            refine ⟨fun hgd K hK => ?_, by intro g b h hn; first | (cases h; done) | (cases h; refine absurd ?_ hn; simp [hd]; done) | (cases h; exact ⟨rfl, Ext.refl _⟩)⟩
            first
             | (refine absurd (hgd _ _ rfl) ?_; simp [hd]; done)
             | (refine absurd (hgd _ _ rfl) ?_; simp [hd]; simp [undef]; done)
             | (simp only [Ent.holds, List.getD_cons_zero, List.getD_cons_succ] at hK
                have k0' := hR.cell k0
                have k2' := hR.cell k2
                have e1' := hR.cell e1
                have g5' := hR.cell g5
                go_simp
                first
                 | exact hK _ _ rfl (Ext.refl _)
                 | (go_at_call 94
                    with_reducible refine (HKE.out _ (HSR.out.ext hR)).mono ?_
                    rintro e w' ⟨rfl, hx⟩
                    exact hK _ _ rfl hx))
          exact trivial
         intro X W hx hR
         simp only [toldX] at hx
         simp only [fillX, List.setIfInBounds_toArray, List.set_cons_succ, List.set_cons_zero]
         replace HX := hide (HX.out.trans hR)
         go_wp2_with fail
         go_roundw
         case rel => exact ⟨HX, k + 1, by omega, by go_num, hide (fun j hj => by
     by_cases hjk : j = k
     ·rw [hjk]; exact HK1.out
     ·exact HS0.out j (by omega))⟩
         case measure => simp [intOf]; omega
       | false =>
         have HF := hide (HPF.out k h8 (by rw [HPO2.out, hke]))
         rw [hke] at HKE
         clear hke
         go_wp2_with fail
         apply wp_region_f (43 :: 44 :: 45 :: 46 :: 47 :: 48 :: 49 :: 50 :: 51 :: 52 :: 53 :: 54 :: 55 :: 56 :: 57 :: 58 :: 59 :: 60 :: 61 :: 62 :: 63 :: 64 :: 65 :: 66 :: 67 :: 68 :: 69 :: 70 :: 71 :: 72 :: [])
          (.is _ :: .is _ :: .is _ :: .is _ :: .is _ :: .is _ :: .is _ :: .is _ :: .is _ :: .is _ :: .is _ :: .is _ :: .is _ :: .is _ :: .is _ :: .is _ :: .is _ :: .is _ :: .is _ :: .is _ :: .is _ :: .is _ :: .is _ :: .is _ :: .is _ :: .is _ :: .is _ :: .is _ :: .is _ :: .is _ :: [])
          [(0, _), (5, _), (6, _)]
         ·kernel_rfl
         ·decide
         ·rfl
         ·kernel_rfl
         ·decide +kernel
         iterate 4 (· kernel_rfl)
         ·rfl
         ·exact keepsIs _ rfl
         ·refine ⟨?_, ?_, ?_, trivial⟩ <;> (simp; rfl)
         ·repeat
           refine ⟨?_, ?_⟩
           ·intro F W hF hd hR
            simp [fixedAt] at hF
            obtain ⟨t0, t5, t6⟩ := hF
            simp [Region.binds, Ent.holds] at hd
            refine ⟨fun hgd K hK => ?_, by intro g b h hn; first | (cases h; done) | (cases h; refine absurd ?_ hn; simp [hd]; done) | (cases h; exact ⟨rfl, Ext.refl _⟩)⟩
            first
             | (refine absurd (hgd _ _ rfl) ?_; simp [hd]; done)
             | (refine absurd (hgd _ _ rfl) ?_; simp [hd]; simp [undef]; done)
             | (simp only [Ent.holds, List.getD_cons_zero, List.getD_cons_succ] at hK
                have k0' := hR.cell k0
                have k2' := hR.cell k2
                have e1' := hR.cell e1
                have g5' := hR.cell g5
                go_simp
                first
                 | exact hK _ _ rfl (Ext.refl _)
                 | (go_at_call 94
                    with_reducible refine (HKE.out _ (HSR.out.ext hR)).mono ?_
                    rintro e w' ⟨rfl, hx⟩
                    exact hK _ _ rfl hx))
          exact trivial
         intro X W hx hR
         simp only [toldX] at hx
         simp only [fillX, List.setIfInBounds_toArray, List.set_cons_succ, List.set_cons_zero]
         replace HX := hide (HX.out.trans hR)
         go_wp2_with fail
         go_ret
         exact ⟨ret_bool (by rw [HF.out]), HX.out⟩
     ·have hd0 : decide ((0 : Int) ≤ z) = false := decide_eq_false hz0
      have HPO2 := hide (show placeOk p s k = keyedB p s k z by rw [HPO.out, hd0]; simp)
      have hz1 : z < 0 := by omega
      clear hz0 hzr
      cases hke : keyedB p s (k : Nat) z with
      | true =>
        have HK1 := hide (show placeOk p s k = true by rw [HPO2.out, hke])
        rw [hke] at HKE
        clear hke
        go_wp2_with fail
        apply wp_region_f (43 :: 44 :: 45 :: 46 :: 47 :: 48 :: 49 :: 50 :: 51 :: 52 :: 53 :: 54 :: 55 :: 56 :: 57 :: 58 :: 59 :: 60 :: 61 :: 62 :: 63 :: 64 :: 65 :: 66 :: 67 :: 68 :: 69 :: 70 :: 71 :: 72 :: [])
         (.is _ :: .is _ :: .is _ :: .is _ :: .is _ :: .is _ :: .is _ :: .is _ :: .is _ :: .is _ :: .is _ :: .is _ :: .is _ :: .is _ :: .is _ :: .is _ :: .is _ :: .is _ :: .is _ :: .is _ :: .is _ :: .is _ :: .is _ :: .is _ :: .is _ :: .is _ :: .is _ :: .is _ :: .is _ :: .is _ :: [])
         [(0, _), (5, _), (6, _)]
        ·kernel_rfl
        ·decide
        ·rfl
        ·kernel_rfl
        ·decide +kernel
        iterate 4 (· kernel_rfl)
        ·rfl
        ·exact keepsIs _ rfl
        ·refine ⟨?_, ?_, ?_, trivial⟩ <;> (simp; rfl)
        ·repeat
          refine ⟨?_, ?_⟩
          ·intro F W hF hd hR
           simp [fixedAt] at hF
           obtain ⟨t0, t5, t6⟩ := hF
           simp [Region.binds, Ent.holds] at hd
           refine ⟨fun hgd K hK => ?_, by intro g b h hn; first | (cases h; done) | (cases h; refine absurd ?_ hn; simp [hd]; done) | (cases h; exact ⟨rfl, Ext.refl _⟩)⟩
           first
            | (refine absurd (hgd _ _ rfl) ?_; simp [hd]; done)
            | (refine absurd (hgd _ _ rfl) ?_; simp [hd]; simp [undef]; done)
            | (simp only [Ent.holds, List.getD_cons_zero, List.getD_cons_succ] at hK
               have k0' := hR.cell k0
               have k2' := hR.cell k2
               have e1' := hR.cell e1
               go_simp
               first
                | exact hK _ _ rfl (Ext.refl _)
                | (go_at_call 94
                   with_reducible refine (HKE.out _ (HSR.out.ext hR)).mono ?_
                   rintro e w' ⟨rfl, hx⟩
                   exact hK _ _ rfl hx))
         exact trivial
        intro X W hx hR
        simp only [toldX] at hx
        simp only [fillX, List.setIfInBounds_toArray, List.set_cons_succ, List.set_cons_zero]
        replace HX := hide (HX.out.trans hR)
        go_wp2_with fail
        go_roundw
        case rel => exact ⟨HX, k + 1, by omega, by go_num, hide (fun j hj => by
     by_cases hjk : j = k
     ·rw [hjk]; exact HK1.out
     ·exact HS0.out j (by omega))⟩
        case measure => simp [intOf]; omega
      | false =>
        have HF := hide (HPF.out k h8 (by rw [HPO2.out, hke]))
        rw [hke] at HKE
        clear hke
        go_wp2_with fail
        apply wp_region_f (43 :: 44 :: 45 :: 46 :: 47 :: 48 :: 49 :: 50 :: 51 :: 52 :: 53 :: 54 :: 55 :: 56 :: 57 :: 58 :: 59 :: 60 :: 61 :: 62 :: 63 :: 64 :: 65 :: 66 :: 67 :: 68 :: 69 :: 70 :: 71 :: 72 :: [])
         (.is _ :: .is _ :: .is _ :: .is _ :: .is _ :: .is _ :: .is _ :: .is _ :: .is _ :: .is _ :: .is _ :: .is _ :: .is _ :: .is _ :: .is _ :: .is _ :: .is _ :: .is _ :: .is _ :: .is _ :: .is _ :: .is _ :: .is _ :: .is _ :: .is _ :: .is _ :: .is _ :: .is _ :: .is _ :: .is _ :: [])
         [(0, _), (5, _), (6, _)]
        ·kernel_rfl
        ·decide
        ·rfl
        ·kernel_rfl
        ·decide +kernel
        iterate 4 (· kernel_rfl)
        ·rfl
        ·exact keepsIs _ rfl
        ·refine ⟨?_, ?_, ?_, trivial⟩ <;> (simp; rfl)
        ·repeat
          refine ⟨?_, ?_⟩
          ·intro F W hF hd hR
           simp [fixedAt] at hF
           obtain ⟨t0, t5, t6⟩ := hF
           simp [Region.binds, Ent.holds] at hd
           refine ⟨fun hgd K hK => ?_, by intro g b h hn; first | (cases h; done) | (cases h; refine absurd ?_ hn; simp [hd]; done) | (cases h; exact ⟨rfl, Ext.refl _⟩)⟩
           first
            | (refine absurd (hgd _ _ rfl) ?_; simp [hd]; done)
            | (refine absurd (hgd _ _ rfl) ?_; simp [hd]; simp [undef]; done)
            | (simp only [Ent.holds, List.getD_cons_zero, List.getD_cons_succ] at hK
               have k0' := hR.cell k0
               have k2' := hR.cell k2
               have e1' := hR.cell e1
               go_simp
               first
                | exact hK _ _ rfl (Ext.refl _)
                | (go_at_call 94
                   with_reducible refine (HKE.out _ (HSR.out.ext hR)).mono ?_
                   rintro e w' ⟨rfl, hx⟩
                   exact hK _ _ rfl hx))
         exact trivial
        intro X W hx hR
        simp only [toldX] at hx
        simp only [fillX, List.setIfInBounds_toArray, List.set_cons_succ, List.set_cons_zero]
        replace HX := hide (HX.out.trans hR)
        go_wp2_with fail
        go_ret
        exact ⟨ret_bool (by rw [HF.out]), HX.out⟩
    ·have hkl : k = s.zones.length := by omega
     have HA2 := hide (allN_t (n := s.zones.length) (fun j hj => HS0.out j (by omega)))
     clear HS0 hkl
     go_wp2_with fail
     clear h8 hk
     obtain ⟨wb, rfl⟩ : ∃ W : World, W = wr := ⟨_, rfl⟩
     go_loopw [80] (fun v wr => Hid (Ext w wr) ∧ ∃ k : Nat, k ≤ s.squibs.length ∧ v = .int .i64 k ∧ Hid (∀ j, j < k → safeOk p s j = true)) (fun v _ => s.squibs.length - (intOf v).toNat)
     case atStart => exact ⟨HX, 0, by omega, rfl, hide (fun j hj => absurd hj (by omega))⟩
     case round =>
      clear k0 k1 k2 k3 k4 k5 k6 k7 k8 k9 k10 k11 k12 HSR HX
      obtain ⟨HX, k, hk, rfl, HS0⟩ := hrel
      have HSR := hide (HSC.out.ext HX.out)
      have k0 := HSR.out.k0
      have k1 := HSR.out.k1
      have k2 := HSR.out.k2
      have k3 := HSR.out.k3
      have k4 := HSR.out.k4
      have k5 := HSR.out.k5
      have k6 := HSR.out.k6
      have k7 := HSR.out.k7
      have k8 := HSR.out.k8
      have k9 := HSR.out.k9
      have k10 := HSR.out.k10
      have k11 := HSR.out.k11
      have k12 := HSR.out.k12
      dsimp only at k0 k1 k2 k3 k4 k5 k6 k7 k8 k9 k10 k11 k12
      by_cases h8 : k < s.squibs.length
      ·obtain ⟨b, off, x, hA, hb, c0, HXZ⟩ := ints_at HSR.out.q.rows.2.2.2 h8
       dsimp only at hA
       have hkq : k < p.squibs.length := by have := HST.out.lq; omega
       have HOW := hide (fun V hv => owed_any B ⟨⟨az, cz, ad, cd, ap, cp, ak, ck, aq, cq⟩, sz, zc, sh, hc, sq, qc⟩ p s k V hv HOK.out HST.out.lh hkq)
       have HSO := hide (show safeOk p s k = !(decide (x = 1) && (!(owedL p s (k : Nat)).isEmpty || decide (s.siren < 0) || s.storm)) by unfold safeOk; rw [HXZ.out])
       subst hA
       by_cases hx1 : x = 1
       ·subst hx1
        obtain ⟨L, hL⟩ : ∃ L, owedL p s (k : Nat) = L := ⟨_, rfl⟩
        rw [hL] at HSO
        by_cases hl0 : L.length = 0
        ·have HLO := hide (show (owedL p s (k : Nat)).length = 0 by rw [hL]; exact hl0)
         have hLn : L = [] := List.eq_nil_of_length_eq_zero hl0
         subst hLn
         clear hL hl0
         by_cases hsr : s.siren < 0
         ·have HF := hide (HQF.out k h8 (by rw [HSO.out]; simp [hsr]))
          go_wp2_with fail
          refine (HOW.out _ HSR.out).mono ?_
          rintro e w5 ⟨v5, rfl, hv5, hx5⟩
          obtain ⟨A5, c5, rfl, hl5, hm5, _⟩ := hv5
          replace HX := hide (HX.out.trans hx5)
          replace HSR := hide (HSR.out.ext hx5)
          rw [HLO.out]
          have k11 := HSR.out.k11
          have k12 := HSR.out.k12
          clear hx5 hl5 hm5
          go_wp2_with fail
          go_ret
          exact ⟨ret_bool (by rw [HF.out]), HX.out⟩
         ·have hsr' : 0 ≤ s.siren := by omega
          cases hstm : s.storm with
          | true =>
            have HF := hide (HQF.out k h8 (by rw [HSO.out, hstm]; simp))
            have HSTM := hide hstm
            clear hsr hstm
            rw [HSTM.out] at k12
            go_wp2_with fail
            refine (HOW.out _ HSR.out).mono ?_
            rintro e w5 ⟨v5, rfl, hv5, hx5⟩
            obtain ⟨A5, c5, rfl, hl5, hm5, _⟩ := hv5
            replace HX := hide (HX.out.trans hx5)
            replace HSR := hide (HSR.out.ext hx5)
            rw [HLO.out]
            have k11 := HSR.out.k11
            have k12 := HSR.out.k12
            rw [HSTM.out] at k12
            clear hx5 hl5 hm5
            go_wp2_with fail
            go_ret
            exact ⟨ret_bool (by rw [HF.out]), HX.out⟩
          | false =>
            have HK1 := hide (show safeOk p s k = true by rw [HSO.out, hstm]; simp [hsr])
            have HSTM := hide hstm
            clear hsr hstm
            rw [HSTM.out] at k12
            go_wp2_with fail
            refine (HOW.out _ HSR.out).mono ?_
            rintro e w5 ⟨v5, rfl, hv5, hx5⟩
            obtain ⟨A5, c5, rfl, hl5, hm5, _⟩ := hv5
            replace HX := hide (HX.out.trans hx5)
            replace HSR := hide (HSR.out.ext hx5)
            rw [HLO.out]
            have k11 := HSR.out.k11
            have k12 := HSR.out.k12
            rw [HSTM.out] at k12
            clear hx5 hl5 hm5
            go_wp2_with fail
            go_roundw
            case rel => exact ⟨HX, k + 1, by omega, by go_num, hide (fun j hj => by
     by_cases hjk : j = k
     ·rw [hjk]; exact HK1.out
     ·exact HS0.out j (by omega))⟩
            case measure => simp [intOf]; omega
        ·have HF := hide (HQF.out k h8 (by rw [HSO.out]; cases L with
          | nil => exact absurd rfl hl0
          | cons y l => rfl))
         obtain ⟨nl, hnl⟩ : ∃ nl, L.length = nl := ⟨_, rfl⟩
         have HLO := hide (show (owedL p s (k : Nat)).length = nl by rw [hL]; exact hnl)
         have hnl0 : 0 < nl := by omega
         have hnl1 : (0 : Int) < (nl : Int) := by omega
         clear hL hl0 hnl
         go_wp2_with fail
         refine (HOW.out _ HSR.out).mono ?_
         rintro e w5 ⟨v5, rfl, hv5, hx5⟩
         obtain ⟨A5, c5, rfl, hl5, hm5, _⟩ := hv5
         replace HX := hide (HX.out.trans hx5)
         replace HSR := hide (HSR.out.ext hx5)
         rw [HLO.out]
         have k11 := HSR.out.k11
         have k12 := HSR.out.k12
         clear hx5 hl5 hm5
         go_wp2_with fail
         go_ret
         exact ⟨ret_bool (by rw [HF.out]), HX.out⟩
       ·have hde : (x == 1) = false := by simpa using hx1
        have HK1 := hide (show safeOk p s k = true by rw [HSO.out]; simp [hx1])
        clear hx1
        go_wp2_with fail
        go_roundw
        case rel => exact ⟨HX, k + 1, by omega, by go_num, hide (fun j hj => by
     by_cases hjk : j = k
     ·rw [hjk]; exact HK1.out
     ·exact HS0.out j (by omega))⟩
        case measure => simp [intOf]; omega
      ·have hkl : k = s.squibs.length := by omega
       have HA3 := hide (allN_t (n := s.squibs.length) (fun j hj => HS0.out j (by omega)))
       have HF := hide (show R = true by rw [← HRR.out]; unfold soundB; rw [HA1.out, HA2.out, HA3.out]; rfl)
       clear HS0 hkl
       go_wp2_with fail
       go_ret
       exact ⟨ret_bool (by rw [HF.out]), HX.out⟩
end Go.Proofs.Ythcnganbnbhhoaa
