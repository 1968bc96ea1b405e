/- The walks of the acts' methods, further. -/
import Derived.Test.YthcnganbnbhhoaaMeth2
namespace Go.Proofs.Ythcnganbnbhhoaa
open Go.RowKit Go.Shelf
set_option maxRecDepth 100000 in
set_option maxHeartbeats 4000000 in
/-- fire -/
theorem fire_any (B : Nat) (X : SceneX) (p : Pad) (s : State) (t k wh : Int) (i j : Nat) (w W : World) (h : SceneS w B X p s W) (hok : PadOk p) (hst : StateOk p s) (hi : (i : Int) < p.people.length) (hj : (j : Int) < p.squibs.length) :
 Calls Try.prog 107 #[.pointer (some ⟨B, 0, none⟩), .agg #[.int .i64 t, .int .i64 k, .int .i64 i, .int .i64 j, .int .i64 wh]] W (MethQ w B X p (fireE p s ⟨t, k, i, j, wh⟩) (squibS s j 2)) := by
 obtain ⟨⟨az, cz, ad, cd, ap, cp, ak, ck, aq, cq⟩, sz, zc, sh, hc, sq, qc⟩ := X
 have HS := hide h
 have HOK := hide hok
 have HST := hide hst
 have hl1 := HST.out.lz
 have hl2 := HST.out.lh
 have hl3 := HST.out.lq
 clear h hok hst
 have n1 : i < s.zones.length := by omega
 have n2 : j < s.squibs.length := by omega
 have L1 := hide hl1
 have L2 := hide hl2
 have L3 := hide hl3
 clear hl1 hl2 hl3
 obtain ⟨gc0, hgc0, hgec0, c0, _⟩ := HS.out.qlt (i := j) (n2)
 dsimp only at hgc0
 subst hgc0
 obtain ⟨x, hx⟩ : ∃ v, s.squibs.getD j 0 = v := ⟨_, rfl⟩
 have HX := hide hx
 rw [hx] at c0
 clear hx
 go_enter Try.func107, Try.ntmps107
 go_wp2_with fail
 obtain ⟨W1, hW1⟩ : ∃ W1, W.alloc (.cells #[.int .i64 t, .int .i64 k, .int .i64 i, .int .i64 j, .int .i64 wh] 48) = W1 := ⟨_, rfl⟩
 have hx1 : Ext W W1 := by rw [← hW1]; exact (Ext.refl _).alloc _
 have HA := hide (show Blk W1 W.heap.size 48 #[.int .i64 t, .int .i64 k, .int .i64 i, .int .i64 j, .int .i64 wh] by rw [← hW1]; exact Blk.new _ _ _)
 rw [hW1]
 replace HS := hide (HS.out.ext' hx1)
 clear hW1 hx1
 obtain ⟨g8, e8, _, c8, _⟩ := HS.out.qlt (i := j) n2
 dsimp only at e8
 cases e8
 replace c0 := c8
 rw [HX.out] at c0
 clear c8
 have k10 := HS.out.at.k10
 try dsimp only at k10
 have d3 := cell_heap HA.out 3 _ rfl
 refine (badge_any B ⟨⟨az, cz, ad, cd, ap, cp, ak, ck, aq, cq⟩, sz, zc, sh, hc, some ⟨gc0, 0, none⟩, qc⟩ p s t k wh i j W1 HS.out.at HST.out hi hj).mono ?_
 rintro e w2 ⟨hx, hbd⟩
 have HXT := hide hx
 rcases hbd with ⟨hb, rfl⟩ | ⟨hb, rfl⟩
 ·have HB := hide hb
  clear hb
  replace k10 := hx.cell k10
  replace d3 := hx.cell d3
  replace c0 := hx.cell c0
  replace HS := hide (HS.out.ext' hx)
  replace HA := hide (HA.out.ext hx)
  clear hx HXT
  go_wp2_with fail
  by_cases x0 : x = 1
  ·have hd : (x == 1) = true := by simpa using x0
   have HX0 := hide x0
   clear x0
   apply wp_region_t 10 [7, 8, 9, 10, 11, 12, 13, 14, 15, 16]
    [.is _, .is _, .is _, .is _, .is _, .is _, .is _, .is _, .is _, .is _]
    [(0, _), (3, _)]
   ·kernel_rfl
   ·decide
   ·decide
   ·rfl
   ·kernel_rfl
   ·decide +kernel
   iterate 6 (· kernel_rfl)
   ·rfl
   ·exact keepsIs _ rfl
   ·refine ⟨?_, ?_, trivial⟩ <;> (simp; rfl)
   ·repeat
     refine ⟨?_, ?_⟩
     ·intro F W2 hF hd hR
      simp [fixedAt] at hF
      obtain ⟨t0, t3⟩ := hF
      simp [Region.binds, Ent.holds] at hd
      refine ⟨fun _ K hK => ?_, by intro g b h hn; first | (cases h; done) | (cases h; exact absurd (by simp [hd]) hn)⟩
      simp only [Ent.holds, List.getD_cons_zero, List.getD_cons_succ] at hK
      have k10' := hR.cell k10
      have d3' := hR.cell d3
      have c0' := hR.cell c0
      go_simp
      first
       | exact hK _ _ rfl (Ext.refl _)
    exact trivial
   intro X W2 hx hR
   simp only [toldX] at hx
   simp only [fillX, List.setIfInBounds_toArray, List.set_cons_succ, List.set_cons_zero]
   replace k10 := hR.cell k10
   replace d3 := hR.cell d3
   replace c0 := hR.cell c0
   replace HS := hide (HS.out.ext' hR)
   replace HA := hide (HA.out.ext hR)
   go_wp2_with (go_at_call 88; refine (demand_ok _ _).mono ?_; rintro e w' ⟨rfl, rfl⟩)
   apply wp_region_t 7 [18, 19, 20, 21, 22, 23, 24]
    [.is _, .is _, .is _, .is _, .is _, .is _, .is _]
    [(0, _), (3, _)]
   ·kernel_rfl
   ·decide
   ·decide
   ·rfl
   ·kernel_rfl
   ·decide +kernel
   iterate 6 (· kernel_rfl)
   ·rfl
   ·exact keepsIs _ rfl
   ·refine ⟨?_, ?_, trivial⟩ <;> (simp; rfl)
   ·repeat
     refine ⟨?_, ?_⟩
     ·intro F W3 hF hd hR
      simp [fixedAt] at hF
      obtain ⟨t0, t3⟩ := hF
      simp [Region.binds, Ent.holds] at hd
      refine ⟨fun _ K hK => ?_, by intro g b h hn; first | (cases h; done) | (cases h; exact absurd (by simp [hd]) hn)⟩
      simp only [Ent.holds, List.getD_cons_zero, List.getD_cons_succ] at hK
      have k10' := hR.cell k10
      have d3' := hR.cell d3
      have c0' := hR.cell c0
      go_simp
      first
       | exact hK _ _ rfl (Ext.refl _)
    exact trivial
   intro X W3 hx hR
   simp only [toldX] at hx
   simp only [fillX, List.setIfInBounds_toArray, List.set_cons_succ, List.set_cons_zero]
   replace k10 := hR.cell k10
   replace d3 := hR.cell d3
   replace c0 := hR.cell c0
   replace HS := hide (HS.out.ext' hR)
   replace HA := hide (HA.out.ext hR)
   obtain ⟨g9, e9, hge9, _, f9⟩ := HS.out.qlt (i := j) n2
   dsimp only at e9
   cases e9
   go_wp2_with fail
   have HE := hide (show fireE p s ⟨t, k, i, j, wh⟩ = 0 by unfold fireE; dsimp only; rw [if_neg (fun h => h HB.out)]; rw [if_neg (by rw [Int.toNat_natCast, HX.out]; exact fun h => h HX0.out)])
   refine bodyPost_end (results_none rfl _ _ _) rfl ?_
   exact methYes (s' := squibS s j 2) HE.out (HS.out.setQ rfl hge9 j _)
  ·have hd : (x == 1) = false := by simpa using x0
   have HE := hide (show fireE p s ⟨t, k, i, j, wh⟩ = 177 by unfold fireE; dsimp only; rw [if_neg (fun h => h HB.out)]; rw [if_pos (by rw [Int.toNat_natCast, HX.out]; exact x0)])
   clear x0
   apply wp_region_t 10 [7, 8, 9, 10, 11, 12, 13, 14, 15, 16]
    [.is _, .is _, .is _, .is _, .is _, .is _, .is _, .is _, .is _, .is _]
    [(0, _), (3, _)]
   ·kernel_rfl
   ·decide
   ·decide
   ·rfl
   ·kernel_rfl
   ·decide +kernel
   iterate 6 (· kernel_rfl)
   ·rfl
   ·exact keepsIs _ rfl
   ·refine ⟨?_, ?_, trivial⟩ <;> (simp; rfl)
   ·repeat
     refine ⟨?_, ?_⟩
     ·intro F W2 hF hd hR
      simp [fixedAt] at hF
      obtain ⟨t0, t3⟩ := hF
      simp [Region.binds, Ent.holds] at hd
      refine ⟨fun _ K hK => ?_, by intro g b h hn; first | (cases h; done) | (cases h; exact absurd (by simp [hd]) hn)⟩
      simp only [Ent.holds, List.getD_cons_zero, List.getD_cons_succ] at hK
      have k10' := hR.cell k10
      have d3' := hR.cell d3
      have c0' := hR.cell c0
      go_simp
      first
       | exact hK _ _ rfl (Ext.refl _)
    exact trivial
   intro X W2 hx hR
   simp only [toldX] at hx
   simp only [fillX, List.setIfInBounds_toArray, List.set_cons_succ, List.set_cons_zero]
   replace k10 := hR.cell k10
   replace d3 := hR.cell d3
   replace c0 := hR.cell c0
   replace HS := hide (HS.out.ext' hR)
   replace HA := hide (HA.out.ext hR)
   go_wp2_with (go_at_call 88; refine (demand_no _ _).mono ?_; rintro e w' ⟨rfl, rfl⟩)
   exact ⟨rfl, methNo HE.out (by decide) HS.out.ext⟩
 ·have HB := hide hb
  have HE := hide (show fireE p s ⟨t, k, i, j, wh⟩ = badgeE p s ⟨t, k, i, j, wh⟩ by unfold fireE; rw [if_pos HB.out])
  clear hb hx
  replace HS := hide (HS.out.ext' HXT.out)
  go_wp2_with fail
  exact ⟨rfl, methNo HE.out HB.out HS.out.ext⟩
set_option maxRecDepth 100000 in
set_option maxHeartbeats 4000000 in
/-- arm -/
theorem arm_any (B : Nat) (X : SceneX) (p : Pad) (s : State) (t k wh : Int) (i j : Nat) (w W : World) (h : SceneS w B X p s W) (hok : PadOk p) (hst : StateOk p s) (ht : 0 ≤ t ∧ t ≤ 100000) (hi : (i : Int) < p.people.length) (hj : (j : Int) < p.squibs.length) :
 Calls Try.prog 105 #[.pointer (some ⟨B, 0, none⟩), .agg #[.int .i64 t, .int .i64 k, .int .i64 i, .int .i64 j, .int .i64 wh]] W (MethQ w B X p (armE p s ⟨t, k, i, j, wh⟩) (squibS s j 1)) := by
 obtain ⟨⟨az, cz, ad, cd, ap, cp, ak, ck, aq, cq⟩, sz, zc, sh, hc, sq, qc⟩ := X
 have HS := hide h
 have HOK := hide hok
 have HST := hide hst
 have hl1 := HST.out.lz
 have hl2 := HST.out.lh
 have hl3 := HST.out.lq
 have hst1 := hst
 clear h hok hst
 have n1 : i < s.zones.length := by omega
 have n3 : j < p.squibs.length := by omega
 have n2 : j < s.squibs.length := by omega
 have L1 := hide hl1
 have L2 := hide hl2
 have L3 := hide hl3
 clear hl1 hl2 hl3
 obtain ⟨sr, hsr⟩ : ∃ v, s.siren = v := ⟨_, rfl⟩
 obtain ⟨stm, hstm⟩ : ∃ v, s.storm = v := ⟨_, rfl⟩
 have HSR := hide hsr
 have HSTM := hide hstm
 have hs1 := hst1.siren
 have hs2 := hst1.now
 rw [hsr] at hs1
 clear hsr hstm
 obtain ⟨gc0, hgc0, hgec0, c0, _⟩ := HS.out.qlt (i := j) (n2)
 dsimp only at hgc0
 subst hgc0
 obtain ⟨x, hx⟩ : ∃ v, s.squibs.getD j 0 = v := ⟨_, rfl⟩
 have HX := hide hx
 rw [hx] at c0
 clear hx
 go_enter Try.func105, Try.ntmps105
 go_wp2_with fail
 obtain ⟨W1, hW1⟩ : ∃ W1, W.alloc (.cells #[.int .i64 t, .int .i64 k, .int .i64 i, .int .i64 j, .int .i64 wh] 48) = W1 := ⟨_, rfl⟩
 have hx1 : Ext W W1 := by rw [← hW1]; exact (Ext.refl _).alloc _
 have HA := hide (show Blk W1 W.heap.size 48 #[.int .i64 t, .int .i64 k, .int .i64 i, .int .i64 j, .int .i64 wh] by rw [← hW1]; exact Blk.new _ _ _)
 rw [hW1]
 replace HS := hide (HS.out.ext' hx1)
 clear hW1 hx1
 obtain ⟨g8, e8, _, c8, _⟩ := HS.out.qlt (i := j) n2
 dsimp only at e8
 cases e8
 replace c0 := c8
 rw [HX.out] at c0
 clear c8
 have k6 := HS.out.at.k6
 have k10 := HS.out.at.k10
 have k11 := HS.out.at.k11
 have k12 := HS.out.at.k12
 try dsimp only at k6 k10 k11 k12
 rw [HSR.out] at k11
 rw [HSTM.out] at k12
 have d0 := cell_heap HA.out 0 _ rfl
 have d3 := cell_heap HA.out 3 _ rfl
 refine (badge_any B ⟨⟨az, cz, ad, cd, ap, cp, ak, ck, aq, cq⟩, sz, zc, sh, hc, some ⟨gc0, 0, none⟩, qc⟩ p s t k wh i j W1 HS.out.at HST.out hi hj).mono ?_
 rintro e w2 ⟨hx, hbd⟩
 have HXT := hide hx
 rcases hbd with ⟨hb, rfl⟩ | ⟨hb, rfl⟩
 ·have HB := hide hb
  clear hb
  replace k6 := hx.cell k6
  replace k10 := hx.cell k10
  replace k11 := hx.cell k11
  replace k12 := hx.cell k12
  replace d0 := hx.cell d0
  replace d3 := hx.cell d3
  replace c0 := hx.cell c0
  replace HS := hide (HS.out.ext' hx)
  replace HA := hide (HA.out.ext hx)
  clear hx HXT
  go_wp2_with fail
  by_cases x0 : x = 0
  ·have tok : True := trivial
   have hd : (x == 0) = true := by simpa using x0
   have HX0 := hide x0
   clear x0
   apply wp_region_t 10 [7, 8, 9, 10, 11, 12, 13, 14, 15, 16]
    [.is _, .is _, .is _, .is _, .is _, .is _, .is _, .is _, .is _, .is _]
    [(0, _), (3, _)]
   ·kernel_rfl
   ·decide
   ·decide
   ·rfl
   ·kernel_rfl
   ·decide +kernel
   iterate 6 (· kernel_rfl)
   ·rfl
   ·exact keepsIs _ rfl
   ·refine ⟨?_, ?_, trivial⟩ <;> (simp; rfl)
   ·repeat
     refine ⟨?_, ?_⟩
     ·intro F W2 hF hd hR
      simp [fixedAt] at hF
      obtain ⟨t0, t3⟩ := hF
      simp [Region.binds, Ent.holds] at hd
      refine ⟨fun _ K hK => ?_, by intro g b h hn; first | (cases h; done) | (cases h; exact absurd (by simp [hd]) hn)⟩
      simp only [Ent.holds, List.getD_cons_zero, List.getD_cons_succ] at hK
      have k6' := hR.cell k6
      have k10' := hR.cell k10
      have k11' := hR.cell k11
      have k12' := hR.cell k12
      have d0' := hR.cell d0
      have d3' := hR.cell d3
      have c0' := hR.cell c0
      go_simp
      first
       | exact hK _ _ rfl (Ext.refl _)
    exact trivial
   intro X W2 hx hR
   simp only [toldX] at hx
   simp only [fillX, List.setIfInBounds_toArray, List.set_cons_succ, List.set_cons_zero]
   replace k6 := hR.cell k6
   replace k10 := hR.cell k10
   replace k11 := hR.cell k11
   replace k12 := hR.cell k12
   replace d0 := hR.cell d0
   replace d3 := hR.cell d3
   replace c0 := hR.cell c0
   replace HS := hide (HS.out.ext' hR)
   replace HA := hide (HA.out.ext hR)
   go_wp2_with (go_at_call 88; have _tok := tok; refine (demand_ok _ _).mono ?_; rintro e w' ⟨rfl, rfl⟩; clear tok _tok)
   cases stm with
   | true =>
     have HE := hide (show armE p s ⟨t, k, i, j, wh⟩ = 173 by unfold armE; dsimp only; rw [if_neg (fun h => h HB.out)]; rw [if_neg (by rw [Int.toNat_natCast, HX.out]; exact fun h => h HX0.out)]; rw [if_pos HSTM.out])
     go_wp2_with (go_at_call 88; refine (demand_no _ _).mono ?_; rintro e w' ⟨rfl, rfl⟩)
     exact ⟨rfl, methNo HE.out (by decide) HS.out.ext⟩
   | false =>
     go_wp2_with (go_at_call 88; refine (demand_ok _ _).mono ?_; rintro e w' ⟨rfl, rfl⟩)
     have HOWE := hide (fun V hV => owed_any B ⟨⟨az, cz, ad, cd, ap, cp, ak, ck, aq, cq⟩, sz, zc, sh, hc, some ⟨gc0, 0, none⟩, qc⟩ p s j V hV HOK.out L2.out n3)
     obtain ⟨L, hL⟩ : ∃ L, owedL p s (j : Nat) = L := ⟨_, rfl⟩
     cases L with
     | nil =>
       have HOW := hide (show (owedL p s (j : Nat)).isEmpty = true by rw [hL]; rfl)
       have HLO := hide (show (owedL p s (j : Nat)).length = 0 by rw [hL]; rfl)
       clear hL
       refine (HOWE.out _ HS.out.at).mono ?_
       rintro e w5 ⟨v5, rfl, hv5, hx⟩
       obtain ⟨A5, c5, rfl, hl5, hm5, _⟩ := hv5
       rw [HLO.out]
       clear hl5 hm5
       replace k6 := hx.cell k6
       replace k10 := hx.cell k10
       replace k11 := hx.cell k11
       replace k12 := hx.cell k12
       replace d0 := hx.cell d0
       replace d3 := hx.cell d3
       replace c0 := hx.cell c0
       replace HS := hide (HS.out.ext' hx)
       replace HA := hide (HA.out.ext hx)
       clear hx HOWE
       go_wp2_with (go_at_call 88; refine (demand_ok _ _).mono ?_; rintro e w' ⟨rfl, rfl⟩)
       by_cases r0 : 0 ≤ sr
       ·have hd1 : decide (0 ≤ sr) = true := decide_eq_true r0
        have HR0 := hide r0
        have hwr : IntKind.i64.wrap (t - sr) = t - sr := by rw [IntKind.wrap_i64]; omega
        by_cases q0 : p.wait ≤ t - sr
        ·have hd2 : decide (p.wait ≤ t - sr) = true := decide_eq_true q0
         have HD0 := hide q0
         clear q0
         apply wp_region_t 22 (32 :: 33 :: 34 :: 35 :: 36 :: 37 :: 38 :: 39 :: 40 :: 41 :: 42 :: 43 :: 44 :: 45 :: 46 :: 47 :: 48 :: 49 :: 50 :: 51 :: 52 :: 53 :: [])
          (.is _ :: .is _ :: .is _ :: .is _ :: .is _ :: .is _ :: .is _ :: .is _ :: .is _ :: .is _ :: .is _ :: .is _ :: .is _ :: .is _ :: .is _ :: .is _ :: .is _ :: .is _ :: .is _ :: .is _ :: .is _ :: .is _ :: [])
          [(0, _), (3, _)]
         ·kernel_rfl
         ·decide
         ·decide
         ·rfl
         ·kernel_rfl
         ·decide +kernel
         iterate 6 (· kernel_rfl)
         ·rfl
         ·exact keepsIs _ rfl
         ·refine ⟨?_, ?_, trivial⟩ <;> (simp; rfl)
         ·repeat
           refine ⟨?_, ?_⟩
           ·intro F W3 hF hd hR
            simp [fixedAt] at hF
            obtain ⟨t0, t3⟩ := hF
            simp [Region.binds, Ent.holds] at hd
            refine ⟨fun hgd K hK => ?_, by intro g b h hn; first | (cases h; done) | (cases h; refine absurd ?_ hn; simp [hd]; done) | (cases h; exact ⟨rfl, Ext.refl _⟩)⟩
            first
             | (refine absurd (hgd _ _ rfl) ?_; simp [hd]; done)
             | (refine absurd (hgd _ _ rfl) ?_; simp [hd]; simp [undef]; done)
             | (simp only [Ent.holds, List.getD_cons_zero, List.getD_cons_succ] at hK
                have k6' := hR.cell k6
                have k10' := hR.cell k10
                have k11' := hR.cell k11
                have k12' := hR.cell k12
                have d0' := hR.cell d0
                have d3' := hR.cell d3
                have c0' := hR.cell c0
                go_simp
                first
                 | exact hK _ _ rfl (Ext.refl _))
          exact trivial
         intro X W3 hx hR
         simp only [toldX] at hx
         simp only [fillX, List.setIfInBounds_toArray, List.set_cons_succ, List.set_cons_zero]
         replace k6 := hR.cell k6
         replace k10 := hR.cell k10
         replace k11 := hR.cell k11
         replace k12 := hR.cell k12
         replace d0 := hR.cell d0
         replace d3 := hR.cell d3
         replace c0 := hR.cell c0
         replace HS := hide (HS.out.ext' hR)
         replace HA := hide (HA.out.ext hR)
         clear hwr
         go_wp2_with (go_at_call 88; refine (demand_ok _ _).mono ?_; rintro e w' ⟨rfl, rfl⟩)
         apply wp_region_t 7 [55, 56, 57, 58, 59, 60, 61]
          [.is _, .is _, .is _, .is _, .is _, .is _, .is _]
          [(0, _), (3, _)]
         ·kernel_rfl
         ·decide
         ·decide
         ·rfl
         ·kernel_rfl
         ·decide +kernel
         iterate 6 (· kernel_rfl)
         ·rfl
         ·exact keepsIs _ rfl
         ·refine ⟨?_, ?_, trivial⟩ <;> (simp; rfl)
         ·repeat
           refine ⟨?_, ?_⟩
           ·intro F W4 hF hd hR
            simp [fixedAt] at hF
            obtain ⟨t0, t3⟩ := hF
            simp [Region.binds, Ent.holds] at hd
            refine ⟨fun _ K hK => ?_, by intro g b h hn; first | (cases h; done) | (cases h; exact absurd (by simp [hd]) hn)⟩
            simp only [Ent.holds, List.getD_cons_zero, List.getD_cons_succ] at hK
            have k6' := hR.cell k6
            have k10' := hR.cell k10
            have k11' := hR.cell k11
            have k12' := hR.cell k12
            have d0' := hR.cell d0
            have d3' := hR.cell d3
            have c0' := hR.cell c0
            go_simp
            first
             | exact hK _ _ rfl (Ext.refl _)
          exact trivial
         intro X W4 hx hR
         simp only [toldX] at hx
         simp only [fillX, List.setIfInBounds_toArray, List.set_cons_succ, List.set_cons_zero]
         replace k6 := hR.cell k6
         replace k10 := hR.cell k10
         replace k11 := hR.cell k11
         replace k12 := hR.cell k12
         replace d0 := hR.cell d0
         replace d3 := hR.cell d3
         replace c0 := hR.cell c0
         replace HS := hide (HS.out.ext' hR)
         replace HA := hide (HA.out.ext hR)
         obtain ⟨g9, e9, hge9, _, f9⟩ := HS.out.qlt (i := j) n2
         dsimp only at e9
         cases e9
         go_wp2_with fail
         have HE := hide (show armE p s ⟨t, k, i, j, wh⟩ = 0 by unfold armE; dsimp only; rw [if_neg (fun h => h HB.out)]; rw [if_neg (by rw [Int.toNat_natCast, HX.out]; exact fun h => h HX0.out)]; rw [if_neg (by rw [HSTM.out]; decide)]; rw [if_neg (by rw [HOW.out]; decide)]; rw [if_neg (fun h => h ⟨by rw [HSR.out]; exact HR0.out, by rw [HSR.out]; exact HD0.out⟩)])
         refine bodyPost_end (results_none rfl _ _ _) rfl ?_
         exact methYes (s' := squibS s j 1) HE.out (HS.out.setQ rfl hge9 j _)
        ·have hd2 : decide (p.wait ≤ t - sr) = false := decide_eq_false q0
         have HE := hide (show armE p s ⟨t, k, i, j, wh⟩ = 179 by unfold armE; dsimp only; rw [if_neg (fun h => h HB.out)]; rw [if_neg (by rw [Int.toNat_natCast, HX.out]; exact fun h => h HX0.out)]; rw [if_neg (by rw [HSTM.out]; decide)]; rw [if_neg (by rw [HOW.out]; decide)]; rw [if_pos (fun h => q0 (by have := h.2; rw [HSR.out] at this; exact this))])
         clear q0
         apply wp_region_t 22 (32 :: 33 :: 34 :: 35 :: 36 :: 37 :: 38 :: 39 :: 40 :: 41 :: 42 :: 43 :: 44 :: 45 :: 46 :: 47 :: 48 :: 49 :: 50 :: 51 :: 52 :: 53 :: [])
          (.is _ :: .is _ :: .is _ :: .is _ :: .is _ :: .is _ :: .is _ :: .is _ :: .is _ :: .is _ :: .is _ :: .is _ :: .is _ :: .is _ :: .is _ :: .is _ :: .is _ :: .is _ :: .is _ :: .is _ :: .is _ :: .is _ :: [])
          [(0, _), (3, _)]
         ·kernel_rfl
         ·decide
         ·decide
         ·rfl
         ·kernel_rfl
         ·decide +kernel
         iterate 6 (· kernel_rfl)
         ·rfl
         ·exact keepsIs _ rfl
         ·refine ⟨?_, ?_, trivial⟩ <;> (simp; rfl)
         ·repeat
           refine ⟨?_, ?_⟩
           ·intro F W3 hF hd hR
            simp [fixedAt] at hF
            obtain ⟨t0, t3⟩ := hF
            simp [Region.binds, Ent.holds] at hd
            refine ⟨fun hgd K hK => ?_, by intro g b h hn; first | (cases h; done) | (cases h; refine absurd ?_ hn; simp [hd]; done) | (cases h; exact ⟨rfl, Ext.refl _⟩)⟩
            first
             | (refine absurd (hgd _ _ rfl) ?_; simp [hd]; done)
             | (refine absurd (hgd _ _ rfl) ?_; simp [hd]; simp [undef]; done)
             | (simp only [Ent.holds, List.getD_cons_zero, List.getD_cons_succ] at hK
                have k6' := hR.cell k6
                have k10' := hR.cell k10
                have k11' := hR.cell k11
                have k12' := hR.cell k12
                have d0' := hR.cell d0
                have d3' := hR.cell d3
                have c0' := hR.cell c0
                go_simp
                first
                 | exact hK _ _ rfl (Ext.refl _))
          exact trivial
         intro X W3 hx hR
         simp only [toldX] at hx
         simp only [fillX, List.setIfInBounds_toArray, List.set_cons_succ, List.set_cons_zero]
         replace k6 := hR.cell k6
         replace k10 := hR.cell k10
         replace k11 := hR.cell k11
         replace k12 := hR.cell k12
         replace d0 := hR.cell d0
         replace d3 := hR.cell d3
         replace c0 := hR.cell c0
         replace HS := hide (HS.out.ext' hR)
         replace HA := hide (HA.out.ext hR)
         clear hwr
         go_wp2_with (go_at_call 88; refine (demand_no _ _).mono ?_; rintro e w' ⟨rfl, rfl⟩)
         exact ⟨rfl, methNo HE.out (by decide) HS.out.ext⟩
       ·have hd1 : decide (0 ≤ sr) = false := decide_eq_false r0
        have HE := hide (show armE p s ⟨t, k, i, j, wh⟩ = 179 by unfold armE; dsimp only; rw [if_neg (fun h => h HB.out)]; rw [if_neg (by rw [Int.toNat_natCast, HX.out]; exact fun h => h HX0.out)]; rw [if_neg (by rw [HSTM.out]; decide)]; rw [if_neg (by rw [HOW.out]; decide)]; rw [if_pos (fun h => r0 (by have := h.1; rw [HSR.out] at this; exact this))])
        clear r0
        apply wp_region_t 22 (32 :: 33 :: 34 :: 35 :: 36 :: 37 :: 38 :: 39 :: 40 :: 41 :: 42 :: 43 :: 44 :: 45 :: 46 :: 47 :: 48 :: 49 :: 50 :: 51 :: 52 :: 53 :: [])
         (.is _ :: .is _ :: .is _ :: .is _ :: .is _ :: .is _ :: .is _ :: .is _ :: .is _ :: .is _ :: .is _ :: .is _ :: .is _ :: .is _ :: .is _ :: .is _ :: .is _ :: .is _ :: .is _ :: .is _ :: .is _ :: .is _ :: [])
         [(0, _), (3, _)]
        ·kernel_rfl
        ·decide
        ·decide
        ·rfl
        ·kernel_rfl
        ·decide +kernel
        iterate 6 (· kernel_rfl)
        ·rfl
        ·exact keepsIs _ rfl
        ·refine ⟨?_, ?_, trivial⟩ <;> (simp; rfl)
        ·repeat
          refine ⟨?_, ?_⟩
          ·intro F W3 hF hd hR
           simp [fixedAt] at hF
           obtain ⟨t0, t3⟩ := hF
           simp [Region.binds, Ent.holds] at hd
           refine ⟨fun hgd K hK => ?_, by intro g b h hn; first | (cases h; done) | (cases h; refine absurd ?_ hn; simp [hd]; done) | (cases h; exact ⟨rfl, Ext.refl _⟩)⟩
           first
            | (refine absurd (hgd _ _ rfl) ?_; simp [hd]; done)
            | (refine absurd (hgd _ _ rfl) ?_; simp [hd]; simp [undef]; done)
            | (simp only [Ent.holds, List.getD_cons_zero, List.getD_cons_succ] at hK
               have k6' := hR.cell k6
               have k10' := hR.cell k10
               have k11' := hR.cell k11
               have k12' := hR.cell k12
               have d0' := hR.cell d0
               have d3' := hR.cell d3
               have c0' := hR.cell c0
               go_simp
               first
                | exact hK _ _ rfl (Ext.refl _))
         exact trivial
        intro X W3 hx hR
        simp only [toldX] at hx
        simp only [fillX, List.setIfInBounds_toArray, List.set_cons_succ, List.set_cons_zero]
        replace k6 := hR.cell k6
        replace k10 := hR.cell k10
        replace k11 := hR.cell k11
        replace k12 := hR.cell k12
        replace d0 := hR.cell d0
        replace d3 := hR.cell d3
        replace c0 := hR.cell c0
        replace HS := hide (HS.out.ext' hR)
        replace HA := hide (HA.out.ext hR)
        go_wp2_with (go_at_call 88; refine (demand_no _ _).mono ?_; rintro e w' ⟨rfl, rfl⟩)
        exact ⟨rfl, methNo HE.out (by decide) HS.out.ext⟩
     | cons y l =>
       have HOW := hide (show (owedL p s (j : Nat)).isEmpty = false by rw [hL]; rfl)
       obtain ⟨nl, hnl⟩ : ∃ nl, l.length = nl := ⟨_, rfl⟩
       have HLO := hide (show (owedL p s (j : Nat)).length = nl + 1 by rw [hL, List.length_cons, hnl])
       have hnz : (((nl + 1 : Nat) : Int) == 0) = false := by simp; omega
       have hnz2 : (((nl : Int) + 1) == 0) = false := by simp; omega
       have HE := hide (show armE p s ⟨t, k, i, j, wh⟩ = 174 by unfold armE; dsimp only; rw [if_neg (fun h => h HB.out)]; rw [if_neg (by rw [Int.toNat_natCast, HX.out]; exact fun h => h HX0.out)]; rw [if_neg (by rw [HSTM.out]; decide)]; rw [if_pos (by exact HOW.out)])
       clear hL hnl
       refine (HOWE.out _ HS.out.at).mono ?_
       rintro e w5 ⟨v5, rfl, hv5, hx⟩
       obtain ⟨A5, c5, rfl, hl5, hm5, _⟩ := hv5
       rw [HLO.out]
       clear hl5 hm5
       replace HS := hide (HS.out.ext' hx)
       go_wp2_with (go_at_call 88; refine (demand_no _ _).mono ?_; rintro e w' ⟨rfl, rfl⟩)
       exact ⟨rfl, methNo HE.out (by decide) HS.out.ext⟩
  ·have hd : (x == 0) = false := by simpa using x0
   have HE := hide (show armE p s ⟨t, k, i, j, wh⟩ = 177 by unfold armE; dsimp only; rw [if_neg (fun h => h HB.out)]; rw [if_pos (by rw [Int.toNat_natCast, HX.out]; exact x0)])
   clear x0
   apply wp_region_t 10 [7, 8, 9, 10, 11, 12, 13, 14, 15, 16]
    [.is _, .is _, .is _, .is _, .is _, .is _, .is _, .is _, .is _, .is _]
    [(0, _), (3, _)]
   ·kernel_rfl
   ·decide
   ·decide
   ·rfl
   ·kernel_rfl
   ·decide +kernel
   iterate 6 (· kernel_rfl)
   ·rfl
   ·exact keepsIs _ rfl
   ·refine ⟨?_, ?_, trivial⟩ <;> (simp; rfl)
   ·repeat
     refine ⟨?_, ?_⟩
     ·intro F W2 hF hd hR
      simp [fixedAt] at hF
      obtain ⟨t0, t3⟩ := hF
      simp [Region.binds, Ent.holds] at hd
      refine ⟨fun _ K hK => ?_, by intro g b h hn; first | (cases h; done) | (cases h; exact absurd (by simp [hd]) hn)⟩
      simp only [Ent.holds, List.getD_cons_zero, List.getD_cons_succ] at hK
      have k6' := hR.cell k6
      have k10' := hR.cell k10
      have k11' := hR.cell k11
      have k12' := hR.cell k12
      have d0' := hR.cell d0
      have d3' := hR.cell d3
      have c0' := hR.cell c0
      go_simp
      first
       | exact hK _ _ rfl (Ext.refl _)
    exact trivial
   intro X W2 hx hR
   simp only [toldX] at hx
   simp only [fillX, List.setIfInBounds_toArray, List.set_cons_succ, List.set_cons_zero]
   replace k6 := hR.cell k6
   replace k10 := hR.cell k10
   replace k11 := hR.cell k11
   replace k12 := hR.cell k12
   replace d0 := hR.cell d0
   replace d3 := hR.cell d3
   replace c0 := hR.cell c0
   replace HS := hide (HS.out.ext' hR)
   replace HA := hide (HA.out.ext hR)
   go_wp2_with (go_at_call 88; refine (demand_no _ _).mono ?_; rintro e w' ⟨rfl, rfl⟩)
   exact ⟨rfl, methNo HE.out (by decide) HS.out.ext⟩
 ·have HB := hide hb
  have HE := hide (show armE p s ⟨t, k, i, j, wh⟩ = badgeE p s ⟨t, k, i, j, wh⟩ by unfold armE; rw [if_pos HB.out])
  clear hb hx
  replace HS := hide (HS.out.ext' HXT.out)
  go_wp2_with fail
  exact ⟨rfl, methNo HE.out HB.out HS.out.ext⟩
end Go.Proofs.Ythcnganbnbhhoaa
