/- The walks of the acts' methods, further. -/
import Derived.Test.YthcnganbnbhhoaaMeth
namespace Go.Proofs.Ythcnganbnbhhoaa
open Go.RowKit Go.Shelf
set_option maxRecDepth 100000 in
set_option maxHeartbeats 4000000 in
/-- give -/
theorem give_any (B : Nat) (X : SceneX) (p : Pad) (s : State) (t k : Int) (i j m : Nat) (w W : World) (h : SceneS w B X p s W) (hok : PadOk p) (hst : StateOk p s) (hi : (i : Int) < p.people.length) (hj : (j : Int) < p.keys.length) (hm : (m : Int) < p.people.length) :
 Calls Try.prog 104 #[.pointer (some ⟨B, 0, none⟩), .agg #[.int .i64 t, .int .i64 k, .int .i64 i, .int .i64 j, .int .i64 m]] W (MethQ w B X p (giveE p s ⟨t, k, i, j, m⟩) (heldS s j m)) := by
 obtain ⟨⟨az, cz, ad, cd, ap, cp, ak, ck, aq, cq⟩, sz, zc, sh, hc, sq, qc⟩ := X
 have HS := hide h
 have HOK := hide hok
 have HST := hide hst
 have hl1 := HST.out.lz
 have hl2 := HST.out.lh
 have hl3 := HST.out.lq
 clear h hok hst
 have n1 : i < s.zones.length := by omega
 have n2 : j < s.holder.length := by omega
 have n3 : m < s.zones.length := by omega
 have L1 := hide hl1
 have L2 := hide hl2
 have L3 := hide hl3
 clear hl1 hl2 hl3
 obtain ⟨gc0, hgc0, hgec0, c0, _⟩ := HS.out.hlt (i := j) (n2)
 dsimp only at hgc0
 subst hgc0
 obtain ⟨x, hx⟩ : ∃ v, s.holder.getD j 0 = v := ⟨_, rfl⟩
 have HX := hide hx
 rw [hx] at c0
 clear hx
 have hl0 := World.block_lt_of_cell? _ _ c0
 have HNE := hide (show W.heap.size ≠ gc0 by dsimp only at hl0; omega)
 clear hl0
 obtain ⟨gc1, hgc1, hgec1, c1, _⟩ := HS.out.zlt (i := i) (n1)
 dsimp only at hgc1
 subst hgc1
 obtain ⟨y, hy⟩ : ∃ v, s.zones.getD i 0 = v := ⟨_, rfl⟩
 have HY := hide hy
 rw [hy] at c1
 clear hy
 obtain ⟨g7, e7, _, c2, _⟩ := HS.out.zlt (i := m) n3
 dsimp only at e7
 cases e7
 obtain ⟨z, hz⟩ : ∃ v, s.zones.getD m 0 = v := ⟨_, rfl⟩
 have HZ := hide hz
 rw [hz] at c2
 clear hz
 go_enter Try.func104, Try.ntmps104
 go_wp2_with fail
 obtain ⟨W1, hW1⟩ : ∃ W1, W.alloc (.cells #[.int .i64 t, .int .i64 k, .int .i64 i, .int .i64 j, .int .i64 m] 48) = W1 := ⟨_, rfl⟩
 have hx1 : Ext W W1 := by rw [← hW1]; exact (Ext.refl _).alloc _
 have HA := hide (show Blk W1 W.heap.size 48 #[.int .i64 t, .int .i64 k, .int .i64 i, .int .i64 j, .int .i64 m] by rw [← hW1]; exact Blk.new _ _ _)
 rw [hW1]
 replace HS := hide (HS.out.ext' hx1)
 clear hW1 hx1
 obtain ⟨g8, e8, _, c8, _⟩ := HS.out.hlt (i := j) n2
 dsimp only at e8
 cases e8
 replace c0 := c8
 rw [HX.out] at c0
 clear c8
 obtain ⟨g8, e8, _, c8, _⟩ := HS.out.zlt (i := i) n1
 dsimp only at e8
 cases e8
 replace c1 := c8
 rw [HY.out] at c1
 clear c8
 obtain ⟨g8, e8, _, c8, _⟩ := HS.out.zlt (i := m) n3
 dsimp only at e8
 cases e8
 replace c2 := c8
 rw [HZ.out] at c2
 clear c8
 have k8 := HS.out.at.k8
 have k9 := HS.out.at.k9
 try dsimp only at k8 k9
 have d2 := cell_heap HA.out 2 _ rfl
 have d3 := cell_heap HA.out 3 _ rfl
 have d4 := cell_heap HA.out 4 _ rfl
 by_cases x0 : x = (i : Int)
 ·have hd : (x == (i : Int)) = true := by simpa using x0
  have HX0 := hide x0
  clear x0
  apply wp_region_t 12 [4, 5, 6, 7, 8, 9, 10, 11, 12, 13, 14, 15]
   [.is _, .is _, .is _, .is _, .is _, .is _, .is _, .is _, .is _, .is _, .is _, .is _]
   [(0, _), (3, _)]
  ·kernel_rfl
  ·decide
  ·decide
  ·rfl
  ·kernel_rfl
  ·decide +kernel
  iterate 6 (· kernel_rfl)
  ·rfl
  ·exact keepsIs _ rfl
  ·refine ⟨?_, ?_, trivial⟩ <;> (simp; rfl)
  ·repeat
    refine ⟨?_, ?_⟩
    ·intro F W2 hF hd hR
     simp [fixedAt] at hF
     obtain ⟨t0, t3⟩ := hF
     simp [Region.binds, Ent.holds] at hd
     refine ⟨fun _ K hK => ?_, by intro g b h hn; first | (cases h; done) | (cases h; exact absurd (by simp [hd]) hn)⟩
     simp only [Ent.holds, List.getD_cons_zero, List.getD_cons_succ] at hK
     have k8' := hR.cell k8
     have k9' := hR.cell k9
     have d2' := hR.cell d2
     have d3' := hR.cell d3
     have d4' := hR.cell d4
     have c0' := hR.cell c0
     have c1' := hR.cell c1
     have c2' := hR.cell c2
     go_simp
     first
      | exact hK _ _ rfl (Ext.refl _)
   exact trivial
  intro X W2 hx hR
  simp only [toldX] at hx
  simp only [fillX, List.setIfInBounds_toArray, List.set_cons_succ, List.set_cons_zero]
  replace k8 := hR.cell k8
  replace k9 := hR.cell k9
  replace d2 := hR.cell d2
  replace d3 := hR.cell d3
  replace d4 := hR.cell d4
  replace c0 := hR.cell c0
  replace c1 := hR.cell c1
  replace c2 := hR.cell c2
  replace HS := hide (HS.out.ext' hR)
  replace HA := hide (HA.out.ext hR)
  go_wp2_with (go_at_call 88; refine (demand_ok _ _).mono ?_; rintro e w' ⟨rfl, rfl⟩)
  by_cases z0 : z = y
  ·have hd : (z == y) = true := by simpa using z0
   have HZ0 := hide z0
   clear z0
   apply wp_region_t 19 (17 :: 18 :: 19 :: 20 :: 21 :: 22 :: 23 :: 24 :: 25 :: 26 :: 27 :: 28 :: 29 :: 30 :: 31 :: 32 :: 33 :: 34 :: 35 :: [])
    (.is _ :: .is _ :: .is _ :: .is _ :: .is _ :: .is _ :: .is _ :: .is _ :: .is _ :: .is _ :: .is _ :: .is _ :: .is _ :: .is _ :: .is _ :: .is _ :: .is _ :: .is _ :: .is _ :: [])
    [(0, _), (3, _)]
   ·kernel_rfl
   ·decide
   ·decide
   ·rfl
   ·kernel_rfl
   ·decide +kernel
   iterate 6 (· kernel_rfl)
   ·rfl
   ·exact keepsIs _ rfl
   ·refine ⟨?_, ?_, trivial⟩ <;> (simp; rfl)
   ·repeat
     refine ⟨?_, ?_⟩
     ·intro F W3 hF hd hR
      simp [fixedAt] at hF
      obtain ⟨t0, t3⟩ := hF
      simp [Region.binds, Ent.holds] at hd
      refine ⟨fun _ K hK => ?_, by intro g b h hn; first | (cases h; done) | (cases h; exact absurd (by simp [hd]) hn)⟩
      simp only [Ent.holds, List.getD_cons_zero, List.getD_cons_succ] at hK
      have k8' := hR.cell k8
      have k9' := hR.cell k9
      have d2' := hR.cell d2
      have d3' := hR.cell d3
      have d4' := hR.cell d4
      have c0' := hR.cell c0
      have c1' := hR.cell c1
      have c2' := hR.cell c2
      go_simp
      first
       | exact hK _ _ rfl (Ext.refl _)
    exact trivial
   intro X W3 hx hR
   simp only [toldX] at hx
   simp only [fillX, List.setIfInBounds_toArray, List.set_cons_succ, List.set_cons_zero]
   replace k8 := hR.cell k8
   replace k9 := hR.cell k9
   replace d2 := hR.cell d2
   replace d3 := hR.cell d3
   replace d4 := hR.cell d4
   replace c0 := hR.cell c0
   replace c1 := hR.cell c1
   replace c2 := hR.cell c2
   replace HS := hide (HS.out.ext' hR)
   replace HA := hide (HA.out.ext hR)
   go_wp2_with (go_at_call 88; refine (demand_ok _ _).mono ?_; rintro e w' ⟨rfl, rfl⟩)
   apply wp_region_t 9 [37, 38, 39, 40, 41, 42, 43, 44, 45]
    [.is _, .is _, .is _, .is _, .is _, .is _, .is _, .is _, .is _]
    [(0, _), (3, _)]
   ·kernel_rfl
   ·decide
   ·decide
   ·rfl
   ·kernel_rfl
   ·decide +kernel
   iterate 6 (· kernel_rfl)
   ·rfl
   ·exact keepsIs _ rfl
   ·refine ⟨?_, ?_, trivial⟩ <;> (simp; rfl)
   ·repeat
     refine ⟨?_, ?_⟩
     ·intro F W4 hF hd hR
      simp [fixedAt] at hF
      obtain ⟨t0, t3⟩ := hF
      simp [Region.binds, Ent.holds] at hd
      refine ⟨fun _ K hK => ?_, by intro g b h hn; first | (cases h; done) | (cases h; exact absurd (by simp [hd]) hn)⟩
      simp only [Ent.holds, List.getD_cons_zero, List.getD_cons_succ] at hK
      have k8' := hR.cell k8
      have k9' := hR.cell k9
      have d2' := hR.cell d2
      have d3' := hR.cell d3
      have d4' := hR.cell d4
      have c0' := hR.cell c0
      have c1' := hR.cell c1
      have c2' := hR.cell c2
      go_simp
      first
       | exact hK _ _ rfl (Ext.refl _)
    exact trivial
   intro X W4 hx hR
   simp only [toldX] at hx
   simp only [fillX, List.setIfInBounds_toArray, List.set_cons_succ, List.set_cons_zero]
   replace k8 := hR.cell k8
   replace k9 := hR.cell k9
   replace d2 := hR.cell d2
   replace d3 := hR.cell d3
   replace d4 := hR.cell d4
   replace c0 := hR.cell c0
   replace c1 := hR.cell c1
   replace c2 := hR.cell c2
   replace HS := hide (HS.out.ext' hR)
   replace HA := hide (HA.out.ext hR)
   obtain ⟨g9, e9, hge9, _, f9⟩ := HS.out.hlt (i := j) n2
   dsimp only at e9
   cases e9
   go_wp2_with fail
   replace HS := hide (show SceneS w B ⟨⟨az, cz, ad, cd, ap, cp, ak, ck, aq, cq⟩, some ⟨gc1, 0, none⟩, zc, some ⟨gc0, 0, none⟩, hc, sq, qc⟩ p (heldS s j m) _ from (HS.out.setH rfl hge9 j (m : Int)))
   replace HA := hide (HA.out.other HNE.out j (.int .i64 m))
   obtain ⟨V5, hV5⟩ : ∃ V, W4.setCell ⟨gc0, j, none⟩ (.int .i64 m) = V := ⟨_, rfl⟩
   rw [hV5] at HS HA ⊢
   clear hV5
   clear k8 k9 d2 d3 d4 c0 c1 c2
   obtain ⟨g8, e8, _, c1, _⟩ := HS.out.zlt (i := i) n1
   dsimp only at e8
   cases e8
   rw [show (heldS s j m).zones.getD i 0 = y from HY.out] at c1
   have k8 := HS.out.at.k8
   try dsimp only at k8
   have d2 := cell_heap HA.out 2 _ rfl
   simp only [heldS] at k8
   have hyz : y < p.zones.length := by have := (HST.out.z i n1).2; rw [HY.out] at this; exact this
   have HKE := hide (fun V hV => keyed_any B ⟨⟨az, cz, ad, cd, ap, cp, ak, ck, aq, cq⟩, some ⟨gc1, 0, none⟩, zc, some ⟨gc0, 0, none⟩, hc, sq, qc⟩ p (heldS s j m) i y V hV HOK.out (by simpa [heldS] using L2.out) L3.out hyz)
   cases hk : keyedB p (heldS s j m) i y with
   | false =>
     rw [hk] at HKE
     have HE := hide (show giveE p s ⟨t, k, i, j, m⟩ = 178 by unfold giveE; dsimp only; rw [if_neg (by rw [Int.toNat_natCast, HX.out]; exact fun h => h HX0.out)]; rw [if_neg (by rw [Int.toNat_natCast, Int.toNat_natCast, HZ.out, HY.out]; exact fun h => h HZ0.out)]; rw [if_pos (by rw [Int.toNat_natCast, HY.out]; exact hk)])
     clear hk
     apply wp_region_t 13 (47 :: 48 :: 49 :: 50 :: 51 :: 52 :: 53 :: 54 :: 55 :: 56 :: 57 :: 58 :: 59 :: [])
      (.is _ :: .is _ :: .is _ :: .is _ :: .is _ :: .is _ :: .is _ :: .is _ :: .is _ :: .is _ :: .is _ :: .is _ :: .is _ :: [])
      [(0, _), (3, _)]
     ·kernel_rfl
     ·decide
     ·decide
     ·rfl
     ·kernel_rfl
     ·decide +kernel
     iterate 6 (· kernel_rfl)
     ·rfl
     ·exact keepsIs _ rfl
     ·refine ⟨?_, ?_, trivial⟩ <;> (simp; rfl)
     ·repeat
       refine ⟨?_, ?_⟩
       ·intro F W5 hF hd hR
        simp [fixedAt] at hF
        obtain ⟨t0, t3⟩ := hF
        simp [Region.binds, Ent.holds] at hd
        refine ⟨fun _ K hK => ?_, by intro g b h hn; first | (cases h; done) | (cases h; exact absurd (by simp [hd]) hn)⟩
        simp only [Ent.holds, List.getD_cons_zero, List.getD_cons_succ] at hK
        have k8' := hR.cell k8
        have d2' := hR.cell d2
        have c1' := hR.cell c1
        go_simp
        first
         | exact hK _ _ rfl (Ext.refl _)
         | (go_at_call 94
            with_reducible refine (HKE.out _ (HS.out.ext' hR).at).mono ?_
            rintro e w' ⟨rfl, hx⟩
            exact hK _ _ rfl hx)
      exact trivial
     intro X W5 hx hR
     simp only [toldX] at hx
     simp only [fillX, List.setIfInBounds_toArray, List.set_cons_succ, List.set_cons_zero]
     replace k8 := hR.cell k8
     replace d2 := hR.cell d2
     replace c1 := hR.cell c1
     replace HS := hide (HS.out.ext' hR)
     replace HA := hide (HA.out.ext hR)
     go_wp2_with (go_at_call 88; refine (demand_no _ _).mono ?_; rintro e w' ⟨rfl, rfl⟩)
     exact ⟨rfl, methNo HE.out (by decide) HS.out.ext⟩
   | true =>
     rw [hk] at HKE
     have HE := hide (show giveE p s ⟨t, k, i, j, m⟩ = 0 by unfold giveE; dsimp only; rw [if_neg (by rw [Int.toNat_natCast, HX.out]; exact fun h => h HX0.out)]; rw [if_neg (by rw [Int.toNat_natCast, Int.toNat_natCast, HZ.out, HY.out]; exact fun h => h HZ0.out)]; rw [if_neg (by rw [Int.toNat_natCast, HY.out, hk]; decide)])
     clear hk
     apply wp_region_t 13 (47 :: 48 :: 49 :: 50 :: 51 :: 52 :: 53 :: 54 :: 55 :: 56 :: 57 :: 58 :: 59 :: [])
      (.is _ :: .is _ :: .is _ :: .is _ :: .is _ :: .is _ :: .is _ :: .is _ :: .is _ :: .is _ :: .is _ :: .is _ :: .is _ :: [])
      [(0, _), (3, _)]
     ·kernel_rfl
     ·decide
     ·decide
     ·rfl
     ·kernel_rfl
     ·decide +kernel
     iterate 6 (· kernel_rfl)
     ·rfl
     ·exact keepsIs _ rfl
     ·refine ⟨?_, ?_, trivial⟩ <;> (simp; rfl)
     ·repeat
       refine ⟨?_, ?_⟩
       ·intro F W5 hF hd hR
        simp [fixedAt] at hF
        obtain ⟨t0, t3⟩ := hF
        simp [Region.binds, Ent.holds] at hd
        refine ⟨fun _ K hK => ?_, by intro g b h hn; first | (cases h; done) | (cases h; exact absurd (by simp [hd]) hn)⟩
        simp only [Ent.holds, List.getD_cons_zero, List.getD_cons_succ] at hK
        have k8' := hR.cell k8
        have d2' := hR.cell d2
        have c1' := hR.cell c1
        go_simp
        first
         | exact hK _ _ rfl (Ext.refl _)
         | (go_at_call 94
            with_reducible refine (HKE.out _ (HS.out.ext' hR).at).mono ?_
            rintro e w' ⟨rfl, hx⟩
            exact hK _ _ rfl hx)
      exact trivial
     intro X W5 hx hR
     simp only [toldX] at hx
     simp only [fillX, List.setIfInBounds_toArray, List.set_cons_succ, List.set_cons_zero]
     replace k8 := hR.cell k8
     replace d2 := hR.cell d2
     replace c1 := hR.cell c1
     replace HS := hide (HS.out.ext' hR)
     replace HA := hide (HA.out.ext hR)
     go_wp2_with (go_at_call 88; refine (demand_ok _ _).mono ?_; rintro e w' ⟨rfl, rfl⟩)
     refine bodyPost_end (results_none rfl _ _ _) rfl ?_
     exact methYes (s' := heldS s j m) HE.out HS.out
  ·have hd : (z == y) = false := by simpa using z0
   have HE := hide (show giveE p s ⟨t, k, i, j, m⟩ = 171 by unfold giveE; dsimp only; rw [if_neg (by rw [Int.toNat_natCast, HX.out]; exact fun h => h HX0.out)]; rw [if_pos (by rw [Int.toNat_natCast, Int.toNat_natCast, HZ.out, HY.out]; exact z0)])
   clear z0
   apply wp_region_t 19 (17 :: 18 :: 19 :: 20 :: 21 :: 22 :: 23 :: 24 :: 25 :: 26 :: 27 :: 28 :: 29 :: 30 :: 31 :: 32 :: 33 :: 34 :: 35 :: [])
    (.is _ :: .is _ :: .is _ :: .is _ :: .is _ :: .is _ :: .is _ :: .is _ :: .is _ :: .is _ :: .is _ :: .is _ :: .is _ :: .is _ :: .is _ :: .is _ :: .is _ :: .is _ :: .is _ :: [])
    [(0, _), (3, _)]
   ·kernel_rfl
   ·decide
   ·decide
   ·rfl
   ·kernel_rfl
   ·decide +kernel
   iterate 6 (· kernel_rfl)
   ·rfl
   ·exact keepsIs _ rfl
   ·refine ⟨?_, ?_, trivial⟩ <;> (simp; rfl)
   ·repeat
     refine ⟨?_, ?_⟩
     ·intro F W3 hF hd hR
      simp [fixedAt] at hF
      obtain ⟨t0, t3⟩ := hF
      simp [Region.binds, Ent.holds] at hd
      refine ⟨fun _ K hK => ?_, by intro g b h hn; first | (cases h; done) | (cases h; exact absurd (by simp [hd]) hn)⟩
      simp only [Ent.holds, List.getD_cons_zero, List.getD_cons_succ] at hK
      have k8' := hR.cell k8
      have k9' := hR.cell k9
      have d2' := hR.cell d2
      have d3' := hR.cell d3
      have d4' := hR.cell d4
      have c0' := hR.cell c0
      have c1' := hR.cell c1
      have c2' := hR.cell c2
      go_simp
      first
       | exact hK _ _ rfl (Ext.refl _)
    exact trivial
   intro X W3 hx hR
   simp only [toldX] at hx
   simp only [fillX, List.setIfInBounds_toArray, List.set_cons_succ, List.set_cons_zero]
   replace k8 := hR.cell k8
   replace k9 := hR.cell k9
   replace d2 := hR.cell d2
   replace d3 := hR.cell d3
   replace d4 := hR.cell d4
   replace c0 := hR.cell c0
   replace c1 := hR.cell c1
   replace c2 := hR.cell c2
   replace HS := hide (HS.out.ext' hR)
   replace HA := hide (HA.out.ext hR)
   go_wp2_with (go_at_call 88; refine (demand_no _ _).mono ?_; rintro e w' ⟨rfl, rfl⟩)
   exact ⟨rfl, methNo HE.out (by decide) HS.out.ext⟩
 ·have hd : (x == (i : Int)) = false := by simpa using x0
  have HE := hide (show giveE p s ⟨t, k, i, j, m⟩ = 174 by unfold giveE; dsimp only; rw [if_pos (by rw [Int.toNat_natCast, HX.out]; exact x0)])
  clear x0
  apply wp_region_t 12 [4, 5, 6, 7, 8, 9, 10, 11, 12, 13, 14, 15]
   [.is _, .is _, .is _, .is _, .is _, .is _, .is _, .is _, .is _, .is _, .is _, .is _]
   [(0, _), (3, _)]
  ·kernel_rfl
  ·decide
  ·decide
  ·rfl
  ·kernel_rfl
  ·decide +kernel
  iterate 6 (· kernel_rfl)
  ·rfl
  ·exact keepsIs _ rfl
  ·refine ⟨?_, ?_, trivial⟩ <;> (simp; rfl)
  ·repeat
    refine ⟨?_, ?_⟩
    ·intro F W2 hF hd hR
     simp [fixedAt] at hF
     obtain ⟨t0, t3⟩ := hF
     simp [Region.binds, Ent.holds] at hd
     refine ⟨fun _ K hK => ?_, by intro g b h hn; first | (cases h; done) | (cases h; exact absurd (by simp [hd]) hn)⟩
     simp only [Ent.holds, List.getD_cons_zero, List.getD_cons_succ] at hK
     have k8' := hR.cell k8
     have k9' := hR.cell k9
     have d2' := hR.cell d2
     have d3' := hR.cell d3
     have d4' := hR.cell d4
     have c0' := hR.cell c0
     have c1' := hR.cell c1
     have c2' := hR.cell c2
     go_simp
     first
      | exact hK _ _ rfl (Ext.refl _)
   exact trivial
  intro X W2 hx hR
  simp only [toldX] at hx
  simp only [fillX, List.setIfInBounds_toArray, List.set_cons_succ, List.set_cons_zero]
  replace k8 := hR.cell k8
  replace k9 := hR.cell k9
  replace d2 := hR.cell d2
  replace d3 := hR.cell d3
  replace d4 := hR.cell d4
  replace c0 := hR.cell c0
  replace c1 := hR.cell c1
  replace c2 := hR.cell c2
  replace HS := hide (HS.out.ext' hR)
  replace HA := hide (HA.out.ext hR)
  go_wp2_with (go_at_call 88; refine (demand_no _ _).mono ?_; rintro e w' ⟨rfl, rfl⟩)
  exact ⟨rfl, methNo HE.out (by decide) HS.out.ext⟩
set_option maxRecDepth 100000 in
set_option maxHeartbeats 4000000 in
/-- badge -/
theorem badge_any (B : Nat) (X : SceneX) (p : Pad) (s : State) (t k wh : Int) (i j : Nat) (W : World) (h : SceneAt W B X p s) (hst : StateOk p s) (hi : (i : Int) < p.people.length) (hj : (j : Int) < p.squibs.length) :
 Calls Try.prog 118 #[.pointer (some ⟨B, 0, none⟩), .agg #[.int .i64 t, .int .i64 k, .int .i64 i, .int .i64 j, .int .i64 wh]] W (PanQ W (badgeE p s ⟨t, k, i, j, wh⟩)) := by
 obtain ⟨⟨az, cz, ad, cd, ap, cp, ak, ck, aq, cq⟩, sz, zc, sh, hc, sq, qc⟩ := X
 have HS := hide h
 have HST := hide hst
 have HX0 := hide (Ext.refl W)
 have n1 : i < s.zones.length := by have := hst.lz; omega
 have n2 : i < p.people.length := by omega
 have n3 : j < p.squibs.length := by omega
 clear h hst
 obtain ⟨bc0, oc0, Ac0, lc0, Hc0⟩ := ListV.at HS.out.pad.x.rows.2.2.2 n2
 dsimp only at Ac0
 have c0 := Hc0 1 (by omega)
 obtain ⟨px, qx⟩ : ∃ v, p.people.getD i default = v := ⟨_, rfl⟩
 have Gx := hide (show (personOf p (i : Nat)).grade = px.grade by unfold personOf; rw [Int.toNat_natCast, qx])
 rw [qx] at c0
 obtain ⟨xn, x⟩ := px
 dsimp only [Person.cell] at c0 Gx
 subst Ac0
 clear Hc0 qx lc0
 obtain ⟨bc1, oc1, Ac1, lc1, Hc1⟩ := ListV.at HS.out.pad.q.rows.2.2.2 n3
 dsimp only at Ac1
 have c1 := Hc1 4 (by omega)
 obtain ⟨⟨py, vy⟩, qy⟩ : ∃ v, p.squibs.getD j default = v := ⟨_, rfl⟩
 have Gy := hide (show (squibOf p (j : Nat)).grade = py.grade by unfold squibOf; rw [Int.toNat_natCast, qy])
 rw [qy] at c1
 obtain ⟨yn, yx, yy, yc, y, yk⟩ := py
 dsimp only [SquibX.cell] at c1 Gy
 subst Ac1
 clear Hc1 qy lc1
 obtain ⟨R, hR⟩ : ∃ R, badgeE p s ⟨t, k, i, j, wh⟩ = R := ⟨_, rfl⟩
 have HRR := hide hR
 rw [hR]
 clear hR
 go_enter Try.func118, Try.ntmps118
 go_wp2_with fail
 obtain ⟨W1, hW1⟩ : ∃ W1, W.alloc (.cells #[.int .i64 t, .int .i64 k, .int .i64 i, .int .i64 j, .int .i64 wh] 48) = W1 := ⟨_, rfl⟩
 have hx1 : Ext W W1 := by rw [← hW1]; exact (Ext.refl _).alloc _
 have HA := hide (show Blk W1 W.heap.size 48 #[.int .i64 t, .int .i64 k, .int .i64 i, .int .i64 j, .int .i64 wh] by rw [← hW1]; exact Blk.new _ _ _)
 rw [hW1]
 replace HS := hide (HS.out.ext hx1)
 replace HX0 := hide (HX0.out.trans hx1)
 replace c0 := hx1.cell c0
 replace c1 := hx1.cell c1
 clear hW1 hx1
 have k2 := HS.out.k2
 have k4 := HS.out.k4
 try dsimp only at k2 k4
 have d2 := cell_heap HA.out 2 _ rfl
 have d3 := cell_heap HA.out 3 _ rfl
 cases hp : atPanelB p s i with
 | false =>
   refine (atPanel_no B ⟨⟨az, cz, ad, cd, some ⟨bc0, oc0, none⟩, cp, ak, ck, some ⟨bc1, oc1, none⟩, cq⟩, sz, zc, sh, hc, sq, qc⟩ p s i W1 HS.out n1 hp).mono ?_
   rintro e w2 ⟨rfl, hx⟩
   have HE := hide (show R = 171 by rw [← HRR.out]; unfold badgeE; dsimp only; rw [if_pos hp])
   clear hp
   replace HX0 := hide (HX0.out.trans hx)
   go_wp2_with fail
   exact ⟨rfl, panNo HE.out (by decide) HX0.out⟩
 | true =>
   refine (atPanel_ok B ⟨⟨az, cz, ad, cd, some ⟨bc0, oc0, none⟩, cp, ak, ck, some ⟨bc1, oc1, none⟩, cq⟩, sz, zc, sh, hc, sq, qc⟩ p s i W1 HS.out n1 hp).mono ?_
   rintro e w2 ⟨rfl, hx⟩
   have HP := hide hp
   clear hp
   replace k2 := hx.cell k2
   replace k4 := hx.cell k4
   replace d2 := hx.cell d2
   replace d3 := hx.cell d3
   replace c0 := hx.cell c0
   replace c1 := hx.cell c1
   replace HS := hide (HS.out.ext hx)
   replace HX0 := hide (HX0.out.trans hx)
   replace HA := hide (HA.out.ext hx)
   clear hx
   go_wp2_with fail
   by_cases y0 : y ≤ x
   ·have hd : decide (y ≤ x) = true := decide_eq_true y0
    have HE := hide (show R = 0 by rw [← HRR.out]; unfold badgeE; dsimp only; rw [if_neg (by rw [HP.out]; decide)]; rw [if_neg (by rw [Gx.out, Gy.out]; omega)])
    clear y0
    apply wp_region_t 21 (8 :: 9 :: 10 :: 11 :: 12 :: 13 :: 14 :: 15 :: 16 :: 17 :: 18 :: 19 :: 20 :: 21 :: 22 :: 23 :: 24 :: 25 :: 26 :: 27 :: 28 :: [])
     (.is _ :: .is _ :: .is _ :: .is _ :: .is _ :: .is _ :: .is _ :: .is _ :: .is _ :: .is _ :: .is _ :: .is _ :: .is _ :: .is _ :: .is _ :: .is _ :: .is _ :: .is _ :: .is _ :: .is _ :: .is _ :: [])
     [(0, _), (3, _)]
    ·kernel_rfl
    ·decide
    ·decide
    ·rfl
    ·kernel_rfl
    ·decide +kernel
    iterate 6 (· kernel_rfl)
    ·rfl
    ·exact keepsIs _ rfl
    ·refine ⟨?_, ?_, trivial⟩ <;> (simp; rfl)
    ·repeat
      refine ⟨?_, ?_⟩
      ·intro F W2 hF hd hR
       simp [fixedAt] at hF
       obtain ⟨t0, t3⟩ := hF
       simp [Region.binds, Ent.holds] at hd
       refine ⟨fun _ K hK => ?_, by intro g b h hn; first | (cases h; done) | (cases h; exact absurd (by simp [hd]) hn)⟩
       simp only [Ent.holds, List.getD_cons_zero, List.getD_cons_succ] at hK
       have k2' := hR.cell k2
       have k4' := hR.cell k4
       have d2' := hR.cell d2
       have d3' := hR.cell d3
       have c0' := hR.cell c0
       have c1' := hR.cell c1
       go_simp
       first
        | exact hK _ _ rfl (Ext.refl _)
     exact trivial
    intro X W2 hx hR
    simp only [toldX] at hx
    simp only [fillX, List.setIfInBounds_toArray, List.set_cons_succ, List.set_cons_zero]
    replace k2 := hR.cell k2
    replace k4 := hR.cell k4
    replace d2 := hR.cell d2
    replace d3 := hR.cell d3
    replace c0 := hR.cell c0
    replace c1 := hR.cell c1
    replace HS := hide (HS.out.ext hR)
    replace HX0 := hide (HX0.out.trans hR)
    replace HA := hide (HA.out.ext hR)
    go_wp2_with (go_at_call 88; refine (demand_ok _ _).mono ?_; rintro e w' ⟨rfl, rfl⟩)
    refine bodyPost_end (results_none rfl _ _ _) rfl ?_
    exact panYes HE.out HX0.out
   ·have hd : decide (y ≤ x) = false := decide_eq_false y0
    have HE := hide (show R = 172 by rw [← HRR.out]; unfold badgeE; dsimp only; rw [if_neg (by rw [HP.out]; decide)]; rw [if_pos (by rw [Gx.out, Gy.out]; omega)])
    clear y0
    apply wp_region_t 21 (8 :: 9 :: 10 :: 11 :: 12 :: 13 :: 14 :: 15 :: 16 :: 17 :: 18 :: 19 :: 20 :: 21 :: 22 :: 23 :: 24 :: 25 :: 26 :: 27 :: 28 :: [])
     (.is _ :: .is _ :: .is _ :: .is _ :: .is _ :: .is _ :: .is _ :: .is _ :: .is _ :: .is _ :: .is _ :: .is _ :: .is _ :: .is _ :: .is _ :: .is _ :: .is _ :: .is _ :: .is _ :: .is _ :: .is _ :: [])
     [(0, _), (3, _)]
    ·kernel_rfl
    ·decide
    ·decide
    ·rfl
    ·kernel_rfl
    ·decide +kernel
    iterate 6 (· kernel_rfl)
    ·rfl
    ·exact keepsIs _ rfl
    ·refine ⟨?_, ?_, trivial⟩ <;> (simp; rfl)
    ·repeat
      refine ⟨?_, ?_⟩
      ·intro F W2 hF hd hR
       simp [fixedAt] at hF
       obtain ⟨t0, t3⟩ := hF
       simp [Region.binds, Ent.holds] at hd
       refine ⟨fun _ K hK => ?_, by intro g b h hn; first | (cases h; done) | (cases h; exact absurd (by simp [hd]) hn)⟩
       simp only [Ent.holds, List.getD_cons_zero, List.getD_cons_succ] at hK
       have k2' := hR.cell k2
       have k4' := hR.cell k4
       have d2' := hR.cell d2
       have d3' := hR.cell d3
       have c0' := hR.cell c0
       have c1' := hR.cell c1
       go_simp
       first
        | exact hK _ _ rfl (Ext.refl _)
     exact trivial
    intro X W2 hx hR
    simp only [toldX] at hx
    simp only [fillX, List.setIfInBounds_toArray, List.set_cons_succ, List.set_cons_zero]
    replace k2 := hR.cell k2
    replace k4 := hR.cell k4
    replace d2 := hR.cell d2
    replace d3 := hR.cell d3
    replace c0 := hR.cell c0
    replace c1 := hR.cell c1
    replace HS := hide (HS.out.ext hR)
    replace HX0 := hide (HX0.out.trans hR)
    replace HA := hide (HA.out.ext hR)
    go_wp2_with (go_at_call 88; refine (demand_no _ _).mono ?_; rintro e w' ⟨rfl, rfl⟩)
    exact ⟨rfl, panNo HE.out (by decide) HX0.out⟩
end Go.Proofs.Ythcnganbnbhhoaa
