/- The walk of move. -/
import Derived.Test.YthcnganbnbhhoaaMoveA
namespace Go.Proofs.Ythcnganbnbhhoaa
open Go.RowKit Go.Shelf
attribute [local go_sem] Oper.semAt_some
set_option maxRecDepth 100000 in
set_option maxHeartbeats 16000000 in
/-- move -/
theorem move2z (B : Nat) (X : SceneX) (p : Pad) (s : State) (t k : Int) (i j m : Nat) (w W : World) (h : SceneS w B X p s W) (hok : PadOk p) (hst : StateOk p s) (hi : (i : Int) < p.people.length) (hj : (j : Int) < p.zones.length) (hm : (m : Int) < p.people.length) :
 Calls Try.prog 101 #[.pointer (some ⟨B, 0, none⟩), .agg #[.int .i64 t, .int .i64 k, .int .i64 i, .int .i64 j, .int .i64 m]] W (MethQ w B X p (moveE p s ⟨t, k, i, j, m⟩) (movedS s ⟨t, k, i, j, m⟩)) := by
 obtain ⟨⟨az, cz, ad, cd, ap, cp, ak, ck, aq, cq⟩, sz, zc, sh, hc, sq, qc⟩ := X
 have HOK := hide hok
 have HST := hide hst
 have n1 : i < s.zones.length := by have := hst.lz; omega
 have n2 : i < p.people.length := by omega
 have n3 : j < p.zones.length := by omega
 have n4 : m < s.zones.length := by have := hst.lz; omega
 have n5 : m < p.people.length := by omega
 obtain ⟨gz, hgz, hgw, c1, _⟩ := h.zlt (i := i) n1
 dsimp only at hgz
 subst hgz
 have HGB := hide (World.block_lt_of_cell? _ _ c1)
 have HGW := hide hgw
 clear hgw c1
 obtain ⟨y, hy⟩ : ∃ v, s.zones.getD i 0 = v := ⟨_, rfl⟩
 have HY := hide hy
 clear hy
 obtain ⟨bp, op, hA, _, hc0⟩ := ListV.at h.pad.x.rows.2.2.2 n2
 dsimp only at hA
 subst hA
 have e1 := hc0 1 (by omega)
 obtain ⟨P, hP⟩ : ∃ v, p.people.getD i default = v := ⟨_, rfl⟩
 have Ggi := hide (show (personOf p (i : Nat)).grade = P.grade by unfold personOf; rw [Int.toNat_natCast, hP])
 rw [hP] at e1
 obtain ⟨gin, gi⟩ := P
 dsimp only [Person.cell] at e1 Ggi
 have HE1 := hide e1
 clear hc0 hP e1
 obtain ⟨b9, o9, hA, _, hc0⟩ := ListV.at h.pad.x.rows.2.2.2 n5
 dsimp only at hA
 cases hA
 have e2 := hc0 1 (by omega)
 obtain ⟨P, hP⟩ : ∃ v, p.people.getD m default = v := ⟨_, rfl⟩
 have Ggm := hide (show (personOf p (m : Nat)).grade = P.grade by unfold personOf; rw [Int.toNat_natCast, hP])
 rw [hP] at e2
 obtain ⟨gmn, gm⟩ := P
 dsimp only [Person.cell] at e2 Ggm
 have HE2 := hide e2
 clear hc0 hP e2
 obtain ⟨bz, oz, hA, _, hc0⟩ := ListV.at h.pad.z.rows.2.2.2 n3
 dsimp only at hA
 subst hA
 have e5 := hc0 5 (by omega)
 have e6 := hc0 6 (by omega)
 obtain ⟨Z, hZ⟩ : ∃ v, p.zones.getD j default = v := ⟨_, rfl⟩
 have GZ := hide (show zoneOf p (j : Nat) = Z by unfold zoneOf; rw [Int.toNat_natCast, hZ])
 rw [hZ] at e5 e6
 obtain ⟨zn, z1, z2, z3, z4, zg, zr, zp⟩ := Z
 dsimp only [Zone.cell] at e5 e6
 have HE5 := hide e5
 have HE6 := hide e6
 clear hc0 hZ e5 e6
 have H := hide h
 clear h hok hst
 refine callsIn_wide.1 (callsIn_of_wp_marks (n := 0) Try.func101 rfl trivial ?_ rfl)
 simp only [Try.ntmps101, List.size_toArray, List.length_cons, List.length_nil, Nat.reduceAdd, Nat.reduceSub, Array.replicate_succ, Array.replicate_zero, List.push_toArray, List.append_toArray, List.nil_append, List.cons_append]
 refine wpIn_wide.2 ?_
 go_wp2_with fail
 obtain ⟨V1, hV1⟩ : ∃ V, (W.alloc (.cells #[.pointer (some ⟨B, 0, none⟩)] 115)).alloc (.cells #[.int .i64 t, .int .i64 k, .int .i64 i, .int .i64 j, .int .i64 m] 48) = V := ⟨_, rfl⟩
 have HM := hide (show MvW w B ⟨⟨some ⟨bz, oz, none⟩, cz, ad, cd, some ⟨bp, op, none⟩, cp, ak, ck, aq, cq⟩, some ⟨gz, 0, none⟩, zc, sh, hc, sq, qc⟩ p s W.heap.size #[.int .i64 t, .int .i64 k, .int .i64 i, .int .i64 j, .int .i64 m] [] [] V1 from by
  rw [← hV1]
  exact ⟨H.out.ext' (((Ext.refl _).alloc _).alloc _), H.out.ext.size, Boxed.ext (Boxed.new W 115 _) ((Ext.refl _).alloc _), by simpa only [World.size_alloc] using Blk.new (W.alloc (.cells #[.pointer (some ⟨B, 0, none⟩)] 115)) 48 #[.int .i64 t, .int .i64 k, .int .i64 i, .int .i64 j, .int .i64 m], fun D hD => absurd hD (by simp), fun q hq => absurd hq (by simp)⟩)
 rw [hV1]
 clear hV1 H
 have cc := Boxed.cell HM.out.pc
 have k8 := HM.out.sc.at.k8
 try dsimp only at k8
 have d2 := cell_heap HM.out.pa 2 _ rfl
 obtain ⟨g9, e9, _, c1, _⟩ := HM.out.sc.zlt (i := i) n1
 dsimp only at e9
 cases e9
 rw [HY.out] at c1
 apply wp_region_f [12, 13, 14, 15, 16, 17, 18, 19, 20, 4]
  [.is _, .is _, .is _, .is _, .is _, .is _, .is _, .is _, .is _, .is _]
  [(2, _), (3, _)]
 ·kernel_rfl
 ·decide
 ·rfl
 ·kernel_rfl
 ·decide +kernel
 iterate 4 (· kernel_rfl)
 ·rfl
 ·exact keepsIs _ rfl
 ·refine ⟨?_, ?_, trivial⟩ <;> (simp; rfl)
 ·repeat
   refine ⟨?_, ?_⟩
   ·intro F V2 hF hd hR
    simp [fixedAt] at hF
    obtain ⟨t2, t3⟩ := hF
    simp [Region.binds, Ent.holds] at hd
    refine ⟨fun _ K hK => ?_, by intro g b h hn; first | (cases h; done) | (cases h; exact absurd (by simp [hd]) hn)⟩
    simp only [Ent.holds, List.getD_cons_zero, List.getD_cons_succ] at hK
    have cc' := hR.cell cc
    have k8' := hR.cell k8
    have d2' := hR.cell d2
    have c1' := hR.cell c1
    go_simp
    first
     | exact hK _ _ rfl (Ext.refl _)
  exact trivial
 intro X V2 hx hR
 simp only [toldX] at hx
 simp only [fillX, List.setIfInBounds_toArray, List.set_cons_succ, List.set_cons_zero]
 replace HM := hide (HM.out.ext' hR)
 clear cc k8 d2 c1 hR
 go_wp2_with fail
 have HBY := hide (HST.out.z i n1)
 rw [HY.out] at HBY
 have HC1 := hide (fun V hV => show Calls Try.prog 113 #[.slice ad p.doors.length cd, .agg #[.int .i64 y, .int .i64 j]] V fun e w' => e = .returned (.bool (hasDoor p y (j : Int))) ∧ Ext V w' from contains_door ad p.doors.length cd p.doors y (j : Int) V hV)
 have HC2 := hide (fun V hV => show Calls Try.prog 113 #[.slice ad p.doors.length cd, .agg #[.int .i64 j, .int .i64 y]] V fun e w' => e = .returned (.bool (hasDoor p (j : Int) y)) ∧ Ext V w' from contains_door ad p.doors.length cd p.doors (j : Int) y V hV)
 cases h1 : hasDoor p y (j : Int) with
 | true =>
   rw [h1] at HC1
   have HDB := hide (show doorB p y (j : Int) = true by unfold doorB; rw [h1]; rfl)
   clear h1
   have cc := Boxed.cell HM.out.pc
   have k1 := HM.out.sc.at.k1
   try dsimp only at k1
   have d3 := cell_heap HM.out.pa 3 _ rfl
   apply wp_region_f (21 :: 22 :: 23 :: 24 :: 25 :: 26 :: 27 :: 28 :: 29 :: 30 :: 31 :: 32 :: 33 :: 34 :: 35 :: 36 :: 37 :: 38 :: 39 :: 40 :: 41 :: 42 :: 5 :: [])
    (.is _ :: .is _ :: .is _ :: .is _ :: .is _ :: .is _ :: .is _ :: .is _ :: .is _ :: .is _ :: .is _ :: .is _ :: .is _ :: .is _ :: .is _ :: .is _ :: .is _ :: .is _ :: .is _ :: .is _ :: .is _ :: .is _ :: .is _ :: [])
    [(2, _), (3, _), (4, _)]
   ·kernel_rfl
   ·decide
   ·rfl
   ·kernel_rfl
   ·decide +kernel
   iterate 4 (· kernel_rfl)
   ·rfl
   ·exact keepsIs _ rfl
   ·refine ⟨?_, ?_, ?_, trivial⟩ <;> (simp; rfl)
   ·repeat
     refine ⟨?_, ?_⟩
     ·intro F V3 hF hd hR
      simp [fixedAt] at hF
      obtain ⟨t2, t3, t4⟩ := hF
      simp [Region.binds, Ent.holds] at hd
      refine ⟨fun hgd K hK => ?_, by intro g b h hn; first | (cases h; done) | (cases h; refine absurd ?_ hn; simp [hd]; done) | (cases h; exact ⟨rfl, Ext.refl _⟩)⟩
      first
       | (refine absurd (hgd _ _ rfl) ?_; simp [hd]; done)
       | (refine absurd (hgd _ _ rfl) ?_; simp [hd]; simp [undef]; done)
       | (simp only [Ent.holds, List.getD_cons_zero, List.getD_cons_succ] at hK
          have cc' := hR.cell cc
          have k1' := hR.cell k1
          have d3' := hR.cell d3
          go_simp
          first
           | exact hK _ _ rfl (Ext.refl _)
           | (go_at_call 113
              with_reducible refine (HC1.out _ (HM.out.ext' hR).sc.at.pad.d).mono ?_
              rintro e w' ⟨rfl, hx⟩
              exact hK _ _ rfl hx)
           | (go_at_call 113
              with_reducible refine (HC2.out _ (HM.out.ext' hR).sc.at.pad.d).mono ?_
              rintro e w' ⟨rfl, hx⟩
              exact hK _ _ rfl hx))
    exact trivial
   intro X V3 hx hR
   simp only [toldX] at hx
   simp only [fillX, List.setIfInBounds_toArray, List.set_cons_succ, List.set_cons_zero]
   replace HM := hide (HM.out.ext' hR)
   clear cc k1 d3 hR HC1 HC2
   go_wp2_with fail
   obtain ⟨x2, hx2⟩ : ∃ v, s.zones.getD m 0 = v := ⟨_, rfl⟩
   have HX2 := hide hx2
   clear hx2
   by_cases s0 : x2 = y
   ·have hd : (x2 == y) = true := by simpa using s0
    have HGO := hide (show goB p s ⟨t, k, i, j, m⟩ = true by unfold goB; rw [show fromZ s ⟨t, k, i, j, m⟩ = y from HY.out]; dsimp only; rw [HDB.out, Int.toNat_natCast, HX2.out]; simp [s0])
    clear s0
    have cc := Boxed.cell HM.out.pc
    have k8 := HM.out.sc.at.k8
    try dsimp only at k8
    have d4 := cell_heap HM.out.pa 4 _ rfl
    obtain ⟨g9, e9, _, c2, _⟩ := HM.out.sc.zlt (i := m) n4
    dsimp only at e9
    cases e9
    rw [HX2.out] at c2
    apply wp_region_t 19 (43 :: 44 :: 45 :: 46 :: 47 :: 48 :: 49 :: 50 :: 51 :: 52 :: 53 :: 54 :: 55 :: 56 :: 57 :: 58 :: 59 :: 60 :: 61 :: [])
     (.is _ :: .is _ :: .is _ :: .is _ :: .is _ :: .is _ :: .is _ :: .is _ :: .is _ :: .is _ :: .is _ :: .is _ :: .is _ :: .is _ :: .is _ :: .is _ :: .is _ :: .is _ :: .is _ :: [])
     [(2, _), (3, _), (4, _), (5, _)]
    ·kernel_rfl
    ·decide
    ·decide
    ·rfl
    ·kernel_rfl
    ·decide +kernel
    iterate 6 (· kernel_rfl)
    ·rfl
    ·exact keepsIs _ rfl
    ·refine ⟨?_, ?_, ?_, ?_, trivial⟩ <;> (simp; rfl)
    ·repeat
      refine ⟨?_, ?_⟩
      ·intro F V4 hF hd hR
       simp [fixedAt] at hF
       obtain ⟨t2, t3, t4, t5⟩ := hF
       simp [Region.binds, Ent.holds] at hd
       refine ⟨fun hgd K hK => ?_, by intro g b h hn; first | (cases h; done) | (cases h; refine absurd ?_ hn; simp [hd]; done) | (cases h; exact ⟨rfl, Ext.refl _⟩)⟩
       first
        | (refine absurd (hgd _ _ rfl) ?_; simp [hd]; done)
        | (refine absurd (hgd _ _ rfl) ?_; simp [hd]; simp [undef]; done)
        | (simp only [Ent.holds, List.getD_cons_zero, List.getD_cons_succ] at hK
           have cc' := hR.cell cc
           have k8' := hR.cell k8
           have d4' := hR.cell d4
           have c2' := hR.cell c2
           go_simp
           first
            | exact hK _ _ rfl (Ext.refl _))
     exact trivial
    intro X V4 hx hR
    simp only [toldX] at hx
    simp only [fillX, List.setIfInBounds_toArray, List.set_cons_succ, List.set_cons_zero]
    replace HM := hide (HM.out.ext' hR)
    clear cc k8 d4 c2 hR
    clear hd
    have cc := Boxed.cell HM.out.pc
    have d2 := cell_heap HM.out.pa 2 _ rfl
    have d4 := cell_heap HM.out.pa 4 _ rfl
    have hpl := HM.out.pa.lt
    have hpl2 : W.heap.size + 1 < V4.heap.size + 1 := by omega
    have HPL := hide hpl
    obtain ⟨iI, hiI, hzI0, hzI1, hzI2⟩ := info_parts infoInt
    have hI := hide hiI
    have hI0 := hide hzI0
    have hI1 := hide hzI1
    have hI2 := hide hzI2
    clear hiI hzI0 hzI1 hzI2
    go_wp2_with (first
     | (go_at_call 88; refine (demand_ok _ _).mono ?_; rintro e w' ⟨rfl, rfl⟩)
     | ((at_builtin
         refine wpList_app rfl (.tmp 69) (.tmp 72) 36 rfl V4.heap.size 3 iI _ 1 8 Try.underlying36 hI.out hI0.out hI1.out hI2.out rfl _ 1 [.int .i64 i] rfl ((Own.lit V4 V4.heap.size 3 1 1 #[.int .i64 i] (Nat.le_refl _) rfl (by simp [maxLen])).alloc _) (some ⟨V4.heap.size + 1, 0, none⟩) 1 1 [.int .i64 m] rfl (by have := (Own.lit (V4.alloc (.cells #[.int .i64 i] 3)) 0 3 1 1 #[.int .i64 m] (Nat.zero_le _) rfl (by simp [maxLen])).src; rwa [World.size_alloc] at this) (by simp [Value.oneCell']) ?_ ?_ ?_ ?_
         ·simp only [maxLen]; omega
         ·omega
         ·simp; omega
         intro v7 w7 hown hbel
         obtain ⟨A7, c7, rfl, _, _, _⟩ := hown.form
         have HW7 := hide hown
         have HB7 := hide hbel
         clear hown hbel)))
    clear cc d2 d4 hpl hpl2 hI hI0 hI1 hI2
    have hx7 : Ext V4 w7 := Ext.step (((Ext.refl _).alloc _).alloc _) HB7.out (Nat.le_refl _)
    obtain ⟨gb, hgA, hgb, hgl⟩ := own_at HW7.out (show 0 < 2 by omega)
    subst hgA
    have HGC := hide (show V4.heap.size ≤ gb from hgb)
    have HMB := hide HM.out.pa.lt
    replace HM := hide (((HM.out.ext' hx7).grp ⟨gb, 1, none⟩ (.int .i64 m) (own_cell HW7.out rfl) (by have := HMB.out; have := HGC.out; dsimp only; omega)).grp ⟨gb, 0, none⟩ (.int .i64 i) (own_cell HW7.out rfl) (by have := HMB.out; have := HGC.out; dsimp only; omega))
    clear hx7 hgb hgl HGC HW7 HB7 HMB HPL
    refine wp_loop_rounds 3 ?_
    rw [rounds_succ]
    have cg := (HM.out.gs _ (List.mem_cons_self ..)).1
    try dsimp only at cg
    have cg2 := (HM.out.gs _ (List.mem_cons_of_mem _ (List.mem_cons_self ..))).1
    try dsimp only at cg2
    go_wp2_with fail
    clear cg cg2
    by_cases b0 : zg ≤ gi
    ·have hd : decide (zg ≤ gi) = true := decide_eq_true b0
     have HNB := hide (show ¬ (0 ≤ (j : Int) ∧ (personOf p (i : Nat)).grade < (zoneOf p (j : Int)).grade) by rw [Ggi.out, GZ.out]; dsimp only; omega)
     clear b0
     have cc := Boxed.cell HM.out.pc
     have k0 := HM.out.sc.at.k0
     have k2 := HM.out.sc.at.k2
     try dsimp only at k0 k2
     have d3 := cell_heap HM.out.pa 3 _ rfl
     have e1 := HM.out.sc.ext.cell HE1.out
     have e5 := HM.out.sc.ext.cell HE5.out
     apply wp_region_t 25 (80 :: 81 :: 82 :: 83 :: 84 :: 85 :: 86 :: 87 :: 88 :: 89 :: 90 :: 91 :: 92 :: 93 :: 94 :: 95 :: 96 :: 97 :: 98 :: 99 :: 100 :: 101 :: 102 :: 103 :: 104 :: [])
      (.is _ :: .is _ :: .is _ :: .is _ :: .is _ :: .is _ :: .is _ :: .is _ :: .is _ :: .is _ :: .is _ :: .is _ :: .is _ :: .is _ :: .is _ :: .is _ :: .is _ :: .is _ :: .is _ :: .is _ :: .is _ :: .is _ :: .is _ :: .is _ :: .is _ :: [])
      [(2, _), (3, _), (8, _)]
     ·kernel_rfl
     ·decide
     ·decide
     ·rfl
     ·kernel_rfl
     ·decide +kernel
     iterate 6 (· kernel_rfl)
     ·rfl
     ·exact keepsIs _ rfl
     ·refine ⟨?_, ?_, ?_, trivial⟩ <;> (simp; rfl)
     ·repeat
       refine ⟨?_, ?_⟩
       ·intro F V5 hF hd hR
        simp [fixedAt] at hF
        obtain ⟨t2, t3, t8⟩ := hF
        simp [Region.binds, Ent.holds] at hd
        refine ⟨fun hgd K hK => ?_, by intro g b h hn; first | (cases h; done) | (cases h; refine absurd ?_ hn; simp [hd]; done) | (cases h; exact ⟨rfl, Ext.refl _⟩)⟩
        first
         | (refine absurd (hgd _ _ rfl) ?_; simp [hd]; done)
         | (refine absurd (hgd _ _ rfl) ?_; simp [hd]; simp [undef]; done)
         | (simp only [Ent.holds, List.getD_cons_zero, List.getD_cons_succ] at hK
            have cc' := hR.cell cc
            have k0' := hR.cell k0
            have k2' := hR.cell k2
            have d3' := hR.cell d3
            have e1' := hR.cell e1
            have e5' := hR.cell e5
            go_simp
            first
             | exact hK _ _ rfl (Ext.refl _))
      exact trivial
     intro X V5 hx hR
     simp only [toldX] at hx
     simp only [fillX, List.setIfInBounds_toArray, List.set_cons_succ, List.set_cons_zero]
     replace HM := hide (HM.out.ext' hR)
     clear cc k0 k2 d3 e1 e5 hR
     clear hd
     go_wp2_with (go_at_call 88; refine (demand_ok _ _).mono ?_; rintro e w' ⟨rfl, rfl⟩)
     have cc := Boxed.cell HM.out.pc
     have k0 := HM.out.sc.at.k0
     have k1 := HM.out.sc.at.k1
     have k2 := HM.out.sc.at.k2
     have k3 := HM.out.sc.at.k3
     have k4 := HM.out.sc.at.k4
     have k5 := HM.out.sc.at.k5
     have k6 := HM.out.sc.at.k6
     try dsimp only at k0 k1 k2 k3 k4 k5 k6
     have d3 := cell_heap HM.out.pa 3 _ rfl
     apply wp_region_t 6 [106, 107, 108, 109, 110, 111]
      [.is _, .is _, .is _, .is _, .is _, .is _]
      [(2, _), (3, _)]
     ·kernel_rfl
     ·decide
     ·decide
     ·rfl
     ·kernel_rfl
     ·decide +kernel
     iterate 6 (· kernel_rfl)
     ·rfl
     ·exact keepsIs _ rfl
     ·refine ⟨?_, ?_, trivial⟩ <;> (simp; rfl)
     ·repeat
       refine ⟨?_, ?_⟩
       ·intro F V6 hF hd hR
        simp [fixedAt] at hF
        obtain ⟨t2, t3⟩ := hF
        simp [Region.binds, Ent.holds] at hd
        refine ⟨fun _ K hK => ?_, by intro g b h hn; first | (cases h; done) | (cases h; exact absurd (by simp [hd]) hn)⟩
        simp only [Ent.holds, List.getD_cons_zero, List.getD_cons_succ] at hK
        have cc' := hR.cell cc
        have k0' := hR.cell k0
        have k1' := hR.cell k1
        have k2' := hR.cell k2
        have k3' := hR.cell k3
        have k4' := hR.cell k4
        have k5' := hR.cell k5
        have k6' := hR.cell k6
        have d3' := hR.cell d3
        go_simp
        first
         | exact hK _ _ rfl (Ext.refl _)
      exact trivial
     intro X V6 hx hR
     simp only [toldX] at hx
     simp only [fillX, List.setIfInBounds_toArray, List.set_cons_succ, List.set_cons_zero]
     replace HM := hide (HM.out.ext' hR)
     clear cc k0 k1 k2 k3 k4 k5 k6 d3 hR
     go_wp2_with fail
     refine (near_any (some ⟨bz, oz, none⟩) ad (some ⟨bp, op, none⟩) ak aq p.zones.length p.doors.length p.people.length p.keys.length p.squibs.length cz cd cp ck cq p.panel p.wait (j : Int) V6).mono ?_
     rintro e w4 ⟨zb, pb, rfl, hx4, z1, z2, z3⟩
     replace HM := hide (HM.out.ext' hx4)
     have HPAD := hide HM.out.sc.at.pad
     have HSEQ := hide (near_seq p.zones p.squibs (j : Int) zb pb (.slice (some ⟨bz, oz, none⟩) p.zones.length cz) aq cq w4 (by omega) HOK.out.zin HOK.out.qin (fun q hq => by obtain ⟨A, c, h, _⟩ := HPAD.out.kv q hq; exact ⟨A, c, h⟩) z1 z2 z3 HPAD.out.z HPAD.out.q)
     have HRQ := hide (rows_lt HPAD.out.q)
     have HWS := hide HM.out.sc.ext.size
     have HDL := hide (fun D hD => (Array.getElem?_eq_some_iff.1 (HM.out.ds D hD).2).1)
     clear z1 z2 z3 hx4
     go_wp2_with fail
     refine range_okp (gf := 78) (encs := idxEnc) rfl (enters_of Try.func78 (by kernel_rfl) rfl) HSEQ.out
      (by intro k hk; rcases hk with ⟨h0, ho⟩ | h2
          ·have := HRQ.out k h0 ho; omega
          ·omega) (fun _ => rfl)
      (fun pre W' => (∀ q ∈ pre, stormy s q = false) ∧ MvW w B ⟨⟨some ⟨bz, oz, none⟩, cz, ad, cd, some ⟨bp, op, none⟩, cp, ak, ck, aq, cq⟩, some ⟨gz, 0, none⟩, zc, sh, hc, sq, qc⟩ p s W.heap.size #[.int .i64 t, .int .i64 k, .int .i64 i, .int .i64 j, .int .i64 m] [] [(⟨gb, 0, none⟩, .int .i64 i), (⟨gb, 1, none⟩, .int .i64 m)] W') (fun _ _ _ => False) (fun ch pre W' => ch = ErrP 173 ∧ (∃ q ∈ pre, stormy s q = true) ∧ MvW w B ⟨⟨some ⟨bz, oz, none⟩, cz, ad, cd, some ⟨bp, op, none⟩, cp, ak, ck, aq, cq⟩, some ⟨gz, 0, none⟩, zc, sh, hc, sq, qc⟩ p s W.heap.size #[.int .i64 t, .int .i64 k, .int .i64 i, .int .i64 j, .int .i64 m] [] [(⟨gb, 0, none⟩, .int .i64 i), (⟨gb, 1, none⟩, .int .i64 m)] W')
      (fun s A B h k => ⟨h.1, h.2.turn k HWS.out HDL.out⟩) (fun c s A B h k => h) ⟨(fun q hq => absurd hq (by simp)), HM.out⟩ ?_ ?_ ?_ ?_
     ·intro l0 pre x W0 Wr hszW hsp hI hx0 hokk
      have hxl : x < p.squibs.length := by
       obtain ⟨rest, hr⟩ := hsp
       refine nears_lt (zs := p.zones) (qs := p.squibs) (z := (j : Int)) ?_
       rw [← hr]; simp
      have hxs : x < s.squibs.length := by have := HST.out.lq; omega
      have HPRE := hide hI.1
      replace HM := hide (hI.2.ext' hx0)
      clear hI hx0 hokk hsp
      cases hst : stormy s x with
      | true =>
        have HXS := hide hst
        clear hst
        refine .inr ?_
        simp only [idxEnc]
        gi_wp2
        refine ⟨KeepsFrom.refl _ _, fun W2 hT => ?_⟩
        replace HM := hide (HM.out.turn hT HWS.out HDL.out)
        clear hT
        have cc := Boxed.cell HM.out.pc
        have k12 := HM.out.sc.at.k12
        have k10 := HM.out.sc.at.k10
        obtain ⟨_, _, _, hqrow⟩ := HM.out.sc.at.q.rows
        obtain ⟨b9, o9, u, hA, _, c0, HU⟩ := ints_at hqrow hxs
        try dsimp only at k10 k12 hA
        subst hA
        obtain ⟨stm, hstm⟩ : ∃ v, s.storm = v := ⟨_, rfl⟩
        have HSTM := hide hstm
        rw [hstm] at k12
        clear hstm hqrow
        cases stm with
        | false => exact absurd HXS.out (by unfold stormy; rw [HSTM.out]; simp)
        | true =>
          have hu : (u == 2) = false := by
           have := HXS.out
           unfold stormy at this
           rw [HSTM.out, HU.out] at this
           simpa using this
          refine wpP_block (wpP_region_lit ?_)
          gi_wp2
          refine ⟨trivial, rfl, (CallsIn.inRound l0 (callsIn_wide.2 (demand_no 173 W2))).mono ?_⟩
          rintro e w5 ⟨rfl, rfl⟩
          exact ⟨rfl, KeepsFrom.refl _ _, rfl, .inr HXS.out, HM.out⟩
      | false =>
        have HXS := hide hst
        clear hst
        refine .inl ?_
        simp only [idxEnc]
        gi_wp2
        refine ⟨KeepsFrom.refl _ _, fun k hk => rfl, fun W2 hT => ?_⟩
        replace HM := hide (HM.out.turn hT HWS.out HDL.out)
        have HALL := hide (show ∀ q ∈ pre ++ [x], stormy s q = false from fun q hq => by
         rcases List.mem_append.1 hq with hq | hq
         ·exact HPRE.out q hq
         ·rw [List.mem_singleton.1 hq]; exact HXS.out)
        clear hT
        have cc := Boxed.cell HM.out.pc
        have k12 := HM.out.sc.at.k12
        have k10 := HM.out.sc.at.k10
        obtain ⟨_, _, _, hqrow⟩ := HM.out.sc.at.q.rows
        obtain ⟨b9, o9, u, hA, _, c0, HU⟩ := ints_at hqrow hxs
        try dsimp only at k10 k12 hA
        subst hA
        obtain ⟨stm, hstm⟩ : ∃ v, s.storm = v := ⟨_, rfl⟩
        have HSTM := hide hstm
        rw [hstm] at k12
        clear hstm hqrow
        cases stm with
        | false =>
          gi_wp2
          refine ⟨trivial, rfl, (CallsIn.inRound l0 (callsIn_wide.2 (demand_ok 173 W2))).mono ?_⟩
          rintro e w5 ⟨rfl, rfl⟩
          gi_wp2
          exact ⟨KeepsFrom.refl _ _, fun k hk => rfl, HALL.out, HM.out⟩
        | true =>
          have hu : (u == 2) = true := by
           have := HXS.out
           unfold stormy at this
           rw [HSTM.out, HU.out] at this
           simpa using this
          gi_wp2
          refine ⟨trivial, rfl, (CallsIn.inRound l0 (callsIn_wide.2 (demand_ok 173 W2))).mono ?_⟩
          rintro e w5 ⟨rfl, rfl⟩
          gi_wp2
          exact ⟨KeepsFrom.refl _ _, fun k hk => rfl, HALL.out, HM.out⟩
     ·intro D0 xs Wd hD hS hI hK
      have HANY := hide (show (nears p.zones p.squibs (j : Int)).any (stormy s) = false by rw [← hS, List.any_eq_false]; intro q hq; rw [hI.1 q hq]; decide)
      replace HM := hide (show MvW w B ⟨⟨some ⟨bz, oz, none⟩, cz, ad, cd, some ⟨bp, op, none⟩, cp, ak, ck, aq, cq⟩, some ⟨gz, 0, none⟩, zc, sh, hc, sq, qc⟩ p s W.heap.size #[.int .i64 t, .int .i64 k, .int .i64 i, .int .i64 j, .int .i64 m] [D0] [(⟨gb, 0, none⟩, .int .i64 i), (⟨gb, 1, none⟩, .int .i64 m)] Wd from ⟨hI.2.sc, hI.2.hb, hI.2.pc, hI.2.pa, fun D' hD' => by
       rcases List.mem_cons.1 hD' with h | h
       ·rw [h]; exact ⟨Nat.le_trans HWS.out hD, hK⟩
       ·exact hI.2.ds D' h, hI.2.gs⟩)
      clear hD hS hI hK HSEQ HRQ HDL HWS HPAD
      have HKE := hide (fun V hV => keyed_any B ⟨⟨some ⟨bz, oz, none⟩, cz, ad, cd, some ⟨bp, op, none⟩, cp, ak, ck, aq, cq⟩, some ⟨gz, 0, none⟩, zc, sh, hc, sq, qc⟩ p s (i : Nat) (j : Int) V hV HOK.out HST.out.lh HST.out.lq (by omega))
      have cc := Boxed.cell HM.out.pc
      have d3 := cell_heap HM.out.pa 3 _ rfl
      cases hk : keyedB p s (i : Nat) (j : Int) with
      | false =>
        rw [hk] at HKE
        have HE := hide (show moveE p s ⟨t, k, i, j, m⟩ = 174 from moveE_1 HGO.out (show comesE p s (i : Int) (j : Int) = _ from comesE_key HNB.out HANY.out hk) (by decide))
        clear hk
        go_wp2_with fail
        refine (HKE.out _ HM.out.sc.at).mono ?_
        rintro e w7 ⟨rfl, hx⟩
        replace HM := hide (HM.out.ext' hx)
        go_wp2_with (go_at_call 88; refine (demand_no _ _).mono ?_; rintro e w' ⟨rfl, rfl⟩)
        refine leaves_marks (N := w.heap.size) (by simp) [D0] _ (by simp) (fun D hD => HM.out.ds D hD) fun W' hT => ?_
        exact methNo HE.out (by decide) (hT.below HM.out.sc.ext (Nat.le_refl _) HM.out.sc.ext.size)
      | true =>
        rw [hk] at HKE
        have HC1 := hide (comesE_zero (p := p) (s := s) (i := (i : Nat)) HNB.out HANY.out hk)
        clear hk
        go_wp2_with fail
        refine (HKE.out _ HM.out.sc.at).mono ?_
        rintro e w7 ⟨rfl, hx⟩
        replace HM := hide (HM.out.ext' hx)
        clear HKE hx HNB HANY cc d3
        go_wp2_with (go_at_call 88; refine (demand_ok _ _).mono ?_; rintro e w' ⟨rfl, rfl⟩)
        rw [rounds_succ]
        have cg := (HM.out.gs _ (List.mem_cons_self ..)).1
        try dsimp only at cg
        have cg2 := (HM.out.gs _ (List.mem_cons_of_mem _ (List.mem_cons_self ..))).1
        try dsimp only at cg2
        go_wp2_with fail
        clear cg cg2
        by_cases b0 : zg ≤ gm
        ·have hd : decide (zg ≤ gm) = true := decide_eq_true b0
         have HNB := hide (show ¬ (0 ≤ (j : Int) ∧ (personOf p (m : Nat)).grade < (zoneOf p (j : Int)).grade) by rw [Ggm.out, GZ.out]; dsimp only; omega)
         clear b0
         have cc := Boxed.cell HM.out.pc
         have k0 := HM.out.sc.at.k0
         have k2 := HM.out.sc.at.k2
         try dsimp only at k0 k2
         have d3 := cell_heap HM.out.pa 3 _ rfl
         have e2 := HM.out.sc.ext.cell HE2.out
         have e5 := HM.out.sc.ext.cell HE5.out
         apply wp_region_t 25 (80 :: 81 :: 82 :: 83 :: 84 :: 85 :: 86 :: 87 :: 88 :: 89 :: 90 :: 91 :: 92 :: 93 :: 94 :: 95 :: 96 :: 97 :: 98 :: 99 :: 100 :: 101 :: 102 :: 103 :: 104 :: [])
          (.is _ :: .is _ :: .is _ :: .is _ :: .is _ :: .is _ :: .is _ :: .is _ :: .is _ :: .is _ :: .is _ :: .is _ :: .is _ :: .is _ :: .is _ :: .is _ :: .is _ :: .is _ :: .is _ :: .is _ :: .is _ :: .is _ :: .is _ :: .is _ :: .is _ :: [])
          [(2, _), (3, _), (8, _)]
         ·kernel_rfl
         ·decide
         ·decide
         ·rfl
         ·kernel_rfl
         ·decide +kernel
         iterate 6 (· kernel_rfl)
         ·rfl
         ·exact keepsIs _ rfl
         ·refine ⟨?_, ?_, ?_, trivial⟩ <;> (simp; rfl)
         ·repeat
           refine ⟨?_, ?_⟩
           ·intro F V7 hF hd hR
            simp [fixedAt] at hF
            obtain ⟨t2, t3, t8⟩ := hF
            simp [Region.binds, Ent.holds] at hd
            refine ⟨fun hgd K hK => ?_, by intro g b h hn; first | (cases h; done) | (cases h; refine absurd ?_ hn; simp [hd]; done) | (cases h; exact ⟨rfl, Ext.refl _⟩)⟩
            first
             | (refine absurd (hgd _ _ rfl) ?_; simp [hd]; done)
             | (refine absurd (hgd _ _ rfl) ?_; simp [hd]; simp [undef]; done)
             | (simp only [Ent.holds, List.getD_cons_zero, List.getD_cons_succ] at hK
                have cc' := hR.cell cc
                have k0' := hR.cell k0
                have k2' := hR.cell k2
                have d3' := hR.cell d3
                have e2' := hR.cell e2
                have e5' := hR.cell e5
                go_simp
                first
                 | exact hK _ _ rfl (Ext.refl _))
          exact trivial
         intro X V7 hx hR
         simp only [toldX] at hx
         simp only [fillX, List.setIfInBounds_toArray, List.set_cons_succ, List.set_cons_zero]
         replace HM := hide (HM.out.ext' hR)
         clear cc k0 k2 d3 e2 e5 hR
         clear hd
         go_wp2_with (go_at_call 88; refine (demand_ok _ _).mono ?_; rintro e w' ⟨rfl, rfl⟩)
         have cc := Boxed.cell HM.out.pc
         have k0 := HM.out.sc.at.k0
         have k1 := HM.out.sc.at.k1
         have k2 := HM.out.sc.at.k2
         have k3 := HM.out.sc.at.k3
         have k4 := HM.out.sc.at.k4
         have k5 := HM.out.sc.at.k5
         have k6 := HM.out.sc.at.k6
         try dsimp only at k0 k1 k2 k3 k4 k5 k6
         have d3 := cell_heap HM.out.pa 3 _ rfl
         apply wp_region_t 6 [106, 107, 108, 109, 110, 111]
          [.is _, .is _, .is _, .is _, .is _, .is _]
          [(2, _), (3, _)]
         ·kernel_rfl
         ·decide
         ·decide
         ·rfl
         ·kernel_rfl
         ·decide +kernel
         iterate 6 (· kernel_rfl)
         ·rfl
         ·exact keepsIs _ rfl
         ·refine ⟨?_, ?_, trivial⟩ <;> (simp; rfl)
         ·repeat
           refine ⟨?_, ?_⟩
           ·intro F V8 hF hd hR
            simp [fixedAt] at hF
            obtain ⟨t2, t3⟩ := hF
            simp [Region.binds, Ent.holds] at hd
            refine ⟨fun _ K hK => ?_, by intro g b h hn; first | (cases h; done) | (cases h; exact absurd (by simp [hd]) hn)⟩
            simp only [Ent.holds, List.getD_cons_zero, List.getD_cons_succ] at hK
            have cc' := hR.cell cc
            have k0' := hR.cell k0
            have k1' := hR.cell k1
            have k2' := hR.cell k2
            have k3' := hR.cell k3
            have k4' := hR.cell k4
            have k5' := hR.cell k5
            have k6' := hR.cell k6
            have d3' := hR.cell d3
            go_simp
            first
             | exact hK _ _ rfl (Ext.refl _)
          exact trivial
         intro X V8 hx hR
         simp only [toldX] at hx
         simp only [fillX, List.setIfInBounds_toArray, List.set_cons_succ, List.set_cons_zero]
         replace HM := hide (HM.out.ext' hR)
         clear cc k0 k1 k2 k3 k4 k5 k6 d3 hR
         go_wp2_with fail
         refine (near_any (some ⟨bz, oz, none⟩) ad (some ⟨bp, op, none⟩) ak aq p.zones.length p.doors.length p.people.length p.keys.length p.squibs.length cz cd cp ck cq p.panel p.wait (j : Int) V8).mono ?_
         rintro e w4 ⟨zb, pb, rfl, hx4, z1, z2, z3⟩
         replace HM := hide (HM.out.ext' hx4)
         have HPAD := hide HM.out.sc.at.pad
         have HSEQ := hide (near_seq p.zones p.squibs (j : Int) zb pb (.slice (some ⟨bz, oz, none⟩) p.zones.length cz) aq cq w4 (by omega) HOK.out.zin HOK.out.qin (fun q hq => by obtain ⟨A, c, h, _⟩ := HPAD.out.kv q hq; exact ⟨A, c, h⟩) z1 z2 z3 HPAD.out.z HPAD.out.q)
         have HRQ := hide (rows_lt HPAD.out.q)
         have HWS := hide HM.out.sc.ext.size
         have HDL := hide (fun D hD => (Array.getElem?_eq_some_iff.1 (HM.out.ds D hD).2).1)
         clear z1 z2 z3 hx4
         go_wp2_with fail
         refine range_okp (gf := 78) (encs := idxEnc) rfl (enters_of Try.func78 (by kernel_rfl) rfl) HSEQ.out
          (by intro k hk; rcases hk with ⟨h0, ho⟩ | h2
              ·have := HRQ.out k h0 ho; omega
              ·omega) (fun _ => rfl)
          (fun pre W' => (∀ q ∈ pre, stormy s q = false) ∧ MvW w B ⟨⟨some ⟨bz, oz, none⟩, cz, ad, cd, some ⟨bp, op, none⟩, cp, ak, ck, aq, cq⟩, some ⟨gz, 0, none⟩, zc, sh, hc, sq, qc⟩ p s W.heap.size #[.int .i64 t, .int .i64 k, .int .i64 i, .int .i64 j, .int .i64 m] [D0] [(⟨gb, 0, none⟩, .int .i64 i), (⟨gb, 1, none⟩, .int .i64 m)] W') (fun _ _ _ => False) (fun ch pre W' => ch = ErrP 173 ∧ (∃ q ∈ pre, stormy s q = true) ∧ MvW w B ⟨⟨some ⟨bz, oz, none⟩, cz, ad, cd, some ⟨bp, op, none⟩, cp, ak, ck, aq, cq⟩, some ⟨gz, 0, none⟩, zc, sh, hc, sq, qc⟩ p s W.heap.size #[.int .i64 t, .int .i64 k, .int .i64 i, .int .i64 j, .int .i64 m] [D0] [(⟨gb, 0, none⟩, .int .i64 i), (⟨gb, 1, none⟩, .int .i64 m)] W')
          (fun s A B h k => ⟨h.1, h.2.turn k HWS.out HDL.out⟩) (fun c s A B h k => h) ⟨(fun q hq => absurd hq (by simp)), HM.out⟩ ?_ ?_ ?_ ?_
         ·intro l0 pre x W0 Wr hszW hsp hI hx0 hokk
          have hxl : x < p.squibs.length := by
           obtain ⟨rest, hr⟩ := hsp
           refine nears_lt (zs := p.zones) (qs := p.squibs) (z := (j : Int)) ?_
           rw [← hr]; simp
          have hxs : x < s.squibs.length := by have := HST.out.lq; omega
          have HPRE := hide hI.1
          replace HM := hide (hI.2.ext' hx0)
          clear hI hx0 hokk hsp
          cases hst : stormy s x with
          | true =>
            have HXS := hide hst
            clear hst
            refine .inr ?_
            simp only [idxEnc]
            gi_wp2
            refine ⟨KeepsFrom.refl _ _, fun W2 hT => ?_⟩
            replace HM := hide (HM.out.turn hT HWS.out HDL.out)
            clear hT
            have cc := Boxed.cell HM.out.pc
            have k12 := HM.out.sc.at.k12
            have k10 := HM.out.sc.at.k10
            obtain ⟨_, _, _, hqrow⟩ := HM.out.sc.at.q.rows
            obtain ⟨b9, o9, u, hA, _, c0, HU⟩ := ints_at hqrow hxs
            try dsimp only at k10 k12 hA
            subst hA
            obtain ⟨stm, hstm⟩ : ∃ v, s.storm = v := ⟨_, rfl⟩
            have HSTM := hide hstm
            rw [hstm] at k12
            clear hstm hqrow
            cases stm with
            | false => exact absurd HXS.out (by unfold stormy; rw [HSTM.out]; simp)
            | true =>
              have hu : (u == 2) = false := by
               have := HXS.out
               unfold stormy at this
               rw [HSTM.out, HU.out] at this
               simpa using this
              refine wpP_block (wpP_region_lit ?_)
              gi_wp2
              refine ⟨trivial, rfl, (CallsIn.inRound l0 (callsIn_wide.2 (demand_no 173 W2))).mono ?_⟩
              rintro e w5 ⟨rfl, rfl⟩
              exact ⟨rfl, KeepsFrom.refl _ _, rfl, .inr HXS.out, HM.out⟩
          | false =>
            have HXS := hide hst
            clear hst
            refine .inl ?_
            simp only [idxEnc]
            gi_wp2
            refine ⟨KeepsFrom.refl _ _, fun k hk => rfl, fun W2 hT => ?_⟩
            replace HM := hide (HM.out.turn hT HWS.out HDL.out)
            have HALL := hide (show ∀ q ∈ pre ++ [x], stormy s q = false from fun q hq => by
             rcases List.mem_append.1 hq with hq | hq
             ·exact HPRE.out q hq
             ·rw [List.mem_singleton.1 hq]; exact HXS.out)
            clear hT
            have cc := Boxed.cell HM.out.pc
            have k12 := HM.out.sc.at.k12
            have k10 := HM.out.sc.at.k10
            obtain ⟨_, _, _, hqrow⟩ := HM.out.sc.at.q.rows
            obtain ⟨b9, o9, u, hA, _, c0, HU⟩ := ints_at hqrow hxs
            try dsimp only at k10 k12 hA
            subst hA
            obtain ⟨stm, hstm⟩ : ∃ v, s.storm = v := ⟨_, rfl⟩
            have HSTM := hide hstm
            rw [hstm] at k12
            clear hstm hqrow
            cases stm with
            | false =>
              gi_wp2
              refine ⟨trivial, rfl, (CallsIn.inRound l0 (callsIn_wide.2 (demand_ok 173 W2))).mono ?_⟩
              rintro e w5 ⟨rfl, rfl⟩
              gi_wp2
              exact ⟨KeepsFrom.refl _ _, fun k hk => rfl, HALL.out, HM.out⟩
            | true =>
              have hu : (u == 2) = true := by
               have := HXS.out
               unfold stormy at this
               rw [HSTM.out, HU.out] at this
               simpa using this
              gi_wp2
              refine ⟨trivial, rfl, (CallsIn.inRound l0 (callsIn_wide.2 (demand_ok 173 W2))).mono ?_⟩
              rintro e w5 ⟨rfl, rfl⟩
              gi_wp2
              exact ⟨KeepsFrom.refl _ _, fun k hk => rfl, HALL.out, HM.out⟩
         ·intro D1 xs Wd hD hS hI hK
          have HND := hide (show D0 ≠ D1 from fun e => by have := HDL.out D0 (by simp); omega)
          have HANY := hide (show (nears p.zones p.squibs (j : Int)).any (stormy s) = false by rw [← hS, List.any_eq_false]; intro q hq; rw [hI.1 q hq]; decide)
          replace HM := hide (show MvW w B ⟨⟨some ⟨bz, oz, none⟩, cz, ad, cd, some ⟨bp, op, none⟩, cp, ak, ck, aq, cq⟩, some ⟨gz, 0, none⟩, zc, sh, hc, sq, qc⟩ p s W.heap.size #[.int .i64 t, .int .i64 k, .int .i64 i, .int .i64 j, .int .i64 m] [D1, D0] [(⟨gb, 0, none⟩, .int .i64 i), (⟨gb, 1, none⟩, .int .i64 m)] Wd from ⟨hI.2.sc, hI.2.hb, hI.2.pc, hI.2.pa, fun D' hD' => by
           rcases List.mem_cons.1 hD' with h | h
           ·rw [h]; exact ⟨Nat.le_trans HWS.out hD, hK⟩
           ·exact hI.2.ds D' h, hI.2.gs⟩)
          clear hD hS hI hK HSEQ HRQ HDL HWS HPAD
          have HKE := hide (fun V hV => keyed_any B ⟨⟨some ⟨bz, oz, none⟩, cz, ad, cd, some ⟨bp, op, none⟩, cp, ak, ck, aq, cq⟩, some ⟨gz, 0, none⟩, zc, sh, hc, sq, qc⟩ p s (m : Nat) (j : Int) V hV HOK.out HST.out.lh HST.out.lq (by omega))
          have cc := Boxed.cell HM.out.pc
          have d3 := cell_heap HM.out.pa 3 _ rfl
          cases hk : keyedB p s (m : Nat) (j : Int) with
          | false =>
            rw [hk] at HKE
            have HE := hide (show moveE p s ⟨t, k, i, j, m⟩ = 174 from moveE_2 HGO.out HC1.out (show (0 : Int) ≤ (m : Int) by omega) (show comesE p s (m : Int) (j : Int) = _ from comesE_key HNB.out HANY.out hk) (by decide))
            clear hk
            go_wp2_with fail
            refine (HKE.out _ HM.out.sc.at).mono ?_
            rintro e w7 ⟨rfl, hx⟩
            replace HM := hide (HM.out.ext' hx)
            go_wp2_with (go_at_call 88; refine (demand_no _ _).mono ?_; rintro e w' ⟨rfl, rfl⟩)
            refine leaves_marks (N := w.heap.size) (by simp) [D1, D0] _ (by simp [Ne.symm HND.out]) (fun D hD => HM.out.ds D hD) fun W' hT => ?_
            exact methNo HE.out (by decide) (hT.below HM.out.sc.ext (Nat.le_refl _) HM.out.sc.ext.size)
          | true =>
            rw [hk] at HKE
            have HC2 := hide (comesE_zero (p := p) (s := s) (i := (m : Nat)) HNB.out HANY.out hk)
            clear hk
            go_wp2_with fail
            refine (HKE.out _ HM.out.sc.at).mono ?_
            rintro e w7 ⟨rfl, hx⟩
            replace HM := hide (HM.out.ext' hx)
            clear HKE hx HNB HANY cc d3
            go_wp2_with (go_at_call 88; refine (demand_ok _ _).mono ?_; rintro e w' ⟨rfl, rfl⟩)
            rw [rounds_succ]
            go_wp2_with fail
            refine wp_loop_rounds 3 ?_
            rw [rounds_succ]
            have cg := (HM.out.gs _ (List.mem_cons_self ..)).1
            try dsimp only at cg
            have cg2 := (HM.out.gs _ (List.mem_cons_of_mem _ (List.mem_cons_self ..))).1
            try dsimp only at cg2
            go_wp2_with fail
            clear cg cg2
            have cc := Boxed.cell HM.out.pc
            have k8 := HM.out.sc.at.k8
            try dsimp only at k8
            have d3 := cell_heap HM.out.pa 3 _ rfl
            apply wp_region_t 8 [145, 146, 147, 148, 149, 150, 151, 152]
             [.is _, .is _, .is _, .is _, .is _, .is _, .is _, .is _]
             [(2, _), (3, _), (11, _)]
            ·kernel_rfl
            ·decide
            ·decide
            ·rfl
            ·kernel_rfl
            ·decide +kernel
            iterate 6 (· kernel_rfl)
            ·rfl
            ·exact keepsIs _ rfl
            ·refine ⟨?_, ?_, ?_, trivial⟩ <;> (simp; rfl)
            ·repeat
              refine ⟨?_, ?_⟩
              ·intro F V9 hF hd hR
               simp [fixedAt] at hF
               obtain ⟨t2, t3, t11⟩ := hF
               simp [Region.binds, Ent.holds] at hd
               refine ⟨fun _ K hK => ?_, by intro g b h hn; first | (cases h; done) | (cases h; exact absurd (by simp [hd]) hn)⟩
               simp only [Ent.holds, List.getD_cons_zero, List.getD_cons_succ] at hK
               have cc' := hR.cell cc
               have k8' := hR.cell k8
               have d3' := hR.cell d3
               go_simp
               first
                | exact hK _ _ rfl (Ext.refl _)
             exact trivial
            intro X V9 hx hR
            simp only [toldX] at hx
            simp only [fillX, List.setIfInBounds_toArray, List.set_cons_succ, List.set_cons_zero]
            replace HM := hide (HM.out.ext' hR)
            clear cc k8 d3 hR
            have cc := Boxed.cell HM.out.pc
            have k8 := HM.out.sc.at.k8
            try dsimp only at k8
            have d3 := cell_heap HM.out.pa 3 _ rfl
            obtain ⟨g9, e9, _, c9, f9⟩ := HM.out.sc.zlt (i := i) n1
            dsimp only at e9
            cases e9
            go_wp2_with fail
            obtain ⟨VS, hVS⟩ : ∃ V, V9.setCell ⟨gz, i, none⟩ (.int .i64 j) = V := ⟨_, rfl⟩
            rw [hVS]
            replace HM := hide (show MvW w B ⟨⟨some ⟨bz, oz, none⟩, cz, ad, cd, some ⟨bp, op, none⟩, cp, ak, ck, aq, cq⟩, some ⟨gz, 0, none⟩, zc, sh, hc, sq, qc⟩ p _ W.heap.size #[.int .i64 t, .int .i64 k, .int .i64 i, .int .i64 j, .int .i64 m] [D1, D0] [(⟨gb, 0, none⟩, .int .i64 i), (⟨gb, 1, none⟩, .int .i64 m)] VS from hVS ▸ HM.out.setZ rfl HGW.out HGB.out i (j : Int))
            clear hVS c9 f9
            clear cc k8 d3
            rw [rounds_succ]
            have cg := (HM.out.gs _ (List.mem_cons_self ..)).1
            try dsimp only at cg
            have cg2 := (HM.out.gs _ (List.mem_cons_of_mem _ (List.mem_cons_self ..))).1
            try dsimp only at cg2
            go_wp2_with fail
            clear cg cg2
            have cc := Boxed.cell HM.out.pc
            have k8 := HM.out.sc.at.k8
            try dsimp only at k8
            have d3 := cell_heap HM.out.pa 3 _ rfl
            simp only [List.length_set] at k8
            apply wp_region_t 8 [145, 146, 147, 148, 149, 150, 151, 152]
             [.is _, .is _, .is _, .is _, .is _, .is _, .is _, .is _]
             [(2, _), (3, _), (11, _)]
            ·kernel_rfl
            ·decide
            ·decide
            ·rfl
            ·kernel_rfl
            ·decide +kernel
            iterate 6 (· kernel_rfl)
            ·rfl
            ·exact keepsIs _ rfl
            ·refine ⟨?_, ?_, ?_, trivial⟩ <;> (simp; rfl)
            ·repeat
              refine ⟨?_, ?_⟩
              ·intro F V10 hF hd hR
               simp [fixedAt] at hF
               obtain ⟨t2, t3, t11⟩ := hF
               simp [Region.binds, Ent.holds] at hd
               refine ⟨fun _ K hK => ?_, by intro g b h hn; first | (cases h; done) | (cases h; exact absurd (by simp [hd]) hn)⟩
               simp only [Ent.holds, List.getD_cons_zero, List.getD_cons_succ] at hK
               have cc' := hR.cell cc
               have k8' := hR.cell k8
               have d3' := hR.cell d3
               go_simp
               first
                | exact hK _ _ rfl (Ext.refl _)
             exact trivial
            intro X V10 hx hR
            simp only [toldX] at hx
            simp only [fillX, List.setIfInBounds_toArray, List.set_cons_succ, List.set_cons_zero]
            replace HM := hide (HM.out.ext' hR)
            clear cc k8 d3 hR
            have cc := Boxed.cell HM.out.pc
            have k8 := HM.out.sc.at.k8
            try dsimp only at k8
            have d3 := cell_heap HM.out.pa 3 _ rfl
            simp only [List.length_set] at k8
            obtain ⟨g9, e9, _, c9, f9⟩ := HM.out.sc.zlt (i := m) (show m < (s.zones.set i (j : Int)).length by rw [List.length_set]; exact n4)
            dsimp only at e9
            cases e9
            go_wp2_with fail
            obtain ⟨VS, hVS⟩ : ∃ V, V10.setCell ⟨gz, m, none⟩ (.int .i64 j) = V := ⟨_, rfl⟩
            rw [hVS]
            replace HM := hide (show MvW w B ⟨⟨some ⟨bz, oz, none⟩, cz, ad, cd, some ⟨bp, op, none⟩, cp, ak, ck, aq, cq⟩, some ⟨gz, 0, none⟩, zc, sh, hc, sq, qc⟩ p _ W.heap.size #[.int .i64 t, .int .i64 k, .int .i64 i, .int .i64 j, .int .i64 m] [D1, D0] [(⟨gb, 0, none⟩, .int .i64 i), (⟨gb, 1, none⟩, .int .i64 m)] VS from hVS ▸ HM.out.setZ rfl HGW.out HGB.out m (j : Int))
            clear hVS c9 f9
            clear cc k8 d3
            obtain ⟨s1, hs1⟩ : ∃ x, movedS s ⟨t, k, i, j, m⟩ = x := ⟨_, rfl⟩
            have HMS := hide hs1
            have hsF : ({ s with zones := (s.zones.set i (j : Int)).set m (j : Int) } : State) = s1 := by rw [← hs1]; unfold movedS; dsimp only; rw [if_neg (by omega)]; rfl
            rw [hsF] at HM
            clear hs1 hsF
            rw [rounds_succ]
            go_wp2_with fail
            have HCR := hide (fun V hV => crowd_any B ⟨⟨some ⟨bz, oz, none⟩, cz, ad, cd, some ⟨bp, op, none⟩, cp, ak, ck, aq, cq⟩, some ⟨gz, 0, none⟩, zc, sh, hc, sq, qc⟩ p s1 (j : Nat) V hV)
            obtain ⟨mc, hmc⟩ : ∃ c, manyN s1.zones (j : Nat) = c := ⟨_, rfl⟩
            rw [hmc] at HCR
            have HMC := hide hmc
            clear hmc
            by_cases q0 : (mc : Int) ≤ zr
            ·have hd : decide ((mc : Int) ≤ zr) = true := decide_eq_true q0
             have HNF := hide (show ¬ (0 ≤ (j : Int) ∧ (zoneOf p (j : Int)).room < manyN (movedS s ⟨t, k, i, j, m⟩).zones (j : Int)) by rw [GZ.out, HMS.out, HMC.out]; dsimp only; omega)
             clear q0
             have cc := Boxed.cell HM.out.pc
             have k0 := HM.out.sc.at.k0
             try dsimp only at k0
             have d3 := cell_heap HM.out.pa 3 _ rfl
             have e6 := HM.out.sc.ext.cell HE6.out
             apply wp_region_t 20 (155 :: 156 :: 157 :: 158 :: 159 :: 160 :: 161 :: 162 :: 163 :: 164 :: 165 :: 166 :: 167 :: 168 :: 169 :: 170 :: 171 :: 172 :: 173 :: 174 :: [])
              (.is _ :: .is _ :: .is _ :: .is _ :: .is _ :: .is _ :: .is _ :: .is _ :: .is _ :: .is _ :: .is _ :: .is _ :: .is _ :: .is _ :: .is _ :: .is _ :: .is _ :: .is _ :: .is _ :: .is _ :: [])
              [(2, _), (3, _)]
             ·kernel_rfl
             ·decide
             ·decide
             ·rfl
             ·kernel_rfl
             ·decide +kernel
             iterate 6 (· kernel_rfl)
             ·rfl
             ·exact keepsIs _ rfl
             ·refine ⟨?_, ?_, trivial⟩ <;> (simp; rfl)
             ·repeat
               refine ⟨?_, ?_⟩
               ·intro F V11 hF hd hR
                simp [fixedAt] at hF
                obtain ⟨t2, t3⟩ := hF
                simp [Region.binds, Ent.holds] at hd
                refine ⟨fun hgd K hK => ?_, by intro g b h hn; first | (cases h; done) | (cases h; refine absurd ?_ hn; simp [hd]; done) | (cases h; exact ⟨rfl, Ext.refl _⟩)⟩
                first
                 | (refine absurd (hgd _ _ rfl) ?_; simp [hd]; done)
                 | (refine absurd (hgd _ _ rfl) ?_; simp [hd]; simp [undef]; done)
                 | (simp only [Ent.holds, List.getD_cons_zero, List.getD_cons_succ] at hK
                    have cc' := hR.cell cc
                    have k0' := hR.cell k0
                    have d3' := hR.cell d3
                    have e6' := hR.cell e6
                    go_simp
                    first
                     | exact hK _ _ rfl (Ext.refl _)
                     | (go_at_call 92
                        with_reducible refine (HCR.out _ (HM.out.ext' hR).sc.at).mono ?_
                        rintro e w' ⟨rfl, rfl⟩
                        exact hK _ _ rfl (Ext.refl _)))
              exact trivial
             intro X V11 hx hR
             simp only [toldX] at hx
             simp only [fillX, List.setIfInBounds_toArray, List.set_cons_succ, List.set_cons_zero]
             replace HM := hide (HM.out.ext' hR)
             clear cc k0 d3 e6 hR
             clear hd
             have cc := Boxed.cell HM.out.pc
             have d3 := cell_heap HM.out.pa 3 _ rfl
             have HA1 := hide (fun V hV => alone_any B ⟨⟨some ⟨bz, oz, none⟩, cz, ad, cd, some ⟨bp, op, none⟩, cp, ak, ck, aq, cq⟩, some ⟨gz, 0, none⟩, zc, sh, hc, sq, qc⟩ p s1 (j : Int) V hV (by omega))
             have HA2 := hide (fun V hV => alone_any B ⟨⟨some ⟨bz, oz, none⟩, cz, ad, cd, some ⟨bp, op, none⟩, cp, ak, ck, aq, cq⟩, some ⟨gz, 0, none⟩, zc, sh, hc, sq, qc⟩ p s1 y V hV HBY.out.2)
             cases ha1 : aloneB p s1 (j : Int) with
             | true =>
               have HE := hide (show moveE p s ⟨t, k, i, j, m⟩ = 176 from moveE_pair HGO.out HC1.out (fun _ => HC2.out) HNF.out (by show (aloneB p (movedS s ⟨t, k, i, j, m⟩) (j : Int) || aloneB p (movedS s ⟨t, k, i, j, m⟩) (fromZ s ⟨t, k, i, j, m⟩)) = _; rw [HMS.out, show fromZ s ⟨t, k, i, j, m⟩ = y from HY.out]; rw [ha1]; rfl))
               rw [ha1] at HA1
               clear ha1
               go_wp2_with (first
                | (go_at_call 88; (with_reducible refine (demand_ok 175 _).mono ?_); rintro e w' ⟨rfl, rfl⟩)
                | (go_at_call 88; (with_reducible refine (demand_no 176 _).mono ?_); rintro e w' ⟨rfl, rfl⟩)
                | (go_at_call 93; (first | (with_reducible refine (HA1.out _ HM.out.sc.at).mono ?_) | (with_reducible refine (HA2.out _ HM.out.sc.at).mono ?_)); rintro e w' ⟨rfl, rfl⟩))
               refine leaves_marks (N := w.heap.size) (by simp) [D1, D0] _ (by simp [Ne.symm HND.out]) (fun D hD => HM.out.ds D hD) fun W' hT => ?_
               exact methNo HE.out (by decide) (hT.below HM.out.sc.ext (Nat.le_refl _) HM.out.sc.ext.size)
             | false =>
               rw [ha1] at HA1
               cases ha2 : aloneB p s1 y with
               | true =>
                 have HE := hide (show moveE p s ⟨t, k, i, j, m⟩ = 176 from moveE_pair HGO.out HC1.out (fun _ => HC2.out) HNF.out (by show (aloneB p (movedS s ⟨t, k, i, j, m⟩) (j : Int) || aloneB p (movedS s ⟨t, k, i, j, m⟩) (fromZ s ⟨t, k, i, j, m⟩)) = _; rw [HMS.out, show fromZ s ⟨t, k, i, j, m⟩ = y from HY.out]; rw [ha1, ha2]; rfl))
                 rw [ha2] at HA2
                 clear ha1 ha2
                 go_wp2_with (first
                  | (go_at_call 88; (with_reducible refine (demand_ok 175 _).mono ?_); rintro e w' ⟨rfl, rfl⟩)
                  | (go_at_call 88; (with_reducible refine (demand_no 176 _).mono ?_); rintro e w' ⟨rfl, rfl⟩)
                  | (go_at_call 93; (first | (with_reducible refine (HA1.out _ HM.out.sc.at).mono ?_) | (with_reducible refine (HA2.out _ HM.out.sc.at).mono ?_)); rintro e w' ⟨rfl, rfl⟩))
                 refine leaves_marks (N := w.heap.size) (by simp) [D1, D0] _ (by simp [Ne.symm HND.out]) (fun D hD => HM.out.ds D hD) fun W' hT => ?_
                 exact methNo HE.out (by decide) (hT.below HM.out.sc.ext (Nat.le_refl _) HM.out.sc.ext.size)
               | false =>
                 have HE := hide (show moveE p s ⟨t, k, i, j, m⟩ = 0 from moveE_zero HGO.out HC1.out (fun _ => HC2.out) HNF.out (by show (aloneB p (movedS s ⟨t, k, i, j, m⟩) (j : Int) || aloneB p (movedS s ⟨t, k, i, j, m⟩) (fromZ s ⟨t, k, i, j, m⟩)) = _; rw [HMS.out, show fromZ s ⟨t, k, i, j, m⟩ = y from HY.out]; rw [ha1, ha2]; rfl))
                 rw [ha2] at HA2
                 clear ha1 ha2
                 go_wp2_with (first
                  | (go_at_call 88; (with_reducible refine (demand_ok 175 _).mono ?_); rintro e w' ⟨rfl, rfl⟩)
                  | (go_at_call 88; (with_reducible refine (demand_ok 176 _).mono ?_); rintro e w' ⟨rfl, rfl⟩)
                  | (go_at_call 93; (first | (with_reducible refine (HA1.out _ HM.out.sc.at).mono ?_) | (with_reducible refine (HA2.out _ HM.out.sc.at).mono ?_)); rintro e w' ⟨rfl, rfl⟩))
                 refine leaves_marks (N := w.heap.size) (by simp) [D1, D0] _ (by simp [Ne.symm HND.out]) (fun D hD => HM.out.ds D hD) fun W' hT => ?_
                 exact ⟨unitV, by simp [results, Try.results101, go_sem]; try rfl, methYes HE.out (HMS.out ▸ HM.out.sc.turn hT (Nat.le_refl _))⟩
            ·have hd : decide ((mc : Int) ≤ zr) = false := decide_eq_false q0
             have HE := hide (show moveE p s ⟨t, k, i, j, m⟩ = 175 from moveE_full HGO.out HC1.out (fun _ => HC2.out) ⟨by dsimp only; omega, by dsimp only; rw [GZ.out, HMS.out, HMC.out]; dsimp only; omega⟩)
             clear q0
             have cc := Boxed.cell HM.out.pc
             have k0 := HM.out.sc.at.k0
             try dsimp only at k0
             have d3 := cell_heap HM.out.pa 3 _ rfl
             have e6 := HM.out.sc.ext.cell HE6.out
             apply wp_region_t 20 (155 :: 156 :: 157 :: 158 :: 159 :: 160 :: 161 :: 162 :: 163 :: 164 :: 165 :: 166 :: 167 :: 168 :: 169 :: 170 :: 171 :: 172 :: 173 :: 174 :: [])
              (.is _ :: .is _ :: .is _ :: .is _ :: .is _ :: .is _ :: .is _ :: .is _ :: .is _ :: .is _ :: .is _ :: .is _ :: .is _ :: .is _ :: .is _ :: .is _ :: .is _ :: .is _ :: .is _ :: .is _ :: [])
              [(2, _), (3, _)]
             ·kernel_rfl
             ·decide
             ·decide
             ·rfl
             ·kernel_rfl
             ·decide +kernel
             iterate 6 (· kernel_rfl)
             ·rfl
             ·exact keepsIs _ rfl
             ·refine ⟨?_, ?_, trivial⟩ <;> (simp; rfl)
             ·repeat
               refine ⟨?_, ?_⟩
               ·intro F V11 hF hd hR
                simp [fixedAt] at hF
                obtain ⟨t2, t3⟩ := hF
                simp [Region.binds, Ent.holds] at hd
                refine ⟨fun hgd K hK => ?_, by intro g b h hn; first | (cases h; done) | (cases h; refine absurd ?_ hn; simp [hd]; done) | (cases h; exact ⟨rfl, Ext.refl _⟩)⟩
                first
                 | (refine absurd (hgd _ _ rfl) ?_; simp [hd]; done)
                 | (refine absurd (hgd _ _ rfl) ?_; simp [hd]; simp [undef]; done)
                 | (simp only [Ent.holds, List.getD_cons_zero, List.getD_cons_succ] at hK
                    have cc' := hR.cell cc
                    have k0' := hR.cell k0
                    have d3' := hR.cell d3
                    have e6' := hR.cell e6
                    go_simp
                    first
                     | exact hK _ _ rfl (Ext.refl _)
                     | (go_at_call 92
                        with_reducible refine (HCR.out _ (HM.out.ext' hR).sc.at).mono ?_
                        rintro e w' ⟨rfl, rfl⟩
                        exact hK _ _ rfl (Ext.refl _)))
              exact trivial
             intro X V11 hx hR
             simp only [toldX] at hx
             simp only [fillX, List.setIfInBounds_toArray, List.set_cons_succ, List.set_cons_zero]
             replace HM := hide (HM.out.ext' hR)
             clear cc k0 d3 e6 hR
             go_wp2_with (go_at_call 88; refine (demand_no _ _).mono ?_; rintro e w' ⟨rfl, rfl⟩)
             refine leaves_marks (N := w.heap.size) (by simp) [D1, D0] _ (by simp [Ne.symm HND.out]) (fun D hD => HM.out.ds D hD) fun W' hT => ?_
             exact methNo HE.out (by decide) (hT.below HM.out.sc.ext (Nat.le_refl _) HM.out.sc.ext.size)
         ·intro D c pre Wd hD hSp hIx hK
          exact hIx.elim
         ·intro D ch pre Wd hD hSp hI hK
          have HANY := hide (show (nears p.zones p.squibs (j : Int)).any (stormy s) = true by obtain ⟨rest, hr⟩ := hSp; obtain ⟨q, hq, hqs⟩ := hI.2.1; rw [← hr, List.any_eq_true]; exact ⟨q, List.mem_append_left _ hq, hqs⟩)
          obtain ⟨rfl, _, hm⟩ := hI
          have HE := hide (show moveE p s ⟨t, k, i, j, m⟩ = 173 from moveE_2 HGO.out HC1.out (show (0 : Int) ≤ (m : Int) by omega) (show comesE p s (m : Int) (j : Int) = _ from comesE_storm HNB.out HANY.out) (by decide))
          refine leaves_marks (N := w.heap.size) (by simp) (D :: [D0]) _ (List.nodup_cons.2 ⟨fun h => absurd (HDL.out _ h) (by omega), by simp⟩) (fun D' hD' => ?_) fun W' hT => ?_
          ·rcases List.mem_cons.1 hD' with h | h
           ·rw [h]; exact ⟨Nat.le_trans HWS.out hD, hK⟩
           ·exact hm.ds D' h
          ·exact methNo HE.out (by decide) (hT.below hm.sc.ext (Nat.le_refl _) hm.sc.ext.size)
        ·have hd : decide (zg ≤ gm) = false := decide_eq_false b0
         have HE := hide (show moveE p s ⟨t, k, i, j, m⟩ = 172 from moveE_2 HGO.out HC1.out (show (0 : Int) ≤ (m : Int) by omega) (show comesE p s (m : Int) (j : Int) = _ from comesE_badge (by omega) (by rw [Ggm.out, GZ.out]; dsimp only; omega)) (by decide))
         clear b0
         have cc := Boxed.cell HM.out.pc
         have k0 := HM.out.sc.at.k0
         have k2 := HM.out.sc.at.k2
         try dsimp only at k0 k2
         have d3 := cell_heap HM.out.pa 3 _ rfl
         have e2 := HM.out.sc.ext.cell HE2.out
         have e5 := HM.out.sc.ext.cell HE5.out
         apply wp_region_t 25 (80 :: 81 :: 82 :: 83 :: 84 :: 85 :: 86 :: 87 :: 88 :: 89 :: 90 :: 91 :: 92 :: 93 :: 94 :: 95 :: 96 :: 97 :: 98 :: 99 :: 100 :: 101 :: 102 :: 103 :: 104 :: [])
          (.is _ :: .is _ :: .is _ :: .is _ :: .is _ :: .is _ :: .is _ :: .is _ :: .is _ :: .is _ :: .is _ :: .is _ :: .is _ :: .is _ :: .is _ :: .is _ :: .is _ :: .is _ :: .is _ :: .is _ :: .is _ :: .is _ :: .is _ :: .is _ :: .is _ :: [])
          [(2, _), (3, _), (8, _)]
         ·kernel_rfl
         ·decide
         ·decide
         ·rfl
         ·kernel_rfl
         ·decide +kernel
         iterate 6 (· kernel_rfl)
         ·rfl
         ·exact keepsIs _ rfl
         ·refine ⟨?_, ?_, ?_, trivial⟩ <;> (simp; rfl)
         ·repeat
           refine ⟨?_, ?_⟩
           ·intro F V7 hF hd hR
            simp [fixedAt] at hF
            obtain ⟨t2, t3, t8⟩ := hF
            simp [Region.binds, Ent.holds] at hd
            refine ⟨fun hgd K hK => ?_, by intro g b h hn; first | (cases h; done) | (cases h; refine absurd ?_ hn; simp [hd]; done) | (cases h; exact ⟨rfl, Ext.refl _⟩)⟩
            first
             | (refine absurd (hgd _ _ rfl) ?_; simp [hd]; done)
             | (refine absurd (hgd _ _ rfl) ?_; simp [hd]; simp [undef]; done)
             | (simp only [Ent.holds, List.getD_cons_zero, List.getD_cons_succ] at hK
                have cc' := hR.cell cc
                have k0' := hR.cell k0
                have k2' := hR.cell k2
                have d3' := hR.cell d3
                have e2' := hR.cell e2
                have e5' := hR.cell e5
                go_simp
                first
                 | exact hK _ _ rfl (Ext.refl _))
          exact trivial
         intro X V7 hx hR
         simp only [toldX] at hx
         simp only [fillX, List.setIfInBounds_toArray, List.set_cons_succ, List.set_cons_zero]
         replace HM := hide (HM.out.ext' hR)
         clear cc k0 k2 d3 e2 e5 hR
         go_wp2_with (go_at_call 88; refine (demand_no _ _).mono ?_; rintro e w' ⟨rfl, rfl⟩)
         refine leaves_marks (N := w.heap.size) (by simp) [D0] _ (by simp) (fun D hD => HM.out.ds D hD) fun W' hT => ?_
         exact methNo HE.out (by decide) (hT.below HM.out.sc.ext (Nat.le_refl _) HM.out.sc.ext.size)
     ·intro D c pre Wd hD hSp hIx hK
      exact hIx.elim
     ·intro D ch pre Wd hD hSp hI hK
      have HANY := hide (show (nears p.zones p.squibs (j : Int)).any (stormy s) = true by obtain ⟨rest, hr⟩ := hSp; obtain ⟨q, hq, hqs⟩ := hI.2.1; rw [← hr, List.any_eq_true]; exact ⟨q, List.mem_append_left _ hq, hqs⟩)
      obtain ⟨rfl, _, hm⟩ := hI
      have HE := hide (show moveE p s ⟨t, k, i, j, m⟩ = 173 from moveE_1 HGO.out (show comesE p s (i : Int) (j : Int) = _ from comesE_storm HNB.out HANY.out) (by decide))
      refine leaves_marks (N := w.heap.size) (by simp) (D :: []) _ (List.nodup_cons.2 ⟨fun h => absurd (HDL.out _ h) (by omega), by simp⟩) (fun D' hD' => ?_) fun W' hT => ?_
      ·rcases List.mem_cons.1 hD' with h | h
       ·rw [h]; exact ⟨Nat.le_trans HWS.out hD, hK⟩
       ·exact hm.ds D' h
      ·exact methNo HE.out (by decide) (hT.below hm.sc.ext (Nat.le_refl _) hm.sc.ext.size)
    ·have hd : decide (zg ≤ gi) = false := decide_eq_false b0
     have HE := hide (show moveE p s ⟨t, k, i, j, m⟩ = 172 from moveE_1 HGO.out (show comesE p s (i : Int) (j : Int) = _ from comesE_badge (by omega) (by rw [Ggi.out, GZ.out]; dsimp only; omega)) (by decide))
     clear b0
     have cc := Boxed.cell HM.out.pc
     have k0 := HM.out.sc.at.k0
     have k2 := HM.out.sc.at.k2
     try dsimp only at k0 k2
     have d3 := cell_heap HM.out.pa 3 _ rfl
     have e1 := HM.out.sc.ext.cell HE1.out
     have e5 := HM.out.sc.ext.cell HE5.out
     apply wp_region_t 25 (80 :: 81 :: 82 :: 83 :: 84 :: 85 :: 86 :: 87 :: 88 :: 89 :: 90 :: 91 :: 92 :: 93 :: 94 :: 95 :: 96 :: 97 :: 98 :: 99 :: 100 :: 101 :: 102 :: 103 :: 104 :: [])
      (.is _ :: .is _ :: .is _ :: .is _ :: .is _ :: .is _ :: .is _ :: .is _ :: .is _ :: .is _ :: .is _ :: .is _ :: .is _ :: .is _ :: .is _ :: .is _ :: .is _ :: .is _ :: .is _ :: .is _ :: .is _ :: .is _ :: .is _ :: .is _ :: .is _ :: [])
      [(2, _), (3, _), (8, _)]
     ·kernel_rfl
     ·decide
     ·decide
     ·rfl
     ·kernel_rfl
     ·decide +kernel
     iterate 6 (· kernel_rfl)
     ·rfl
     ·exact keepsIs _ rfl
     ·refine ⟨?_, ?_, ?_, trivial⟩ <;> (simp; rfl)
     ·repeat
       refine ⟨?_, ?_⟩
       ·intro F V5 hF hd hR
        simp [fixedAt] at hF
        obtain ⟨t2, t3, t8⟩ := hF
        simp [Region.binds, Ent.holds] at hd
        refine ⟨fun hgd K hK => ?_, by intro g b h hn; first | (cases h; done) | (cases h; refine absurd ?_ hn; simp [hd]; done) | (cases h; exact ⟨rfl, Ext.refl _⟩)⟩
        first
         | (refine absurd (hgd _ _ rfl) ?_; simp [hd]; done)
         | (refine absurd (hgd _ _ rfl) ?_; simp [hd]; simp [undef]; done)
         | (simp only [Ent.holds, List.getD_cons_zero, List.getD_cons_succ] at hK
            have cc' := hR.cell cc
            have k0' := hR.cell k0
            have k2' := hR.cell k2
            have d3' := hR.cell d3
            have e1' := hR.cell e1
            have e5' := hR.cell e5
            go_simp
            first
             | exact hK _ _ rfl (Ext.refl _))
      exact trivial
     intro X V5 hx hR
     simp only [toldX] at hx
     simp only [fillX, List.setIfInBounds_toArray, List.set_cons_succ, List.set_cons_zero]
     replace HM := hide (HM.out.ext' hR)
     clear cc k0 k2 d3 e1 e5 hR
     go_wp2_with (go_at_call 88; refine (demand_no _ _).mono ?_; rintro e w' ⟨rfl, rfl⟩)
     refine leaves_marks (N := w.heap.size) (by simp) [] _ (by simp) (fun D hD => HM.out.ds D hD) fun W' hT => ?_
     exact methNo HE.out (by decide) (hT.below HM.out.sc.ext (Nat.le_refl _) HM.out.sc.ext.size)
   ·have hd : (x2 == y) = false := by simpa using s0
    have HGO := hide (show goB p s ⟨t, k, i, j, m⟩ = false by unfold goB; rw [show fromZ s ⟨t, k, i, j, m⟩ = y from HY.out]; dsimp only; rw [HDB.out, Int.toNat_natCast, HX2.out]; simp [s0])
    clear s0
    have cc := Boxed.cell HM.out.pc
    have k8 := HM.out.sc.at.k8
    try dsimp only at k8
    have d4 := cell_heap HM.out.pa 4 _ rfl
    obtain ⟨g9, e9, _, c2, _⟩ := HM.out.sc.zlt (i := m) n4
    dsimp only at e9
    cases e9
    rw [HX2.out] at c2
    apply wp_region_t 19 (43 :: 44 :: 45 :: 46 :: 47 :: 48 :: 49 :: 50 :: 51 :: 52 :: 53 :: 54 :: 55 :: 56 :: 57 :: 58 :: 59 :: 60 :: 61 :: [])
     (.is _ :: .is _ :: .is _ :: .is _ :: .is _ :: .is _ :: .is _ :: .is _ :: .is _ :: .is _ :: .is _ :: .is _ :: .is _ :: .is _ :: .is _ :: .is _ :: .is _ :: .is _ :: .is _ :: [])
     [(2, _), (3, _), (4, _), (5, _)]
    ·kernel_rfl
    ·decide
    ·decide
    ·rfl
    ·kernel_rfl
    ·decide +kernel
    iterate 6 (· kernel_rfl)
    ·rfl
    ·exact keepsIs _ rfl
    ·refine ⟨?_, ?_, ?_, ?_, trivial⟩ <;> (simp; rfl)
    ·repeat
      refine ⟨?_, ?_⟩
      ·intro F V4 hF hd hR
       simp [fixedAt] at hF
       obtain ⟨t2, t3, t4, t5⟩ := hF
       simp [Region.binds, Ent.holds] at hd
       refine ⟨fun hgd K hK => ?_, by intro g b h hn; first | (cases h; done) | (cases h; refine absurd ?_ hn; simp [hd]; done) | (cases h; exact ⟨rfl, Ext.refl _⟩)⟩
       first
        | (refine absurd (hgd _ _ rfl) ?_; simp [hd]; done)
        | (refine absurd (hgd _ _ rfl) ?_; simp [hd]; simp [undef]; done)
        | (simp only [Ent.holds, List.getD_cons_zero, List.getD_cons_succ] at hK
           have cc' := hR.cell cc
           have k8' := hR.cell k8
           have d4' := hR.cell d4
           have c2' := hR.cell c2
           go_simp
           first
            | exact hK _ _ rfl (Ext.refl _))
     exact trivial
    intro X V4 hx hR
    simp only [toldX] at hx
    simp only [fillX, List.setIfInBounds_toArray, List.set_cons_succ, List.set_cons_zero]
    replace HM := hide (HM.out.ext' hR)
    clear cc k8 d4 c2 hR
    have HE := hide (show moveE p s ⟨t, k, i, j, m⟩ = 171 from moveE_door HGO.out)
    go_wp2_with (go_at_call 88; refine (demand_no _ _).mono ?_; rintro e w' ⟨rfl, rfl⟩)
    refine leaves_marks (N := w.heap.size) (by simp) [] _ (by simp) (fun D hD => HM.out.ds D hD) fun W' hT => ?_
    exact methNo HE.out (by decide) (hT.below HM.out.sc.ext (Nat.le_refl _) HM.out.sc.ext.size)
 | false =>
   cases h2 : hasDoor p (j : Int) y with
   | true =>
     rw [h1] at HC1
     rw [h2] at HC2
     have HDB := hide (show doorB p y (j : Int) = true by unfold doorB; rw [h1, h2]; rfl)
     clear h1 h2
     have cc := Boxed.cell HM.out.pc
     have k1 := HM.out.sc.at.k1
     try dsimp only at k1
     have d3 := cell_heap HM.out.pa 3 _ rfl
     apply wp_region_f (21 :: 22 :: 23 :: 24 :: 25 :: 26 :: 27 :: 28 :: 29 :: 30 :: 31 :: 32 :: 33 :: 34 :: 35 :: 36 :: 37 :: 38 :: 39 :: 40 :: 41 :: 42 :: 5 :: [])
      (.is _ :: .is _ :: .is _ :: .is _ :: .is _ :: .is _ :: .is _ :: .is _ :: .is _ :: .is _ :: .is _ :: .is _ :: .is _ :: .is _ :: .is _ :: .is _ :: .is _ :: .is _ :: .is _ :: .is _ :: .is _ :: .is _ :: .is _ :: [])
      [(2, _), (3, _), (4, _)]
     ·kernel_rfl
     ·decide
     ·rfl
     ·kernel_rfl
     ·decide +kernel
     iterate 4 (· kernel_rfl)
     ·rfl
     ·exact keepsIs _ rfl
     ·refine ⟨?_, ?_, ?_, trivial⟩ <;> (simp; rfl)
     ·repeat
       refine ⟨?_, ?_⟩
       ·intro F V3 hF hd hR
        simp [fixedAt] at hF
        obtain ⟨t2, t3, t4⟩ := hF
        simp [Region.binds, Ent.holds] at hd
        refine ⟨fun hgd K hK => ?_, by intro g b h hn; first | (cases h; done) | (cases h; refine absurd ?_ hn; simp [hd]; done) | (cases h; exact ⟨rfl, Ext.refl _⟩)⟩
        first
         | (refine absurd (hgd _ _ rfl) ?_; simp [hd]; done)
         | (refine absurd (hgd _ _ rfl) ?_; simp [hd]; simp [undef]; done)
         | (simp only [Ent.holds, List.getD_cons_zero, List.getD_cons_succ] at hK
            have cc' := hR.cell cc
            have k1' := hR.cell k1
            have d3' := hR.cell d3
            go_simp
            first
             | exact hK _ _ rfl (Ext.refl _)
             | (go_at_call 113
                with_reducible refine (HC1.out _ (HM.out.ext' hR).sc.at.pad.d).mono ?_
                rintro e w' ⟨rfl, hx⟩
                exact hK _ _ rfl hx)
             | (go_at_call 113
                with_reducible refine (HC2.out _ (HM.out.ext' hR).sc.at.pad.d).mono ?_
                rintro e w' ⟨rfl, hx⟩
                exact hK _ _ rfl hx))
      exact trivial
     intro X V3 hx hR
     simp only [toldX] at hx
     simp only [fillX, List.setIfInBounds_toArray, List.set_cons_succ, List.set_cons_zero]
     replace HM := hide (HM.out.ext' hR)
     clear cc k1 d3 hR HC1 HC2
     go_wp2_with fail
     obtain ⟨x2, hx2⟩ : ∃ v, s.zones.getD m 0 = v := ⟨_, rfl⟩
     have HX2 := hide hx2
     clear hx2
     by_cases s0 : x2 = y
     ·have hd : (x2 == y) = true := by simpa using s0
      have HGO := hide (show goB p s ⟨t, k, i, j, m⟩ = true by unfold goB; rw [show fromZ s ⟨t, k, i, j, m⟩ = y from HY.out]; dsimp only; rw [HDB.out, Int.toNat_natCast, HX2.out]; simp [s0])
      clear s0
      have cc := Boxed.cell HM.out.pc
      have k8 := HM.out.sc.at.k8
      try dsimp only at k8
      have d4 := cell_heap HM.out.pa 4 _ rfl
      obtain ⟨g9, e9, _, c2, _⟩ := HM.out.sc.zlt (i := m) n4
      dsimp only at e9
      cases e9
      rw [HX2.out] at c2
      apply wp_region_t 19 (43 :: 44 :: 45 :: 46 :: 47 :: 48 :: 49 :: 50 :: 51 :: 52 :: 53 :: 54 :: 55 :: 56 :: 57 :: 58 :: 59 :: 60 :: 61 :: [])
       (.is _ :: .is _ :: .is _ :: .is _ :: .is _ :: .is _ :: .is _ :: .is _ :: .is _ :: .is _ :: .is _ :: .is _ :: .is _ :: .is _ :: .is _ :: .is _ :: .is _ :: .is _ :: .is _ :: [])
       [(2, _), (3, _), (4, _), (5, _)]
      ·kernel_rfl
      ·decide
      ·decide
      ·rfl
      ·kernel_rfl
      ·decide +kernel
      iterate 6 (· kernel_rfl)
      ·rfl
      ·exact keepsIs _ rfl
      ·refine ⟨?_, ?_, ?_, ?_, trivial⟩ <;> (simp; rfl)
      ·repeat
        refine ⟨?_, ?_⟩
        ·intro F V4 hF hd hR
         simp [fixedAt] at hF
         obtain ⟨t2, t3, t4, t5⟩ := hF
         simp [Region.binds, Ent.holds] at hd
         refine ⟨fun hgd K hK => ?_, by intro g b h hn; first | (cases h; done) | (cases h; refine absurd ?_ hn; simp [hd]; done) | (cases h; exact ⟨rfl, Ext.refl _⟩)⟩
         first
          | (refine absurd (hgd _ _ rfl) ?_; simp [hd]; done)
          | (refine absurd (hgd _ _ rfl) ?_; simp [hd]; simp [undef]; done)
          | (simp only [Ent.holds, List.getD_cons_zero, List.getD_cons_succ] at hK
             have cc' := hR.cell cc
             have k8' := hR.cell k8
             have d4' := hR.cell d4
             have c2' := hR.cell c2
             go_simp
             first
              | exact hK _ _ rfl (Ext.refl _))
       exact trivial
      intro X V4 hx hR
      simp only [toldX] at hx
      simp only [fillX, List.setIfInBounds_toArray, List.set_cons_succ, List.set_cons_zero]
      replace HM := hide (HM.out.ext' hR)
      clear cc k8 d4 c2 hR
      clear hd
      have cc := Boxed.cell HM.out.pc
      have d2 := cell_heap HM.out.pa 2 _ rfl
      have d4 := cell_heap HM.out.pa 4 _ rfl
      have hpl := HM.out.pa.lt
      have hpl2 : W.heap.size + 1 < V4.heap.size + 1 := by omega
      have HPL := hide hpl
      obtain ⟨iI, hiI, hzI0, hzI1, hzI2⟩ := info_parts infoInt
      have hI := hide hiI
      have hI0 := hide hzI0
      have hI1 := hide hzI1
      have hI2 := hide hzI2
      clear hiI hzI0 hzI1 hzI2
      go_wp2_with (first
       | (go_at_call 88; refine (demand_ok _ _).mono ?_; rintro e w' ⟨rfl, rfl⟩)
       | ((at_builtin
           refine wpList_app rfl (.tmp 69) (.tmp 72) 36 rfl V4.heap.size 3 iI _ 1 8 Try.underlying36 hI.out hI0.out hI1.out hI2.out rfl _ 1 [.int .i64 i] rfl ((Own.lit V4 V4.heap.size 3 1 1 #[.int .i64 i] (Nat.le_refl _) rfl (by simp [maxLen])).alloc _) (some ⟨V4.heap.size + 1, 0, none⟩) 1 1 [.int .i64 m] rfl (by have := (Own.lit (V4.alloc (.cells #[.int .i64 i] 3)) 0 3 1 1 #[.int .i64 m] (Nat.zero_le _) rfl (by simp [maxLen])).src; rwa [World.size_alloc] at this) (by simp [Value.oneCell']) ?_ ?_ ?_ ?_
           ·simp only [maxLen]; omega
           ·omega
           ·simp; omega
           intro v7 w7 hown hbel
           obtain ⟨A7, c7, rfl, _, _, _⟩ := hown.form
           have HW7 := hide hown
           have HB7 := hide hbel
           clear hown hbel)))
      clear cc d2 d4 hpl hpl2 hI hI0 hI1 hI2
      have hx7 : Ext V4 w7 := Ext.step (((Ext.refl _).alloc _).alloc _) HB7.out (Nat.le_refl _)
      obtain ⟨gb, hgA, hgb, hgl⟩ := own_at HW7.out (show 0 < 2 by omega)
      subst hgA
      have HGC := hide (show V4.heap.size ≤ gb from hgb)
      have HMB := hide HM.out.pa.lt
      replace HM := hide (((HM.out.ext' hx7).grp ⟨gb, 1, none⟩ (.int .i64 m) (own_cell HW7.out rfl) (by have := HMB.out; have := HGC.out; dsimp only; omega)).grp ⟨gb, 0, none⟩ (.int .i64 i) (own_cell HW7.out rfl) (by have := HMB.out; have := HGC.out; dsimp only; omega))
      clear hx7 hgb hgl HGC HW7 HB7 HMB HPL
      refine wp_loop_rounds 3 ?_
      rw [rounds_succ]
      have cg := (HM.out.gs _ (List.mem_cons_self ..)).1
      try dsimp only at cg
      have cg2 := (HM.out.gs _ (List.mem_cons_of_mem _ (List.mem_cons_self ..))).1
      try dsimp only at cg2
      go_wp2_with fail
      clear cg cg2
      by_cases b0 : zg ≤ gi
      ·have hd : decide (zg ≤ gi) = true := decide_eq_true b0
       have HNB := hide (show ¬ (0 ≤ (j : Int) ∧ (personOf p (i : Nat)).grade < (zoneOf p (j : Int)).grade) by rw [Ggi.out, GZ.out]; dsimp only; omega)
       clear b0
       have cc := Boxed.cell HM.out.pc
       have k0 := HM.out.sc.at.k0
       have k2 := HM.out.sc.at.k2
       try dsimp only at k0 k2
       have d3 := cell_heap HM.out.pa 3 _ rfl
       have e1 := HM.out.sc.ext.cell HE1.out
       have e5 := HM.out.sc.ext.cell HE5.out
       apply wp_region_t 25 (80 :: 81 :: 82 :: 83 :: 84 :: 85 :: 86 :: 87 :: 88 :: 89 :: 90 :: 91 :: 92 :: 93 :: 94 :: 95 :: 96 :: 97 :: 98 :: 99 :: 100 :: 101 :: 102 :: 103 :: 104 :: [])
        (.is _ :: .is _ :: .is _ :: .is _ :: .is _ :: .is _ :: .is _ :: .is _ :: .is _ :: .is _ :: .is _ :: .is _ :: .is _ :: .is _ :: .is _ :: .is _ :: .is _ :: .is _ :: .is _ :: .is _ :: .is _ :: .is _ :: .is _ :: .is _ :: .is _ :: [])
        [(2, _), (3, _), (8, _)]
       ·kernel_rfl
       ·decide
       ·decide
       ·rfl
       ·kernel_rfl
       ·decide +kernel
       iterate 6 (· kernel_rfl)
       ·rfl
       ·exact keepsIs _ rfl
       ·refine ⟨?_, ?_, ?_, trivial⟩ <;> (simp; rfl)
       ·repeat
         refine ⟨?_, ?_⟩
         ·intro F V5 hF hd hR
          simp [fixedAt] at hF
          obtain ⟨t2, t3, t8⟩ := hF
          simp [Region.binds, Ent.holds] at hd
          refine ⟨fun hgd K hK => ?_, by intro g b h hn; first | (cases h; done) | (cases h; refine absurd ?_ hn; simp [hd]; done) | (cases h; exact ⟨rfl, Ext.refl _⟩)⟩
          first
           | (refine absurd (hgd _ _ rfl) ?_; simp [hd]; done)
           | (refine absurd (hgd _ _ rfl) ?_; simp [hd]; simp [undef]; done)
           | (simp only [Ent.holds, List.getD_cons_zero, List.getD_cons_succ] at hK
              have cc' := hR.cell cc
              have k0' := hR.cell k0
              have k2' := hR.cell k2
              have d3' := hR.cell d3
              have e1' := hR.cell e1
              have e5' := hR.cell e5
              go_simp
              first
               | exact hK _ _ rfl (Ext.refl _))
        exact trivial
       intro X V5 hx hR
       simp only [toldX] at hx
       simp only [fillX, List.setIfInBounds_toArray, List.set_cons_succ, List.set_cons_zero]
       replace HM := hide (HM.out.ext' hR)
       clear cc k0 k2 d3 e1 e5 hR
       clear hd
       go_wp2_with (go_at_call 88; refine (demand_ok _ _).mono ?_; rintro e w' ⟨rfl, rfl⟩)
       have cc := Boxed.cell HM.out.pc
       have k0 := HM.out.sc.at.k0
       have k1 := HM.out.sc.at.k1
       have k2 := HM.out.sc.at.k2
       have k3 := HM.out.sc.at.k3
       have k4 := HM.out.sc.at.k4
       have k5 := HM.out.sc.at.k5
       have k6 := HM.out.sc.at.k6
       try dsimp only at k0 k1 k2 k3 k4 k5 k6
       have d3 := cell_heap HM.out.pa 3 _ rfl
       apply wp_region_t 6 [106, 107, 108, 109, 110, 111]
        [.is _, .is _, .is _, .is _, .is _, .is _]
        [(2, _), (3, _)]
       ·kernel_rfl
       ·decide
       ·decide
       ·rfl
       ·kernel_rfl
       ·decide +kernel
       iterate 6 (· kernel_rfl)
       ·rfl
       ·exact keepsIs _ rfl
       ·refine ⟨?_, ?_, trivial⟩ <;> (simp; rfl)
       ·repeat
         refine ⟨?_, ?_⟩
         ·intro F V6 hF hd hR
          simp [fixedAt] at hF
          obtain ⟨t2, t3⟩ := hF
          simp [Region.binds, Ent.holds] at hd
          refine ⟨fun _ K hK => ?_, by intro g b h hn; first | (cases h; done) | (cases h; exact absurd (by simp [hd]) hn)⟩
          simp only [Ent.holds, List.getD_cons_zero, List.getD_cons_succ] at hK
          have cc' := hR.cell cc
          have k0' := hR.cell k0
          have k1' := hR.cell k1
          have k2' := hR.cell k2
          have k3' := hR.cell k3
          have k4' := hR.cell k4
          have k5' := hR.cell k5
          have k6' := hR.cell k6
          have d3' := hR.cell d3
          go_simp
          first
           | exact hK _ _ rfl (Ext.refl _)
        exact trivial
       intro X V6 hx hR
       simp only [toldX] at hx
       simp only [fillX, List.setIfInBounds_toArray, List.set_cons_succ, List.set_cons_zero]
       replace HM := hide (HM.out.ext' hR)
       clear cc k0 k1 k2 k3 k4 k5 k6 d3 hR
       go_wp2_with fail
       refine (near_any (some ⟨bz, oz, none⟩) ad (some ⟨bp, op, none⟩) ak aq p.zones.length p.doors.length p.people.length p.keys.length p.squibs.length cz cd cp ck cq p.panel p.wait (j : Int) V6).mono ?_
       rintro e w4 ⟨zb, pb, rfl, hx4, z1, z2, z3⟩
       replace HM := hide (HM.out.ext' hx4)
       have HPAD := hide HM.out.sc.at.pad
       have HSEQ := hide (near_seq p.zones p.squibs (j : Int) zb pb (.slice (some ⟨bz, oz, none⟩) p.zones.length cz) aq cq w4 (by omega) HOK.out.zin HOK.out.qin (fun q hq => by obtain ⟨A, c, h, _⟩ := HPAD.out.kv q hq; exact ⟨A, c, h⟩) z1 z2 z3 HPAD.out.z HPAD.out.q)
       have HRQ := hide (rows_lt HPAD.out.q)
       have HWS := hide HM.out.sc.ext.size
       have HDL := hide (fun D hD => (Array.getElem?_eq_some_iff.1 (HM.out.ds D hD).2).1)
       clear z1 z2 z3 hx4
       go_wp2_with fail
       refine range_okp (gf := 78) (encs := idxEnc) rfl (enters_of Try.func78 (by kernel_rfl) rfl) HSEQ.out
        (by intro k hk; rcases hk with ⟨h0, ho⟩ | h2
            ·have := HRQ.out k h0 ho; omega
            ·omega) (fun _ => rfl)
        (fun pre W' => (∀ q ∈ pre, stormy s q = false) ∧ MvW w B ⟨⟨some ⟨bz, oz, none⟩, cz, ad, cd, some ⟨bp, op, none⟩, cp, ak, ck, aq, cq⟩, some ⟨gz, 0, none⟩, zc, sh, hc, sq, qc⟩ p s W.heap.size #[.int .i64 t, .int .i64 k, .int .i64 i, .int .i64 j, .int .i64 m] [] [(⟨gb, 0, none⟩, .int .i64 i), (⟨gb, 1, none⟩, .int .i64 m)] W') (fun _ _ _ => False) (fun ch pre W' => ch = ErrP 173 ∧ (∃ q ∈ pre, stormy s q = true) ∧ MvW w B ⟨⟨some ⟨bz, oz, none⟩, cz, ad, cd, some ⟨bp, op, none⟩, cp, ak, ck, aq, cq⟩, some ⟨gz, 0, none⟩, zc, sh, hc, sq, qc⟩ p s W.heap.size #[.int .i64 t, .int .i64 k, .int .i64 i, .int .i64 j, .int .i64 m] [] [(⟨gb, 0, none⟩, .int .i64 i), (⟨gb, 1, none⟩, .int .i64 m)] W')
        (fun s A B h k => ⟨h.1, h.2.turn k HWS.out HDL.out⟩) (fun c s A B h k => h) ⟨(fun q hq => absurd hq (by simp)), HM.out⟩ ?_ ?_ ?_ ?_
       ·intro l0 pre x W0 Wr hszW hsp hI hx0 hokk
        have hxl : x < p.squibs.length := by
         obtain ⟨rest, hr⟩ := hsp
         refine nears_lt (zs := p.zones) (qs := p.squibs) (z := (j : Int)) ?_
         rw [← hr]; simp
        have hxs : x < s.squibs.length := by have := HST.out.lq; omega
        have HPRE := hide hI.1
        replace HM := hide (hI.2.ext' hx0)
        clear hI hx0 hokk hsp
        cases hst : stormy s x with
        | true =>
          have HXS := hide hst
          clear hst
          refine .inr ?_
          simp only [idxEnc]
          gi_wp2
          refine ⟨KeepsFrom.refl _ _, fun W2 hT => ?_⟩
          replace HM := hide (HM.out.turn hT HWS.out HDL.out)
          clear hT
          have cc := Boxed.cell HM.out.pc
          have k12 := HM.out.sc.at.k12
          have k10 := HM.out.sc.at.k10
          obtain ⟨_, _, _, hqrow⟩ := HM.out.sc.at.q.rows
          obtain ⟨b9, o9, u, hA, _, c0, HU⟩ := ints_at hqrow hxs
          try dsimp only at k10 k12 hA
          subst hA
          obtain ⟨stm, hstm⟩ : ∃ v, s.storm = v := ⟨_, rfl⟩
          have HSTM := hide hstm
          rw [hstm] at k12
          clear hstm hqrow
          cases stm with
          | false => exact absurd HXS.out (by unfold stormy; rw [HSTM.out]; simp)
          | true =>
            have hu : (u == 2) = false := by
             have := HXS.out
             unfold stormy at this
             rw [HSTM.out, HU.out] at this
             simpa using this
            refine wpP_block (wpP_region_lit ?_)
            gi_wp2
            refine ⟨trivial, rfl, (CallsIn.inRound l0 (callsIn_wide.2 (demand_no 173 W2))).mono ?_⟩
            rintro e w5 ⟨rfl, rfl⟩
            exact ⟨rfl, KeepsFrom.refl _ _, rfl, .inr HXS.out, HM.out⟩
        | false =>
          have HXS := hide hst
          clear hst
          refine .inl ?_
          simp only [idxEnc]
          gi_wp2
          refine ⟨KeepsFrom.refl _ _, fun k hk => rfl, fun W2 hT => ?_⟩
          replace HM := hide (HM.out.turn hT HWS.out HDL.out)
          have HALL := hide (show ∀ q ∈ pre ++ [x], stormy s q = false from fun q hq => by
           rcases List.mem_append.1 hq with hq | hq
           ·exact HPRE.out q hq
           ·rw [List.mem_singleton.1 hq]; exact HXS.out)
          clear hT
          have cc := Boxed.cell HM.out.pc
          have k12 := HM.out.sc.at.k12
          have k10 := HM.out.sc.at.k10
          obtain ⟨_, _, _, hqrow⟩ := HM.out.sc.at.q.rows
          obtain ⟨b9, o9, u, hA, _, c0, HU⟩ := ints_at hqrow hxs
          try dsimp only at k10 k12 hA
          subst hA
          obtain ⟨stm, hstm⟩ : ∃ v, s.storm = v := ⟨_, rfl⟩
          have HSTM := hide hstm
          rw [hstm] at k12
          clear hstm hqrow
          cases stm with
          | false =>
            gi_wp2
            refine ⟨trivial, rfl, (CallsIn.inRound l0 (callsIn_wide.2 (demand_ok 173 W2))).mono ?_⟩
            rintro e w5 ⟨rfl, rfl⟩
            gi_wp2
            exact ⟨KeepsFrom.refl _ _, fun k hk => rfl, HALL.out, HM.out⟩
          | true =>
            have hu : (u == 2) = true := by
             have := HXS.out
             unfold stormy at this
             rw [HSTM.out, HU.out] at this
             simpa using this
            gi_wp2
            refine ⟨trivial, rfl, (CallsIn.inRound l0 (callsIn_wide.2 (demand_ok 173 W2))).mono ?_⟩
            rintro e w5 ⟨rfl, rfl⟩
            gi_wp2
            exact ⟨KeepsFrom.refl _ _, fun k hk => rfl, HALL.out, HM.out⟩
       ·intro D0 xs Wd hD hS hI hK
        have HANY := hide (show (nears p.zones p.squibs (j : Int)).any (stormy s) = false by rw [← hS, List.any_eq_false]; intro q hq; rw [hI.1 q hq]; decide)
        replace HM := hide (show MvW w B ⟨⟨some ⟨bz, oz, none⟩, cz, ad, cd, some ⟨bp, op, none⟩, cp, ak, ck, aq, cq⟩, some ⟨gz, 0, none⟩, zc, sh, hc, sq, qc⟩ p s W.heap.size #[.int .i64 t, .int .i64 k, .int .i64 i, .int .i64 j, .int .i64 m] [D0] [(⟨gb, 0, none⟩, .int .i64 i), (⟨gb, 1, none⟩, .int .i64 m)] Wd from ⟨hI.2.sc, hI.2.hb, hI.2.pc, hI.2.pa, fun D' hD' => by
         rcases List.mem_cons.1 hD' with h | h
         ·rw [h]; exact ⟨Nat.le_trans HWS.out hD, hK⟩
         ·exact hI.2.ds D' h, hI.2.gs⟩)
        clear hD hS hI hK HSEQ HRQ HDL HWS HPAD
        have HKE := hide (fun V hV => keyed_any B ⟨⟨some ⟨bz, oz, none⟩, cz, ad, cd, some ⟨bp, op, none⟩, cp, ak, ck, aq, cq⟩, some ⟨gz, 0, none⟩, zc, sh, hc, sq, qc⟩ p s (i : Nat) (j : Int) V hV HOK.out HST.out.lh HST.out.lq (by omega))
        have cc := Boxed.cell HM.out.pc
        have d3 := cell_heap HM.out.pa 3 _ rfl
        cases hk : keyedB p s (i : Nat) (j : Int) with
        | false =>
          rw [hk] at HKE
          have HE := hide (show moveE p s ⟨t, k, i, j, m⟩ = 174 from moveE_1 HGO.out (show comesE p s (i : Int) (j : Int) = _ from comesE_key HNB.out HANY.out hk) (by decide))
          clear hk
          go_wp2_with fail
          refine (HKE.out _ HM.out.sc.at).mono ?_
          rintro e w7 ⟨rfl, hx⟩
          replace HM := hide (HM.out.ext' hx)
          go_wp2_with (go_at_call 88; refine (demand_no _ _).mono ?_; rintro e w' ⟨rfl, rfl⟩)
          refine leaves_marks (N := w.heap.size) (by simp) [D0] _ (by simp) (fun D hD => HM.out.ds D hD) fun W' hT => ?_
          exact methNo HE.out (by decide) (hT.below HM.out.sc.ext (Nat.le_refl _) HM.out.sc.ext.size)
        | true =>
          rw [hk] at HKE
          have HC1 := hide (comesE_zero (p := p) (s := s) (i := (i : Nat)) HNB.out HANY.out hk)
          clear hk
          go_wp2_with fail
          refine (HKE.out _ HM.out.sc.at).mono ?_
          rintro e w7 ⟨rfl, hx⟩
          replace HM := hide (HM.out.ext' hx)
          clear HKE hx HNB HANY cc d3
          go_wp2_with (go_at_call 88; refine (demand_ok _ _).mono ?_; rintro e w' ⟨rfl, rfl⟩)
          rw [rounds_succ]
          have cg := (HM.out.gs _ (List.mem_cons_self ..)).1
          try dsimp only at cg
          have cg2 := (HM.out.gs _ (List.mem_cons_of_mem _ (List.mem_cons_self ..))).1
          try dsimp only at cg2
          go_wp2_with fail
          clear cg cg2
          by_cases b0 : zg ≤ gm
          ·have hd : decide (zg ≤ gm) = true := decide_eq_true b0
           have HNB := hide (show ¬ (0 ≤ (j : Int) ∧ (personOf p (m : Nat)).grade < (zoneOf p (j : Int)).grade) by rw [Ggm.out, GZ.out]; dsimp only; omega)
           clear b0
           have cc := Boxed.cell HM.out.pc
           have k0 := HM.out.sc.at.k0
           have k2 := HM.out.sc.at.k2
           try dsimp only at k0 k2
           have d3 := cell_heap HM.out.pa 3 _ rfl
           have e2 := HM.out.sc.ext.cell HE2.out
           have e5 := HM.out.sc.ext.cell HE5.out
           apply wp_region_t 25 (80 :: 81 :: 82 :: 83 :: 84 :: 85 :: 86 :: 87 :: 88 :: 89 :: 90 :: 91 :: 92 :: 93 :: 94 :: 95 :: 96 :: 97 :: 98 :: 99 :: 100 :: 101 :: 102 :: 103 :: 104 :: [])
            (.is _ :: .is _ :: .is _ :: .is _ :: .is _ :: .is _ :: .is _ :: .is _ :: .is _ :: .is _ :: .is _ :: .is _ :: .is _ :: .is _ :: .is _ :: .is _ :: .is _ :: .is _ :: .is _ :: .is _ :: .is _ :: .is _ :: .is _ :: .is _ :: .is _ :: [])
            [(2, _), (3, _), (8, _)]
           ·kernel_rfl
           ·decide
           ·decide
           ·rfl
           ·kernel_rfl
           ·decide +kernel
           iterate 6 (· kernel_rfl)
           ·rfl
           ·exact keepsIs _ rfl
           ·refine ⟨?_, ?_, ?_, trivial⟩ <;> (simp; rfl)
           ·repeat
             refine ⟨?_, ?_⟩
             ·intro F V7 hF hd hR
              simp [fixedAt] at hF
              obtain ⟨t2, t3, t8⟩ := hF
              simp [Region.binds, Ent.holds] at hd
              refine ⟨fun hgd K hK => ?_, by intro g b h hn; first | (cases h; done) | (cases h; refine absurd ?_ hn; simp [hd]; done) | (cases h; exact ⟨rfl, Ext.refl _⟩)⟩
              first
               | (refine absurd (hgd _ _ rfl) ?_; simp [hd]; done)
               | (refine absurd (hgd _ _ rfl) ?_; simp [hd]; simp [undef]; done)
               | (simp only [Ent.holds, List.getD_cons_zero, List.getD_cons_succ] at hK
                  have cc' := hR.cell cc
                  have k0' := hR.cell k0
                  have k2' := hR.cell k2
                  have d3' := hR.cell d3
                  have e2' := hR.cell e2
                  have e5' := hR.cell e5
                  go_simp
                  first
                   | exact hK _ _ rfl (Ext.refl _))
            exact trivial
           intro X V7 hx hR
           simp only [toldX] at hx
           simp only [fillX, List.setIfInBounds_toArray, List.set_cons_succ, List.set_cons_zero]
           replace HM := hide (HM.out.ext' hR)
           clear cc k0 k2 d3 e2 e5 hR
           clear hd
           go_wp2_with (go_at_call 88; refine (demand_ok _ _).mono ?_; rintro e w' ⟨rfl, rfl⟩)
           have cc := Boxed.cell HM.out.pc
           have k0 := HM.out.sc.at.k0
           have k1 := HM.out.sc.at.k1
           have k2 := HM.out.sc.at.k2
           have k3 := HM.out.sc.at.k3
           have k4 := HM.out.sc.at.k4
           have k5 := HM.out.sc.at.k5
           have k6 := HM.out.sc.at.k6
           try dsimp only at k0 k1 k2 k3 k4 k5 k6
           have d3 := cell_heap HM.out.pa 3 _ rfl
           apply wp_region_t 6 [106, 107, 108, 109, 110, 111]
            [.is _, .is _, .is _, .is _, .is _, .is _]
            [(2, _), (3, _)]
           ·kernel_rfl
           ·decide
           ·decide
           ·rfl
           ·kernel_rfl
           ·decide +kernel
           iterate 6 (· kernel_rfl)
           ·rfl
           ·exact keepsIs _ rfl
           ·refine ⟨?_, ?_, trivial⟩ <;> (simp; rfl)
           ·repeat
             refine ⟨?_, ?_⟩
             ·intro F V8 hF hd hR
              simp [fixedAt] at hF
              obtain ⟨t2, t3⟩ := hF
              simp [Region.binds, Ent.holds] at hd
              refine ⟨fun _ K hK => ?_, by intro g b h hn; first | (cases h; done) | (cases h; exact absurd (by simp [hd]) hn)⟩
              simp only [Ent.holds, List.getD_cons_zero, List.getD_cons_succ] at hK
              have cc' := hR.cell cc
              have k0' := hR.cell k0
              have k1' := hR.cell k1
              have k2' := hR.cell k2
              have k3' := hR.cell k3
              have k4' := hR.cell k4
              have k5' := hR.cell k5
              have k6' := hR.cell k6
              have d3' := hR.cell d3
              go_simp
              first
               | exact hK _ _ rfl (Ext.refl _)
            exact trivial
           intro X V8 hx hR
           simp only [toldX] at hx
           simp only [fillX, List.setIfInBounds_toArray, List.set_cons_succ, List.set_cons_zero]
           replace HM := hide (HM.out.ext' hR)
           clear cc k0 k1 k2 k3 k4 k5 k6 d3 hR
           go_wp2_with fail
           refine (near_any (some ⟨bz, oz, none⟩) ad (some ⟨bp, op, none⟩) ak aq p.zones.length p.doors.length p.people.length p.keys.length p.squibs.length cz cd cp ck cq p.panel p.wait (j : Int) V8).mono ?_
           rintro e w4 ⟨zb, pb, rfl, hx4, z1, z2, z3⟩
           replace HM := hide (HM.out.ext' hx4)
           have HPAD := hide HM.out.sc.at.pad
           have HSEQ := hide (near_seq p.zones p.squibs (j : Int) zb pb (.slice (some ⟨bz, oz, none⟩) p.zones.length cz) aq cq w4 (by omega) HOK.out.zin HOK.out.qin (fun q hq => by obtain ⟨A, c, h, _⟩ := HPAD.out.kv q hq; exact ⟨A, c, h⟩) z1 z2 z3 HPAD.out.z HPAD.out.q)
           have HRQ := hide (rows_lt HPAD.out.q)
           have HWS := hide HM.out.sc.ext.size
           have HDL := hide (fun D hD => (Array.getElem?_eq_some_iff.1 (HM.out.ds D hD).2).1)
           clear z1 z2 z3 hx4
           go_wp2_with fail
           refine range_okp (gf := 78) (encs := idxEnc) rfl (enters_of Try.func78 (by kernel_rfl) rfl) HSEQ.out
            (by intro k hk; rcases hk with ⟨h0, ho⟩ | h2
                ·have := HRQ.out k h0 ho; omega
                ·omega) (fun _ => rfl)
            (fun pre W' => (∀ q ∈ pre, stormy s q = false) ∧ MvW w B ⟨⟨some ⟨bz, oz, none⟩, cz, ad, cd, some ⟨bp, op, none⟩, cp, ak, ck, aq, cq⟩, some ⟨gz, 0, none⟩, zc, sh, hc, sq, qc⟩ p s W.heap.size #[.int .i64 t, .int .i64 k, .int .i64 i, .int .i64 j, .int .i64 m] [D0] [(⟨gb, 0, none⟩, .int .i64 i), (⟨gb, 1, none⟩, .int .i64 m)] W') (fun _ _ _ => False) (fun ch pre W' => ch = ErrP 173 ∧ (∃ q ∈ pre, stormy s q = true) ∧ MvW w B ⟨⟨some ⟨bz, oz, none⟩, cz, ad, cd, some ⟨bp, op, none⟩, cp, ak, ck, aq, cq⟩, some ⟨gz, 0, none⟩, zc, sh, hc, sq, qc⟩ p s W.heap.size #[.int .i64 t, .int .i64 k, .int .i64 i, .int .i64 j, .int .i64 m] [D0] [(⟨gb, 0, none⟩, .int .i64 i), (⟨gb, 1, none⟩, .int .i64 m)] W')
            (fun s A B h k => ⟨h.1, h.2.turn k HWS.out HDL.out⟩) (fun c s A B h k => h) ⟨(fun q hq => absurd hq (by simp)), HM.out⟩ ?_ ?_ ?_ ?_
           ·intro l0 pre x W0 Wr hszW hsp hI hx0 hokk
            have hxl : x < p.squibs.length := by
             obtain ⟨rest, hr⟩ := hsp
             refine nears_lt (zs := p.zones) (qs := p.squibs) (z := (j : Int)) ?_
             rw [← hr]; simp
            have hxs : x < s.squibs.length := by have := HST.out.lq; omega
            have HPRE := hide hI.1
            replace HM := hide (hI.2.ext' hx0)
            clear hI hx0 hokk hsp
            cases hst : stormy s x with
            | true =>
              have HXS := hide hst
              clear hst
              refine .inr ?_
              simp only [idxEnc]
              gi_wp2
              refine ⟨KeepsFrom.refl _ _, fun W2 hT => ?_⟩
              replace HM := hide (HM.out.turn hT HWS.out HDL.out)
              clear hT
              have cc := Boxed.cell HM.out.pc
              have k12 := HM.out.sc.at.k12
              have k10 := HM.out.sc.at.k10
              obtain ⟨_, _, _, hqrow⟩ := HM.out.sc.at.q.rows
              obtain ⟨b9, o9, u, hA, _, c0, HU⟩ := ints_at hqrow hxs
              try dsimp only at k10 k12 hA
              subst hA
              obtain ⟨stm, hstm⟩ : ∃ v, s.storm = v := ⟨_, rfl⟩
              have HSTM := hide hstm
              rw [hstm] at k12
              clear hstm hqrow
              cases stm with
              | false => exact absurd HXS.out (by unfold stormy; rw [HSTM.out]; simp)
              | true =>
                have hu : (u == 2) = false := by
                 have := HXS.out
                 unfold stormy at this
                 rw [HSTM.out, HU.out] at this
                 simpa using this
                refine wpP_block (wpP_region_lit ?_)
                gi_wp2
                refine ⟨trivial, rfl, (CallsIn.inRound l0 (callsIn_wide.2 (demand_no 173 W2))).mono ?_⟩
                rintro e w5 ⟨rfl, rfl⟩
                exact ⟨rfl, KeepsFrom.refl _ _, rfl, .inr HXS.out, HM.out⟩
            | false =>
              have HXS := hide hst
              clear hst
              refine .inl ?_
              simp only [idxEnc]
              gi_wp2
              refine ⟨KeepsFrom.refl _ _, fun k hk => rfl, fun W2 hT => ?_⟩
              replace HM := hide (HM.out.turn hT HWS.out HDL.out)
              have HALL := hide (show ∀ q ∈ pre ++ [x], stormy s q = false from fun q hq => by
               rcases List.mem_append.1 hq with hq | hq
               ·exact HPRE.out q hq
               ·rw [List.mem_singleton.1 hq]; exact HXS.out)
              clear hT
              have cc := Boxed.cell HM.out.pc
              have k12 := HM.out.sc.at.k12
              have k10 := HM.out.sc.at.k10
              obtain ⟨_, _, _, hqrow⟩ := HM.out.sc.at.q.rows
              obtain ⟨b9, o9, u, hA, _, c0, HU⟩ := ints_at hqrow hxs
              try dsimp only at k10 k12 hA
              subst hA
              obtain ⟨stm, hstm⟩ : ∃ v, s.storm = v := ⟨_, rfl⟩
              have HSTM := hide hstm
              rw [hstm] at k12
              clear hstm hqrow
              cases stm with
              | false =>
                gi_wp2
                refine ⟨trivial, rfl, (CallsIn.inRound l0 (callsIn_wide.2 (demand_ok 173 W2))).mono ?_⟩
                rintro e w5 ⟨rfl, rfl⟩
                gi_wp2
                exact ⟨KeepsFrom.refl _ _, fun k hk => rfl, HALL.out, HM.out⟩
              | true =>
                have hu : (u == 2) = true := by
                 have := HXS.out
                 unfold stormy at this
                 rw [HSTM.out, HU.out] at this
                 simpa using this
                gi_wp2
                refine ⟨trivial, rfl, (CallsIn.inRound l0 (callsIn_wide.2 (demand_ok 173 W2))).mono ?_⟩
                rintro e w5 ⟨rfl, rfl⟩
                gi_wp2
                exact ⟨KeepsFrom.refl _ _, fun k hk => rfl, HALL.out, HM.out⟩
           ·intro D1 xs Wd hD hS hI hK
            have HND := hide (show D0 ≠ D1 from fun e => by have := HDL.out D0 (by simp); omega)
            have HANY := hide (show (nears p.zones p.squibs (j : Int)).any (stormy s) = false by rw [← hS, List.any_eq_false]; intro q hq; rw [hI.1 q hq]; decide)
            replace HM := hide (show MvW w B ⟨⟨some ⟨bz, oz, none⟩, cz, ad, cd, some ⟨bp, op, none⟩, cp, ak, ck, aq, cq⟩, some ⟨gz, 0, none⟩, zc, sh, hc, sq, qc⟩ p s W.heap.size #[.int .i64 t, .int .i64 k, .int .i64 i, .int .i64 j, .int .i64 m] [D1, D0] [(⟨gb, 0, none⟩, .int .i64 i), (⟨gb, 1, none⟩, .int .i64 m)] Wd from ⟨hI.2.sc, hI.2.hb, hI.2.pc, hI.2.pa, fun D' hD' => by
             rcases List.mem_cons.1 hD' with h | h
             ·rw [h]; exact ⟨Nat.le_trans HWS.out hD, hK⟩
             ·exact hI.2.ds D' h, hI.2.gs⟩)
            clear hD hS hI hK HSEQ HRQ HDL HWS HPAD
            have HKE := hide (fun V hV => keyed_any B ⟨⟨some ⟨bz, oz, none⟩, cz, ad, cd, some ⟨bp, op, none⟩, cp, ak, ck, aq, cq⟩, some ⟨gz, 0, none⟩, zc, sh, hc, sq, qc⟩ p s (m : Nat) (j : Int) V hV HOK.out HST.out.lh HST.out.lq (by omega))
            have cc := Boxed.cell HM.out.pc
            have d3 := cell_heap HM.out.pa 3 _ rfl
            cases hk : keyedB p s (m : Nat) (j : Int) with
            | false =>
              rw [hk] at HKE
              have HE := hide (show moveE p s ⟨t, k, i, j, m⟩ = 174 from moveE_2 HGO.out HC1.out (show (0 : Int) ≤ (m : Int) by omega) (show comesE p s (m : Int) (j : Int) = _ from comesE_key HNB.out HANY.out hk) (by decide))
              clear hk
              go_wp2_with fail
              refine (HKE.out _ HM.out.sc.at).mono ?_
              rintro e w7 ⟨rfl, hx⟩
              replace HM := hide (HM.out.ext' hx)
              go_wp2_with (go_at_call 88; refine (demand_no _ _).mono ?_; rintro e w' ⟨rfl, rfl⟩)
              refine leaves_marks (N := w.heap.size) (by simp) [D1, D0] _ (by simp [Ne.symm HND.out]) (fun D hD => HM.out.ds D hD) fun W' hT => ?_
              exact methNo HE.out (by decide) (hT.below HM.out.sc.ext (Nat.le_refl _) HM.out.sc.ext.size)
            | true =>
              rw [hk] at HKE
              have HC2 := hide (comesE_zero (p := p) (s := s) (i := (m : Nat)) HNB.out HANY.out hk)
              clear hk
              go_wp2_with fail
              refine (HKE.out _ HM.out.sc.at).mono ?_
              rintro e w7 ⟨rfl, hx⟩
              replace HM := hide (HM.out.ext' hx)
              clear HKE hx HNB HANY cc d3
              go_wp2_with (go_at_call 88; refine (demand_ok _ _).mono ?_; rintro e w' ⟨rfl, rfl⟩)
              rw [rounds_succ]
              go_wp2_with fail
              refine wp_loop_rounds 3 ?_
              rw [rounds_succ]
              have cg := (HM.out.gs _ (List.mem_cons_self ..)).1
              try dsimp only at cg
              have cg2 := (HM.out.gs _ (List.mem_cons_of_mem _ (List.mem_cons_self ..))).1
              try dsimp only at cg2
              go_wp2_with fail
              clear cg cg2
              have cc := Boxed.cell HM.out.pc
              have k8 := HM.out.sc.at.k8
              try dsimp only at k8
              have d3 := cell_heap HM.out.pa 3 _ rfl
              apply wp_region_t 8 [145, 146, 147, 148, 149, 150, 151, 152]
               [.is _, .is _, .is _, .is _, .is _, .is _, .is _, .is _]
               [(2, _), (3, _), (11, _)]
              ·kernel_rfl
              ·decide
              ·decide
              ·rfl
              ·kernel_rfl
              ·decide +kernel
              iterate 6 (· kernel_rfl)
              ·rfl
              ·exact keepsIs _ rfl
              ·refine ⟨?_, ?_, ?_, trivial⟩ <;> (simp; rfl)
              ·repeat
                refine ⟨?_, ?_⟩
                ·intro F V9 hF hd hR
                 simp [fixedAt] at hF
                 obtain ⟨t2, t3, t11⟩ := hF
                 simp [Region.binds, Ent.holds] at hd
                 refine ⟨fun _ K hK => ?_, by intro g b h hn; first | (cases h; done) | (cases h; exact absurd (by simp [hd]) hn)⟩
                 simp only [Ent.holds, List.getD_cons_zero, List.getD_cons_succ] at hK
                 have cc' := hR.cell cc
                 have k8' := hR.cell k8
                 have d3' := hR.cell d3
                 go_simp
                 first
                  | exact hK _ _ rfl (Ext.refl _)
               exact trivial
              intro X V9 hx hR
              simp only [toldX] at hx
              simp only [fillX, List.setIfInBounds_toArray, List.set_cons_succ, List.set_cons_zero]
              replace HM := hide (HM.out.ext' hR)
              clear cc k8 d3 hR
              have cc := Boxed.cell HM.out.pc
              have k8 := HM.out.sc.at.k8
              try dsimp only at k8
              have d3 := cell_heap HM.out.pa 3 _ rfl
              obtain ⟨g9, e9, _, c9, f9⟩ := HM.out.sc.zlt (i := i) n1
              dsimp only at e9
              cases e9
              go_wp2_with fail
              obtain ⟨VS, hVS⟩ : ∃ V, V9.setCell ⟨gz, i, none⟩ (.int .i64 j) = V := ⟨_, rfl⟩
              rw [hVS]
              replace HM := hide (show MvW w B ⟨⟨some ⟨bz, oz, none⟩, cz, ad, cd, some ⟨bp, op, none⟩, cp, ak, ck, aq, cq⟩, some ⟨gz, 0, none⟩, zc, sh, hc, sq, qc⟩ p _ W.heap.size #[.int .i64 t, .int .i64 k, .int .i64 i, .int .i64 j, .int .i64 m] [D1, D0] [(⟨gb, 0, none⟩, .int .i64 i), (⟨gb, 1, none⟩, .int .i64 m)] VS from hVS ▸ HM.out.setZ rfl HGW.out HGB.out i (j : Int))
              clear hVS c9 f9
              clear cc k8 d3
              rw [rounds_succ]
              have cg := (HM.out.gs _ (List.mem_cons_self ..)).1
              try dsimp only at cg
              have cg2 := (HM.out.gs _ (List.mem_cons_of_mem _ (List.mem_cons_self ..))).1
              try dsimp only at cg2
              go_wp2_with fail
              clear cg cg2
              have cc := Boxed.cell HM.out.pc
              have k8 := HM.out.sc.at.k8
              try dsimp only at k8
              have d3 := cell_heap HM.out.pa 3 _ rfl
              simp only [List.length_set] at k8
              apply wp_region_t 8 [145, 146, 147, 148, 149, 150, 151, 152]
               [.is _, .is _, .is _, .is _, .is _, .is _, .is _, .is _]
               [(2, _), (3, _), (11, _)]
              ·kernel_rfl
              ·decide
              ·decide
              ·rfl
              ·kernel_rfl
              ·decide +kernel
              iterate 6 (· kernel_rfl)
              ·rfl
              ·exact keepsIs _ rfl
              ·refine ⟨?_, ?_, ?_, trivial⟩ <;> (simp; rfl)
              ·repeat
                refine ⟨?_, ?_⟩
                ·intro F V10 hF hd hR
                 simp [fixedAt] at hF
                 obtain ⟨t2, t3, t11⟩ := hF
                 simp [Region.binds, Ent.holds] at hd
                 refine ⟨fun _ K hK => ?_, by intro g b h hn; first | (cases h; done) | (cases h; exact absurd (by simp [hd]) hn)⟩
                 simp only [Ent.holds, List.getD_cons_zero, List.getD_cons_succ] at hK
                 have cc' := hR.cell cc
                 have k8' := hR.cell k8
                 have d3' := hR.cell d3
                 go_simp
                 first
                  | exact hK _ _ rfl (Ext.refl _)
               exact trivial
              intro X V10 hx hR
              simp only [toldX] at hx
              simp only [fillX, List.setIfInBounds_toArray, List.set_cons_succ, List.set_cons_zero]
              replace HM := hide (HM.out.ext' hR)
              clear cc k8 d3 hR
              have cc := Boxed.cell HM.out.pc
              have k8 := HM.out.sc.at.k8
              try dsimp only at k8
              have d3 := cell_heap HM.out.pa 3 _ rfl
              simp only [List.length_set] at k8
              obtain ⟨g9, e9, _, c9, f9⟩ := HM.out.sc.zlt (i := m) (show m < (s.zones.set i (j : Int)).length by rw [List.length_set]; exact n4)
              dsimp only at e9
              cases e9
              go_wp2_with fail
              obtain ⟨VS, hVS⟩ : ∃ V, V10.setCell ⟨gz, m, none⟩ (.int .i64 j) = V := ⟨_, rfl⟩
              rw [hVS]
              replace HM := hide (show MvW w B ⟨⟨some ⟨bz, oz, none⟩, cz, ad, cd, some ⟨bp, op, none⟩, cp, ak, ck, aq, cq⟩, some ⟨gz, 0, none⟩, zc, sh, hc, sq, qc⟩ p _ W.heap.size #[.int .i64 t, .int .i64 k, .int .i64 i, .int .i64 j, .int .i64 m] [D1, D0] [(⟨gb, 0, none⟩, .int .i64 i), (⟨gb, 1, none⟩, .int .i64 m)] VS from hVS ▸ HM.out.setZ rfl HGW.out HGB.out m (j : Int))
              clear hVS c9 f9
              clear cc k8 d3
              obtain ⟨s1, hs1⟩ : ∃ x, movedS s ⟨t, k, i, j, m⟩ = x := ⟨_, rfl⟩
              have HMS := hide hs1
              have hsF : ({ s with zones := (s.zones.set i (j : Int)).set m (j : Int) } : State) = s1 := by rw [← hs1]; unfold movedS; dsimp only; rw [if_neg (by omega)]; rfl
              rw [hsF] at HM
              clear hs1 hsF
              rw [rounds_succ]
              go_wp2_with fail
              have HCR := hide (fun V hV => crowd_any B ⟨⟨some ⟨bz, oz, none⟩, cz, ad, cd, some ⟨bp, op, none⟩, cp, ak, ck, aq, cq⟩, some ⟨gz, 0, none⟩, zc, sh, hc, sq, qc⟩ p s1 (j : Nat) V hV)
              obtain ⟨mc, hmc⟩ : ∃ c, manyN s1.zones (j : Nat) = c := ⟨_, rfl⟩
              rw [hmc] at HCR
              have HMC := hide hmc
              clear hmc
              by_cases q0 : (mc : Int) ≤ zr
              ·have hd : decide ((mc : Int) ≤ zr) = true := decide_eq_true q0
               have HNF := hide (show ¬ (0 ≤ (j : Int) ∧ (zoneOf p (j : Int)).room < manyN (movedS s ⟨t, k, i, j, m⟩).zones (j : Int)) by rw [GZ.out, HMS.out, HMC.out]; dsimp only; omega)
               clear q0
               have cc := Boxed.cell HM.out.pc
               have k0 := HM.out.sc.at.k0
               try dsimp only at k0
               have d3 := cell_heap HM.out.pa 3 _ rfl
               have e6 := HM.out.sc.ext.cell HE6.out
               apply wp_region_t 20 (155 :: 156 :: 157 :: 158 :: 159 :: 160 :: 161 :: 162 :: 163 :: 164 :: 165 :: 166 :: 167 :: 168 :: 169 :: 170 :: 171 :: 172 :: 173 :: 174 :: [])
                (.is _ :: .is _ :: .is _ :: .is _ :: .is _ :: .is _ :: .is _ :: .is _ :: .is _ :: .is _ :: .is _ :: .is _ :: .is _ :: .is _ :: .is _ :: .is _ :: .is _ :: .is _ :: .is _ :: .is _ :: [])
                [(2, _), (3, _)]
               ·kernel_rfl
               ·decide
               ·decide
               ·rfl
               ·kernel_rfl
               ·decide +kernel
               iterate 6 (· kernel_rfl)
               ·rfl
               ·exact keepsIs _ rfl
               ·refine ⟨?_, ?_, trivial⟩ <;> (simp; rfl)
               ·repeat
                 refine ⟨?_, ?_⟩
                 ·intro F V11 hF hd hR
                  simp [fixedAt] at hF
                  obtain ⟨t2, t3⟩ := hF
                  simp [Region.binds, Ent.holds] at hd
                  refine ⟨fun hgd K hK => ?_, by intro g b h hn; first | (cases h; done) | (cases h; refine absurd ?_ hn; simp [hd]; done) | (cases h; exact ⟨rfl, Ext.refl _⟩)⟩
                  first
                   | (refine absurd (hgd _ _ rfl) ?_; simp [hd]; done)
                   | (refine absurd (hgd _ _ rfl) ?_; simp [hd]; simp [undef]; done)
                   | (simp only [Ent.holds, List.getD_cons_zero, List.getD_cons_succ] at hK
                      have cc' := hR.cell cc
                      have k0' := hR.cell k0
                      have d3' := hR.cell d3
                      have e6' := hR.cell e6
                      go_simp
                      first
                       | exact hK _ _ rfl (Ext.refl _)
                       | (go_at_call 92
                          with_reducible refine (HCR.out _ (HM.out.ext' hR).sc.at).mono ?_
                          rintro e w' ⟨rfl, rfl⟩
                          exact hK _ _ rfl (Ext.refl _)))
                exact trivial
               intro X V11 hx hR
               simp only [toldX] at hx
               simp only [fillX, List.setIfInBounds_toArray, List.set_cons_succ, List.set_cons_zero]
               replace HM := hide (HM.out.ext' hR)
               clear cc k0 d3 e6 hR
               clear hd
               have cc := Boxed.cell HM.out.pc
               have d3 := cell_heap HM.out.pa 3 _ rfl
               have HA1 := hide (fun V hV => alone_any B ⟨⟨some ⟨bz, oz, none⟩, cz, ad, cd, some ⟨bp, op, none⟩, cp, ak, ck, aq, cq⟩, some ⟨gz, 0, none⟩, zc, sh, hc, sq, qc⟩ p s1 (j : Int) V hV (by omega))
               have HA2 := hide (fun V hV => alone_any B ⟨⟨some ⟨bz, oz, none⟩, cz, ad, cd, some ⟨bp, op, none⟩, cp, ak, ck, aq, cq⟩, some ⟨gz, 0, none⟩, zc, sh, hc, sq, qc⟩ p s1 y V hV HBY.out.2)
               cases ha1 : aloneB p s1 (j : Int) with
               | true =>
                 have HE := hide (show moveE p s ⟨t, k, i, j, m⟩ = 176 from moveE_pair HGO.out HC1.out (fun _ => HC2.out) HNF.out (by show (aloneB p (movedS s ⟨t, k, i, j, m⟩) (j : Int) || aloneB p (movedS s ⟨t, k, i, j, m⟩) (fromZ s ⟨t, k, i, j, m⟩)) = _; rw [HMS.out, show fromZ s ⟨t, k, i, j, m⟩ = y from HY.out]; rw [ha1]; rfl))
                 rw [ha1] at HA1
                 clear ha1
                 go_wp2_with (first
                  | (go_at_call 88; (with_reducible refine (demand_ok 175 _).mono ?_); rintro e w' ⟨rfl, rfl⟩)
                  | (go_at_call 88; (with_reducible refine (demand_no 176 _).mono ?_); rintro e w' ⟨rfl, rfl⟩)
                  | (go_at_call 93; (first | (with_reducible refine (HA1.out _ HM.out.sc.at).mono ?_) | (with_reducible refine (HA2.out _ HM.out.sc.at).mono ?_)); rintro e w' ⟨rfl, rfl⟩))
                 refine leaves_marks (N := w.heap.size) (by simp) [D1, D0] _ (by simp [Ne.symm HND.out]) (fun D hD => HM.out.ds D hD) fun W' hT => ?_
                 exact methNo HE.out (by decide) (hT.below HM.out.sc.ext (Nat.le_refl _) HM.out.sc.ext.size)
               | false =>
                 rw [ha1] at HA1
                 cases ha2 : aloneB p s1 y with
                 | true =>
                   have HE := hide (show moveE p s ⟨t, k, i, j, m⟩ = 176 from moveE_pair HGO.out HC1.out (fun _ => HC2.out) HNF.out (by show (aloneB p (movedS s ⟨t, k, i, j, m⟩) (j : Int) || aloneB p (movedS s ⟨t, k, i, j, m⟩) (fromZ s ⟨t, k, i, j, m⟩)) = _; rw [HMS.out, show fromZ s ⟨t, k, i, j, m⟩ = y from HY.out]; rw [ha1, ha2]; rfl))
                   rw [ha2] at HA2
                   clear ha1 ha2
                   go_wp2_with (first
                    | (go_at_call 88; (with_reducible refine (demand_ok 175 _).mono ?_); rintro e w' ⟨rfl, rfl⟩)
                    | (go_at_call 88; (with_reducible refine (demand_no 176 _).mono ?_); rintro e w' ⟨rfl, rfl⟩)
                    | (go_at_call 93; (first | (with_reducible refine (HA1.out _ HM.out.sc.at).mono ?_) | (with_reducible refine (HA2.out _ HM.out.sc.at).mono ?_)); rintro e w' ⟨rfl, rfl⟩))
                   refine leaves_marks (N := w.heap.size) (by simp) [D1, D0] _ (by simp [Ne.symm HND.out]) (fun D hD => HM.out.ds D hD) fun W' hT => ?_
                   exact methNo HE.out (by decide) (hT.below HM.out.sc.ext (Nat.le_refl _) HM.out.sc.ext.size)
                 | false =>
                   have HE := hide (show moveE p s ⟨t, k, i, j, m⟩ = 0 from moveE_zero HGO.out HC1.out (fun _ => HC2.out) HNF.out (by show (aloneB p (movedS s ⟨t, k, i, j, m⟩) (j : Int) || aloneB p (movedS s ⟨t, k, i, j, m⟩) (fromZ s ⟨t, k, i, j, m⟩)) = _; rw [HMS.out, show fromZ s ⟨t, k, i, j, m⟩ = y from HY.out]; rw [ha1, ha2]; rfl))
                   rw [ha2] at HA2
                   clear ha1 ha2
                   go_wp2_with (first
                    | (go_at_call 88; (with_reducible refine (demand_ok 175 _).mono ?_); rintro e w' ⟨rfl, rfl⟩)
                    | (go_at_call 88; (with_reducible refine (demand_ok 176 _).mono ?_); rintro e w' ⟨rfl, rfl⟩)
                    | (go_at_call 93; (first | (with_reducible refine (HA1.out _ HM.out.sc.at).mono ?_) | (with_reducible refine (HA2.out _ HM.out.sc.at).mono ?_)); rintro e w' ⟨rfl, rfl⟩))
                   refine leaves_marks (N := w.heap.size) (by simp) [D1, D0] _ (by simp [Ne.symm HND.out]) (fun D hD => HM.out.ds D hD) fun W' hT => ?_
                   exact ⟨unitV, by simp [results, Try.results101, go_sem]; try rfl, methYes HE.out (HMS.out ▸ HM.out.sc.turn hT (Nat.le_refl _))⟩
              ·have hd : decide ((mc : Int) ≤ zr) = false := decide_eq_false q0
               have HE := hide (show moveE p s ⟨t, k, i, j, m⟩ = 175 from moveE_full HGO.out HC1.out (fun _ => HC2.out) ⟨by dsimp only; omega, by dsimp only; rw [GZ.out, HMS.out, HMC.out]; dsimp only; omega⟩)
               clear q0
               have cc := Boxed.cell HM.out.pc
               have k0 := HM.out.sc.at.k0
               try dsimp only at k0
               have d3 := cell_heap HM.out.pa 3 _ rfl
               have e6 := HM.out.sc.ext.cell HE6.out
               apply wp_region_t 20 (155 :: 156 :: 157 :: 158 :: 159 :: 160 :: 161 :: 162 :: 163 :: 164 :: 165 :: 166 :: 167 :: 168 :: 169 :: 170 :: 171 :: 172 :: 173 :: 174 :: [])
                (.is _ :: .is _ :: .is _ :: .is _ :: .is _ :: .is _ :: .is _ :: .is _ :: .is _ :: .is _ :: .is _ :: .is _ :: .is _ :: .is _ :: .is _ :: .is _ :: .is _ :: .is _ :: .is _ :: .is _ :: [])
                [(2, _), (3, _)]
               ·kernel_rfl
               ·decide
               ·decide
               ·rfl
               ·kernel_rfl
               ·decide +kernel
               iterate 6 (· kernel_rfl)
               ·rfl
               ·exact keepsIs _ rfl
               ·refine ⟨?_, ?_, trivial⟩ <;> (simp; rfl)
               ·repeat
                 refine ⟨?_, ?_⟩
                 ·intro F V11 hF hd hR
                  simp [fixedAt] at hF
                  obtain ⟨t2, t3⟩ := hF
                  simp [Region.binds, Ent.holds] at hd
                  refine ⟨fun hgd K hK => ?_, by intro g b h hn; first | (cases h; done) | (cases h; refine absurd ?_ hn; simp [hd]; done) | (cases h; exact ⟨rfl, Ext.refl _⟩)⟩
                  first
                   | (refine absurd (hgd _ _ rfl) ?_; simp [hd]; done)
                   | (refine absurd (hgd _ _ rfl) ?_; simp [hd]; simp [undef]; done)
                   | (simp only [Ent.holds, List.getD_cons_zero, List.getD_cons_succ] at hK
                      have cc' := hR.cell cc
                      have k0' := hR.cell k0
                      have d3' := hR.cell d3
                      have e6' := hR.cell e6
                      go_simp
                      first
                       | exact hK _ _ rfl (Ext.refl _)
                       | (go_at_call 92
                          with_reducible refine (HCR.out _ (HM.out.ext' hR).sc.at).mono ?_
                          rintro e w' ⟨rfl, rfl⟩
                          exact hK _ _ rfl (Ext.refl _)))
                exact trivial
               intro X V11 hx hR
               simp only [toldX] at hx
               simp only [fillX, List.setIfInBounds_toArray, List.set_cons_succ, List.set_cons_zero]
               replace HM := hide (HM.out.ext' hR)
               clear cc k0 d3 e6 hR
               go_wp2_with (go_at_call 88; refine (demand_no _ _).mono ?_; rintro e w' ⟨rfl, rfl⟩)
               refine leaves_marks (N := w.heap.size) (by simp) [D1, D0] _ (by simp [Ne.symm HND.out]) (fun D hD => HM.out.ds D hD) fun W' hT => ?_
               exact methNo HE.out (by decide) (hT.below HM.out.sc.ext (Nat.le_refl _) HM.out.sc.ext.size)
           ·intro D c pre Wd hD hSp hIx hK
            exact hIx.elim
           ·intro D ch pre Wd hD hSp hI hK
            have HANY := hide (show (nears p.zones p.squibs (j : Int)).any (stormy s) = true by obtain ⟨rest, hr⟩ := hSp; obtain ⟨q, hq, hqs⟩ := hI.2.1; rw [← hr, List.any_eq_true]; exact ⟨q, List.mem_append_left _ hq, hqs⟩)
            obtain ⟨rfl, _, hm⟩ := hI
            have HE := hide (show moveE p s ⟨t, k, i, j, m⟩ = 173 from moveE_2 HGO.out HC1.out (show (0 : Int) ≤ (m : Int) by omega) (show comesE p s (m : Int) (j : Int) = _ from comesE_storm HNB.out HANY.out) (by decide))
            refine leaves_marks (N := w.heap.size) (by simp) (D :: [D0]) _ (List.nodup_cons.2 ⟨fun h => absurd (HDL.out _ h) (by omega), by simp⟩) (fun D' hD' => ?_) fun W' hT => ?_
            ·rcases List.mem_cons.1 hD' with h | h
             ·rw [h]; exact ⟨Nat.le_trans HWS.out hD, hK⟩
             ·exact hm.ds D' h
            ·exact methNo HE.out (by decide) (hT.below hm.sc.ext (Nat.le_refl _) hm.sc.ext.size)
          ·have hd : decide (zg ≤ gm) = false := decide_eq_false b0
           have HE := hide (show moveE p s ⟨t, k, i, j, m⟩ = 172 from moveE_2 HGO.out HC1.out (show (0 : Int) ≤ (m : Int) by omega) (show comesE p s (m : Int) (j : Int) = _ from comesE_badge (by omega) (by rw [Ggm.out, GZ.out]; dsimp only; omega)) (by decide))
           clear b0
           have cc := Boxed.cell HM.out.pc
           have k0 := HM.out.sc.at.k0
           have k2 := HM.out.sc.at.k2
           try dsimp only at k0 k2
           have d3 := cell_heap HM.out.pa 3 _ rfl
           have e2 := HM.out.sc.ext.cell HE2.out
           have e5 := HM.out.sc.ext.cell HE5.out
           apply wp_region_t 25 (80 :: 81 :: 82 :: 83 :: 84 :: 85 :: 86 :: 87 :: 88 :: 89 :: 90 :: 91 :: 92 :: 93 :: 94 :: 95 :: 96 :: 97 :: 98 :: 99 :: 100 :: 101 :: 102 :: 103 :: 104 :: [])
            (.is _ :: .is _ :: .is _ :: .is _ :: .is _ :: .is _ :: .is _ :: .is _ :: .is _ :: .is _ :: .is _ :: .is _ :: .is _ :: .is _ :: .is _ :: .is _ :: .is _ :: .is _ :: .is _ :: .is _ :: .is _ :: .is _ :: .is _ :: .is _ :: .is _ :: [])
            [(2, _), (3, _), (8, _)]
           ·kernel_rfl
           ·decide
           ·decide
           ·rfl
           ·kernel_rfl
           ·decide +kernel
           iterate 6 (· kernel_rfl)
           ·rfl
           ·exact keepsIs _ rfl
           ·refine ⟨?_, ?_, ?_, trivial⟩ <;> (simp; rfl)
           ·repeat
             refine ⟨?_, ?_⟩
             ·intro F V7 hF hd hR
              simp [fixedAt] at hF
              obtain ⟨t2, t3, t8⟩ := hF
              simp [Region.binds, Ent.holds] at hd
              refine ⟨fun hgd K hK => ?_, by intro g b h hn; first | (cases h; done) | (cases h; refine absurd ?_ hn; simp [hd]; done) | (cases h; exact ⟨rfl, Ext.refl _⟩)⟩
              first
               | (refine absurd (hgd _ _ rfl) ?_; simp [hd]; done)
               | (refine absurd (hgd _ _ rfl) ?_; simp [hd]; simp [undef]; done)
               | (simp only [Ent.holds, List.getD_cons_zero, List.getD_cons_succ] at hK
                  have cc' := hR.cell cc
                  have k0' := hR.cell k0
                  have k2' := hR.cell k2
                  have d3' := hR.cell d3
                  have e2' := hR.cell e2
                  have e5' := hR.cell e5
                  go_simp
                  first
                   | exact hK _ _ rfl (Ext.refl _))
            exact trivial
           intro X V7 hx hR
           simp only [toldX] at hx
           simp only [fillX, List.setIfInBounds_toArray, List.set_cons_succ, List.set_cons_zero]
           replace HM := hide (HM.out.ext' hR)
           clear cc k0 k2 d3 e2 e5 hR
           go_wp2_with (go_at_call 88; refine (demand_no _ _).mono ?_; rintro e w' ⟨rfl, rfl⟩)
           refine leaves_marks (N := w.heap.size) (by simp) [D0] _ (by simp) (fun D hD => HM.out.ds D hD) fun W' hT => ?_
           exact methNo HE.out (by decide) (hT.below HM.out.sc.ext (Nat.le_refl _) HM.out.sc.ext.size)
       ·intro D c pre Wd hD hSp hIx hK
        exact hIx.elim
       ·intro D ch pre Wd hD hSp hI hK
        have HANY := hide (show (nears p.zones p.squibs (j : Int)).any (stormy s) = true by obtain ⟨rest, hr⟩ := hSp; obtain ⟨q, hq, hqs⟩ := hI.2.1; rw [← hr, List.any_eq_true]; exact ⟨q, List.mem_append_left _ hq, hqs⟩)
        obtain ⟨rfl, _, hm⟩ := hI
        have HE := hide (show moveE p s ⟨t, k, i, j, m⟩ = 173 from moveE_1 HGO.out (show comesE p s (i : Int) (j : Int) = _ from comesE_storm HNB.out HANY.out) (by decide))
        refine leaves_marks (N := w.heap.size) (by simp) (D :: []) _ (List.nodup_cons.2 ⟨fun h => absurd (HDL.out _ h) (by omega), by simp⟩) (fun D' hD' => ?_) fun W' hT => ?_
        ·rcases List.mem_cons.1 hD' with h | h
         ·rw [h]; exact ⟨Nat.le_trans HWS.out hD, hK⟩
         ·exact hm.ds D' h
        ·exact methNo HE.out (by decide) (hT.below hm.sc.ext (Nat.le_refl _) hm.sc.ext.size)
      ·have hd : decide (zg ≤ gi) = false := decide_eq_false b0
       have HE := hide (show moveE p s ⟨t, k, i, j, m⟩ = 172 from moveE_1 HGO.out (show comesE p s (i : Int) (j : Int) = _ from comesE_badge (by omega) (by rw [Ggi.out, GZ.out]; dsimp only; omega)) (by decide))
       clear b0
       have cc := Boxed.cell HM.out.pc
       have k0 := HM.out.sc.at.k0
       have k2 := HM.out.sc.at.k2
       try dsimp only at k0 k2
       have d3 := cell_heap HM.out.pa 3 _ rfl
       have e1 := HM.out.sc.ext.cell HE1.out
       have e5 := HM.out.sc.ext.cell HE5.out
       apply wp_region_t 25 (80 :: 81 :: 82 :: 83 :: 84 :: 85 :: 86 :: 87 :: 88 :: 89 :: 90 :: 91 :: 92 :: 93 :: 94 :: 95 :: 96 :: 97 :: 98 :: 99 :: 100 :: 101 :: 102 :: 103 :: 104 :: [])
        (.is _ :: .is _ :: .is _ :: .is _ :: .is _ :: .is _ :: .is _ :: .is _ :: .is _ :: .is _ :: .is _ :: .is _ :: .is _ :: .is _ :: .is _ :: .is _ :: .is _ :: .is _ :: .is _ :: .is _ :: .is _ :: .is _ :: .is _ :: .is _ :: .is _ :: [])
        [(2, _), (3, _), (8, _)]
       ·kernel_rfl
       ·decide
       ·decide
       ·rfl
       ·kernel_rfl
       ·decide +kernel
       iterate 6 (· kernel_rfl)
       ·rfl
       ·exact keepsIs _ rfl
       ·refine ⟨?_, ?_, ?_, trivial⟩ <;> (simp; rfl)
       ·repeat
         refine ⟨?_, ?_⟩
         ·intro F V5 hF hd hR
          simp [fixedAt] at hF
          obtain ⟨t2, t3, t8⟩ := hF
          simp [Region.binds, Ent.holds] at hd
          refine ⟨fun hgd K hK => ?_, by intro g b h hn; first | (cases h; done) | (cases h; refine absurd ?_ hn; simp [hd]; done) | (cases h; exact ⟨rfl, Ext.refl _⟩)⟩
          first
           | (refine absurd (hgd _ _ rfl) ?_; simp [hd]; done)
           | (refine absurd (hgd _ _ rfl) ?_; simp [hd]; simp [undef]; done)
           | (simp only [Ent.holds, List.getD_cons_zero, List.getD_cons_succ] at hK
              have cc' := hR.cell cc
              have k0' := hR.cell k0
              have k2' := hR.cell k2
              have d3' := hR.cell d3
              have e1' := hR.cell e1
              have e5' := hR.cell e5
              go_simp
              first
               | exact hK _ _ rfl (Ext.refl _))
        exact trivial
       intro X V5 hx hR
       simp only [toldX] at hx
       simp only [fillX, List.setIfInBounds_toArray, List.set_cons_succ, List.set_cons_zero]
       replace HM := hide (HM.out.ext' hR)
       clear cc k0 k2 d3 e1 e5 hR
       go_wp2_with (go_at_call 88; refine (demand_no _ _).mono ?_; rintro e w' ⟨rfl, rfl⟩)
       refine leaves_marks (N := w.heap.size) (by simp) [] _ (by simp) (fun D hD => HM.out.ds D hD) fun W' hT => ?_
       exact methNo HE.out (by decide) (hT.below HM.out.sc.ext (Nat.le_refl _) HM.out.sc.ext.size)
     ·have hd : (x2 == y) = false := by simpa using s0
      have HGO := hide (show goB p s ⟨t, k, i, j, m⟩ = false by unfold goB; rw [show fromZ s ⟨t, k, i, j, m⟩ = y from HY.out]; dsimp only; rw [HDB.out, Int.toNat_natCast, HX2.out]; simp [s0])
      clear s0
      have cc := Boxed.cell HM.out.pc
      have k8 := HM.out.sc.at.k8
      try dsimp only at k8
      have d4 := cell_heap HM.out.pa 4 _ rfl
      obtain ⟨g9, e9, _, c2, _⟩ := HM.out.sc.zlt (i := m) n4
      dsimp only at e9
      cases e9
      rw [HX2.out] at c2
      apply wp_region_t 19 (43 :: 44 :: 45 :: 46 :: 47 :: 48 :: 49 :: 50 :: 51 :: 52 :: 53 :: 54 :: 55 :: 56 :: 57 :: 58 :: 59 :: 60 :: 61 :: [])
       (.is _ :: .is _ :: .is _ :: .is _ :: .is _ :: .is _ :: .is _ :: .is _ :: .is _ :: .is _ :: .is _ :: .is _ :: .is _ :: .is _ :: .is _ :: .is _ :: .is _ :: .is _ :: .is _ :: [])
       [(2, _), (3, _), (4, _), (5, _)]
      ·kernel_rfl
      ·decide
      ·decide
      ·rfl
      ·kernel_rfl
      ·decide +kernel
      iterate 6 (· kernel_rfl)
      ·rfl
      ·exact keepsIs _ rfl
      ·refine ⟨?_, ?_, ?_, ?_, trivial⟩ <;> (simp; rfl)
      ·repeat
        refine ⟨?_, ?_⟩
        ·intro F V4 hF hd hR
         simp [fixedAt] at hF
         obtain ⟨t2, t3, t4, t5⟩ := hF
         simp [Region.binds, Ent.holds] at hd
         refine ⟨fun hgd K hK => ?_, by intro g b h hn; first | (cases h; done) | (cases h; refine absurd ?_ hn; simp [hd]; done) | (cases h; exact ⟨rfl, Ext.refl _⟩)⟩
         first
          | (refine absurd (hgd _ _ rfl) ?_; simp [hd]; done)
          | (refine absurd (hgd _ _ rfl) ?_; simp [hd]; simp [undef]; done)
          | (simp only [Ent.holds, List.getD_cons_zero, List.getD_cons_succ] at hK
             have cc' := hR.cell cc
             have k8' := hR.cell k8
             have d4' := hR.cell d4
             have c2' := hR.cell c2
             go_simp
             first
              | exact hK _ _ rfl (Ext.refl _))
       exact trivial
      intro X V4 hx hR
      simp only [toldX] at hx
      simp only [fillX, List.setIfInBounds_toArray, List.set_cons_succ, List.set_cons_zero]
      replace HM := hide (HM.out.ext' hR)
      clear cc k8 d4 c2 hR
      have HE := hide (show moveE p s ⟨t, k, i, j, m⟩ = 171 from moveE_door HGO.out)
      go_wp2_with (go_at_call 88; refine (demand_no _ _).mono ?_; rintro e w' ⟨rfl, rfl⟩)
      refine leaves_marks (N := w.heap.size) (by simp) [] _ (by simp) (fun D hD => HM.out.ds D hD) fun W' hT => ?_
      exact methNo HE.out (by decide) (hT.below HM.out.sc.ext (Nat.le_refl _) HM.out.sc.ext.size)
   | false =>
     rw [h1] at HC1
     rw [h2] at HC2
     have HDB := hide (show doorB p y (j : Int) = false by unfold doorB; rw [h1, h2]; rfl)
     clear h1 h2
     have cc := Boxed.cell HM.out.pc
     have k1 := HM.out.sc.at.k1
     try dsimp only at k1
     have d3 := cell_heap HM.out.pa 3 _ rfl
     apply wp_region_f (21 :: 22 :: 23 :: 24 :: 25 :: 26 :: 27 :: 28 :: 29 :: 30 :: 31 :: 32 :: 33 :: 34 :: 35 :: 36 :: 37 :: 38 :: 39 :: 40 :: 41 :: 42 :: 5 :: [])
      (.is _ :: .is _ :: .is _ :: .is _ :: .is _ :: .is _ :: .is _ :: .is _ :: .is _ :: .is _ :: .is _ :: .is _ :: .is _ :: .is _ :: .is _ :: .is _ :: .is _ :: .is _ :: .is _ :: .is _ :: .is _ :: .is _ :: .is _ :: [])
      [(2, _), (3, _), (4, _)]
     ·kernel_rfl
     ·decide
     ·rfl
     ·kernel_rfl
     ·decide +kernel
     iterate 4 (· kernel_rfl)
     ·rfl
     ·exact keepsIs _ rfl
     ·refine ⟨?_, ?_, ?_, trivial⟩ <;> (simp; rfl)
     ·repeat
       refine ⟨?_, ?_⟩
       ·intro F V3 hF hd hR
        simp [fixedAt] at hF
        obtain ⟨t2, t3, t4⟩ := hF
        simp [Region.binds, Ent.holds] at hd
        refine ⟨fun hgd K hK => ?_, by intro g b h hn; first | (cases h; done) | (cases h; refine absurd ?_ hn; simp [hd]; done) | (cases h; exact ⟨rfl, Ext.refl _⟩)⟩
        first
         | (refine absurd (hgd _ _ rfl) ?_; simp [hd]; done)
         | (refine absurd (hgd _ _ rfl) ?_; simp [hd]; simp [undef]; done)
         | (simp only [Ent.holds, List.getD_cons_zero, List.getD_cons_succ] at hK
            have cc' := hR.cell cc
            have k1' := hR.cell k1
            have d3' := hR.cell d3
            go_simp
            first
             | exact hK _ _ rfl (Ext.refl _)
             | (go_at_call 113
                with_reducible refine (HC1.out _ (HM.out.ext' hR).sc.at.pad.d).mono ?_
                rintro e w' ⟨rfl, hx⟩
                exact hK _ _ rfl hx)
             | (go_at_call 113
                with_reducible refine (HC2.out _ (HM.out.ext' hR).sc.at.pad.d).mono ?_
                rintro e w' ⟨rfl, hx⟩
                exact hK _ _ rfl hx))
      exact trivial
     intro X V3 hx hR
     simp only [toldX] at hx
     simp only [fillX, List.setIfInBounds_toArray, List.set_cons_succ, List.set_cons_zero]
     replace HM := hide (HM.out.ext' hR)
     clear cc k1 d3 hR HC1 HC2
     go_wp2_with fail
     have cc := Boxed.cell HM.out.pc
     have k8 := HM.out.sc.at.k8
     try dsimp only at k8
     have d4 := cell_heap HM.out.pa 4 _ rfl
     apply wp_region_t 19 (43 :: 44 :: 45 :: 46 :: 47 :: 48 :: 49 :: 50 :: 51 :: 52 :: 53 :: 54 :: 55 :: 56 :: 57 :: 58 :: 59 :: 60 :: 61 :: [])
      (.is _ :: .is _ :: .is _ :: .is _ :: .is _ :: .is _ :: .is _ :: .is _ :: .is _ :: .is _ :: .is _ :: .is _ :: .is _ :: .is _ :: .is _ :: .is _ :: .is _ :: .is _ :: .is _ :: [])
      [(2, _), (3, _), (4, _), (5, _)]
     ·kernel_rfl
     ·decide
     ·decide
     ·rfl
     ·kernel_rfl
     ·decide +kernel
     iterate 6 (· kernel_rfl)
     ·rfl
     ·exact keepsIs _ rfl
     ·refine ⟨?_, ?_, ?_, ?_, trivial⟩ <;> (simp; rfl)
     ·repeat
       refine ⟨?_, ?_⟩
       ·intro F V4 hF hd hR
        simp [fixedAt] at hF
        obtain ⟨t2, t3, t4, t5⟩ := hF
        simp [Region.binds, Ent.holds] at hd
        refine ⟨fun hgd K hK => ?_, by intro g b h hn; first | (cases h; done) | (cases h; refine absurd ?_ hn; simp [hd]; done) | (cases h; exact ⟨rfl, Ext.refl _⟩)⟩
        first
         | (refine absurd (hgd _ _ rfl) ?_; simp [hd]; done)
         | (refine absurd (hgd _ _ rfl) ?_; simp [hd]; simp [undef]; done)
         | (simp only [Ent.holds, List.getD_cons_zero, List.getD_cons_succ] at hK
            have cc' := hR.cell cc
            have k8' := hR.cell k8
            have d4' := hR.cell d4
            go_simp
            first
             | exact hK _ _ rfl (Ext.refl _))
      exact trivial
     intro X V4 hx hR
     simp only [toldX] at hx
     simp only [fillX, List.setIfInBounds_toArray, List.set_cons_succ, List.set_cons_zero]
     replace HM := hide (HM.out.ext' hR)
     clear cc k8 d4 hR
     have HE := hide (show moveE p s ⟨t, k, i, j, m⟩ = 171 by exact moveE_door (by unfold goB; rw [show fromZ s ⟨t, k, i, j, m⟩ = y from HY.out]; dsimp only; rw [HDB.out]; rfl))
     go_wp2_with (go_at_call 88; refine (demand_no _ _).mono ?_; rintro e w' ⟨rfl, rfl⟩)
     refine leaves_marks (N := w.heap.size) (by simp) [] _ (by simp) (fun D hD => HM.out.ds D hD) fun W' hT => ?_
     exact methNo HE.out (by decide) (hT.below HM.out.sc.ext (Nat.le_refl _) HM.out.sc.ext.size)
end Go.Proofs.Ythcnganbnbhhoaa
