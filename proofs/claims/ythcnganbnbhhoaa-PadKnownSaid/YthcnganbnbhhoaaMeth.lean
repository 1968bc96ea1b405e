/- The walks of the acts' methods. -/
import Derived.Test.YthcnganbnbhhoaaSc2
import Derived.Test.YthcnganbnbhhoaaKeyed
namespace Go.Proofs.Ythcnganbnbhhoaa
open Go.RowKit Go.Shelf
/-- How a method ends: the scene's state has turned, or the act is refused by a panic. -/
def MethQ (w : World) (B : Nat) (X : SceneX) (p : Pad) (E : Int) (s' : State) (e : Ending) (W' : World) : Prop :=
 (E = 0 ∧ e = .returned unitV ∧ SceneS w B X p s' W') ∨ (E ≠ 0 ∧ e = .panicked (ErrP E) ∧ Ext w W')
theorem methYes {w : World} {B : Nat} {X : SceneX} {p : Pad} {E : Int} {s' : State} {W' : World} (hE : E = 0) (h : SceneS w B X p s' W') : MethQ w B X p E s' (.returned unitV) W' := .inl ⟨hE, rfl, h⟩
theorem methNo {w : World} {B : Nat} {X : SceneX} {p : Pad} {E : Int} {s' : State} {k : Int} {W' : World} (hE : E = k) (hk : k ≠ 0) (h : Ext w W') : MethQ w B X p E s' (.panicked (ErrP k)) W' := .inr ⟨by rw [hE]; exact hk, by rw [hE], h⟩
/-- The same for what only refuses. -/
def PanQ (w : World) (E : Int) (e : Ending) (w' : World) : Prop := Ext w w' ∧ ((E = 0 ∧ e = .returned unitV) ∨ (E ≠ 0 ∧ e = .panicked (ErrP E)))
theorem panYes {w w' : World} {E : Int} (hE : E = 0) (h : Ext w w') : PanQ w E (.returned unitV) w' := ⟨h, .inl ⟨hE, rfl⟩⟩
theorem panNo {w w' : World} {E k : Int} (hE : E = k) (hk : k ≠ 0) (h : Ext w w') : PanQ w E (.panicked (ErrP k)) w' := ⟨h, .inr ⟨by rw [hE]; exact hk, by rw [hE]⟩⟩
theorem atPanel_both (B : Nat) (X : SceneX) (p : Pad) (s : State) (i : Nat) (w : World) (h : SceneAt w B X p s) (hi : i < s.zones.length) :
 Calls Try.prog 114 #[.pointer (some ⟨B, 0, none⟩), .int .i64 i] w fun e w' => Ext w w' ∧ e = if atPanelB p s i = true then .returned unitV else .panicked (ErrP 171) := by
 cases hq : atPanelB p s i with
 | true => exact (atPanel_ok B X p s i w h hi hq).mono fun e w' ⟨he, hx⟩ => ⟨hx, by rw [he, if_pos rfl]⟩
 | false => exact (atPanel_no B X p s i w h hi hq).mono fun e w' ⟨he, hx⟩ => ⟨hx, by rw [he, if_neg (by decide)]⟩
set_option maxRecDepth 100000 in
set_option maxHeartbeats 4000000 in
/-- take -/
theorem take_any (B : Nat) (X : SceneX) (p : Pad) (s : State) (t k wh : Int) (i j : Nat) (w W : World) (h : SceneS w B X p s W) (hok : PadOk p) (hst : StateOk p s) (hi : (i : Int) < p.people.length) (hj : (j : Int) < p.keys.length) :
 Calls Try.prog 102 #[.pointer (some ⟨B, 0, none⟩), .agg #[.int .i64 t, .int .i64 k, .int .i64 i, .int .i64 j, .int .i64 wh]] W (MethQ w B X p (takeE p s ⟨t, k, i, j, wh⟩) (heldS s j i)) := by
 obtain ⟨⟨az, cz, ad, cd, ap, cp, ak, ck, aq, cq⟩, sz, zc, sh, hc, sq, qc⟩ := X
 have HS := hide h
 have HOK := hide hok
 have HST := hide hst
 have hl1 := HST.out.lz
 have hl2 := HST.out.lh
 have hl3 := HST.out.lq
 clear h hok hst
 have n1 : i < s.zones.length := by omega
 have n2 : j < s.holder.length := by omega
 have L1 := hide hl1
 have L2 := hide hl2
 have L3 := hide hl3
 clear hl1 hl2 hl3
 obtain ⟨gc0, hgc0, hgec0, c0, _⟩ := HS.out.hlt (i := j) (n2)
 dsimp only at hgc0
 subst hgc0
 obtain ⟨x, hx⟩ : ∃ v, s.holder.getD j 0 = v := ⟨_, rfl⟩
 have HX := hide hx
 rw [hx] at c0
 clear hx
 go_enter Try.func102, Try.ntmps102
 go_wp2_with fail
 obtain ⟨W1, hW1⟩ : ∃ W1, W.alloc (.cells #[.int .i64 t, .int .i64 k, .int .i64 i, .int .i64 j, .int .i64 wh] 48) = W1 := ⟨_, rfl⟩
 have hx1 : Ext W W1 := by rw [← hW1]; exact (Ext.refl _).alloc _
 have HA := hide (show Blk W1 W.heap.size 48 #[.int .i64 t, .int .i64 k, .int .i64 i, .int .i64 j, .int .i64 wh] by rw [← hW1]; exact Blk.new _ _ _)
 rw [hW1]
 replace HS := hide (HS.out.ext' hx1)
 clear hW1 hx1
 obtain ⟨g8, e8, _, c8, _⟩ := HS.out.hlt (i := j) n2
 dsimp only at e8
 cases e8
 replace c0 := c8
 rw [HX.out] at c0
 clear c8
 have k8 := HS.out.at.k8
 have k9 := HS.out.at.k9
 try dsimp only at k8 k9
 have d2 := cell_heap HA.out 2 _ rfl
 have d3 := cell_heap HA.out 3 _ rfl
 cases hp : atPanelB p s i with
 | false =>
   refine (atPanel_no B ⟨⟨az, cz, ad, cd, ap, cp, ak, ck, aq, cq⟩, sz, zc, some ⟨gc0, 0, none⟩, hc, sq, qc⟩ p s i W1 HS.out.at n1 hp).mono ?_
   rintro e w2 ⟨rfl, hx⟩
   have HE := hide (show takeE p s ⟨t, k, i, j, wh⟩ = 171 by unfold takeE; dsimp only; rw [if_pos hp])
   clear hp
   replace HS := hide (HS.out.ext' hx)
   go_wp2_with fail
   exact ⟨rfl, methNo HE.out (by decide) HS.out.ext⟩
 | true =>
   refine (atPanel_ok B ⟨⟨az, cz, ad, cd, ap, cp, ak, ck, aq, cq⟩, sz, zc, some ⟨gc0, 0, none⟩, hc, sq, qc⟩ p s i W1 HS.out.at n1 hp).mono ?_
   rintro e w2 ⟨rfl, hx⟩
   have HP := hide hp
   clear hp
   replace k8 := hx.cell k8
   replace k9 := hx.cell k9
   replace d2 := hx.cell d2
   replace d3 := hx.cell d3
   replace c0 := hx.cell c0
   replace HS := hide (HS.out.ext' hx)
   replace HA := hide (HA.out.ext hx)
   clear hx
   go_wp2_with fail
   by_cases x0 : x < 0
   ·have hd : decide (x < 0) = true := decide_eq_true x0
    have HX0 := hide x0
    clear x0
    apply wp_region_t 10 [8, 9, 10, 11, 12, 13, 14, 15, 16, 17]
     [.is _, .is _, .is _, .is _, .is _, .is _, .is _, .is _, .is _, .is _]
     [(0, _), (3, _)]
    ·kernel_rfl
    ·decide
    ·decide
    ·rfl
    ·kernel_rfl
    ·decide +kernel
    iterate 6 (· kernel_rfl)
    ·rfl
    ·exact keepsIs _ rfl
    ·refine ⟨?_, ?_, trivial⟩ <;> (simp; rfl)
    ·repeat
      refine ⟨?_, ?_⟩
      ·intro F W2 hF hd hR
       simp [fixedAt] at hF
       obtain ⟨t0, t3⟩ := hF
       simp [Region.binds, Ent.holds] at hd
       refine ⟨fun _ K hK => ?_, by intro g b h hn; first | (cases h; done) | (cases h; exact absurd (by simp [hd]) hn)⟩
       simp only [Ent.holds, List.getD_cons_zero, List.getD_cons_succ] at hK
       have k8' := hR.cell k8
       have k9' := hR.cell k9
       have d2' := hR.cell d2
       have d3' := hR.cell d3
       have c0' := hR.cell c0
       go_simp
       first
        | exact hK _ _ rfl (Ext.refl _)
     exact trivial
    intro X W2 hx hR
    simp only [toldX] at hx
    simp only [fillX, List.setIfInBounds_toArray, List.set_cons_succ, List.set_cons_zero]
    replace k8 := hR.cell k8
    replace k9 := hR.cell k9
    replace d2 := hR.cell d2
    replace d3 := hR.cell d3
    replace c0 := hR.cell c0
    replace HS := hide (HS.out.ext' hR)
    replace HA := hide (HA.out.ext hR)
    go_wp2_with (go_at_call 88; refine (demand_ok _ _).mono ?_; rintro e w' ⟨rfl, rfl⟩)
    have HT := hide (show ∀ V, Ext W2 V → TellsQ V 116 #[.pointer (some ⟨W.heap.size, 0, none⟩)] p (hasKey p j) from fun V hV kk w1 hk hx => take1_any _ W.heap.size j w1 ((HS.out.at.pad.kv _ (getD_in default hk)).ext (hV.trans hx)) (hx.cell (hV.cell d3)))
    have HAR := hide (fun V (hV : Ext W2 V) => armed_any 116 #[.pointer (some ⟨W.heap.size, 0, none⟩)] (enters_of Try.func116 (by kernel_rfl) rfl) (hasKey p j) B ⟨⟨az, cz, ad, cd, ap, cp, ak, ck, aq, cq⟩, sz, zc, some ⟨gc0, 0, none⟩, hc, sq, qc⟩ p s V (HS.out.ext' hV).at L3.out (HT.out V hV))
    clear hd
    cases ha : armedB s (hasKey p j) with
    | true =>
      rw [ha] at HAR
      have HE := hide (show takeE p s ⟨t, k, i, j, wh⟩ = 177 by unfold takeE; dsimp only; rw [if_neg (by rw [HP.out]; decide)]; rw [if_neg (by rw [Int.toNat_natCast, HX.out]; have := HX0.out; omega)]; rw [if_pos ha])
      clear ha
      refine (HAR.out _ (Ext.refl _)).mono ?_
      rintro e w3 ⟨rfl, hx⟩
      replace HS := hide (HS.out.ext' hx)
      go_wp2_with (go_at_call 88; refine (demand_no _ _).mono ?_; rintro e w' ⟨rfl, rfl⟩)
      exact ⟨rfl, methNo HE.out (by decide) HS.out.ext⟩
    | false =>
      rw [ha] at HAR
      have HAF := hide ha
      clear ha
      refine (HAR.out _ (Ext.refl _)).mono ?_
      rintro e w3 ⟨rfl, hx⟩
      replace k8 := hx.cell k8
      replace k9 := hx.cell k9
      replace d2 := hx.cell d2
      replace d3 := hx.cell d3
      replace c0 := hx.cell c0
      replace HS := hide (HS.out.ext' hx)
      replace HA := hide (HA.out.ext hx)
      clear hx HT HAR
      go_wp2_with (go_at_call 88; refine (demand_ok _ _).mono ?_; rintro e w' ⟨rfl, rfl⟩)
      apply wp_region_t 9 [24, 25, 26, 27, 28, 29, 30, 31, 32]
       [.is _, .is _, .is _, .is _, .is _, .is _, .is _, .is _, .is _]
       [(0, _), (3, _)]
      ·kernel_rfl
      ·decide
      ·decide
      ·rfl
      ·kernel_rfl
      ·decide +kernel
      iterate 6 (· kernel_rfl)
      ·rfl
      ·exact keepsIs _ rfl
      ·refine ⟨?_, ?_, trivial⟩ <;> (simp; rfl)
      ·repeat
        refine ⟨?_, ?_⟩
        ·intro F W3 hF hd hR
         simp [fixedAt] at hF
         obtain ⟨t0, t3⟩ := hF
         simp [Region.binds, Ent.holds] at hd
         refine ⟨fun _ K hK => ?_, by intro g b h hn; first | (cases h; done) | (cases h; exact absurd (by simp [hd]) hn)⟩
         simp only [Ent.holds, List.getD_cons_zero, List.getD_cons_succ] at hK
         have k8' := hR.cell k8
         have k9' := hR.cell k9
         have d2' := hR.cell d2
         have d3' := hR.cell d3
         have c0' := hR.cell c0
         go_simp
         first
          | exact hK _ _ rfl (Ext.refl _)
       exact trivial
      intro X W3 hx hR
      simp only [toldX] at hx
      simp only [fillX, List.setIfInBounds_toArray, List.set_cons_succ, List.set_cons_zero]
      replace k8 := hR.cell k8
      replace k9 := hR.cell k9
      replace d2 := hR.cell d2
      replace d3 := hR.cell d3
      replace c0 := hR.cell c0
      replace HS := hide (HS.out.ext' hR)
      replace HA := hide (HA.out.ext hR)
      obtain ⟨g9, e9, hge9, _, f9⟩ := HS.out.hlt (i := j) n2
      dsimp only at e9
      cases e9
      go_wp2_with fail
      have HE := hide (show takeE p s ⟨t, k, i, j, wh⟩ = 0 by unfold takeE; dsimp only; rw [if_neg (by rw [HP.out]; decide)]; rw [if_neg (by rw [Int.toNat_natCast, HX.out]; have := HX0.out; omega)]; rw [if_neg (by rw [HAF.out]; decide)])
      refine bodyPost_end (results_none rfl _ _ _) rfl ?_
      exact methYes (s' := heldS s j i) HE.out (HS.out.setH rfl hge9 j _)
   ·have hd : decide (x < 0) = false := decide_eq_false x0
    have HE := hide (show takeE p s ⟨t, k, i, j, wh⟩ = 174 by unfold takeE; dsimp only; rw [if_neg (by rw [HP.out]; decide)]; rw [if_pos (by rw [Int.toNat_natCast, HX.out]; omega)])
    clear x0
    apply wp_region_t 10 [8, 9, 10, 11, 12, 13, 14, 15, 16, 17]
     [.is _, .is _, .is _, .is _, .is _, .is _, .is _, .is _, .is _, .is _]
     [(0, _), (3, _)]
    ·kernel_rfl
    ·decide
    ·decide
    ·rfl
    ·kernel_rfl
    ·decide +kernel
    iterate 6 (· kernel_rfl)
    ·rfl
    ·exact keepsIs _ rfl
    ·refine ⟨?_, ?_, trivial⟩ <;> (simp; rfl)
    ·repeat
      refine ⟨?_, ?_⟩
      ·intro F W2 hF hd hR
       simp [fixedAt] at hF
       obtain ⟨t0, t3⟩ := hF
       simp [Region.binds, Ent.holds] at hd
       refine ⟨fun _ K hK => ?_, by intro g b h hn; first | (cases h; done) | (cases h; exact absurd (by simp [hd]) hn)⟩
       simp only [Ent.holds, List.getD_cons_zero, List.getD_cons_succ] at hK
       have k8' := hR.cell k8
       have k9' := hR.cell k9
       have d2' := hR.cell d2
       have d3' := hR.cell d3
       have c0' := hR.cell c0
       go_simp
       first
        | exact hK _ _ rfl (Ext.refl _)
     exact trivial
    intro X W2 hx hR
    simp only [toldX] at hx
    simp only [fillX, List.setIfInBounds_toArray, List.set_cons_succ, List.set_cons_zero]
    replace k8 := hR.cell k8
    replace k9 := hR.cell k9
    replace d2 := hR.cell d2
    replace d3 := hR.cell d3
    replace c0 := hR.cell c0
    replace HS := hide (HS.out.ext' hR)
    replace HA := hide (HA.out.ext hR)
    go_wp2_with (go_at_call 88; refine (demand_no _ _).mono ?_; rintro e w' ⟨rfl, rfl⟩)
    exact ⟨rfl, methNo HE.out (by decide) HS.out.ext⟩
set_option maxRecDepth 100000 in
set_option maxHeartbeats 4000000 in
/-- put -/
theorem put_any (B : Nat) (X : SceneX) (p : Pad) (s : State) (t k wh : Int) (i j : Nat) (w W : World) (h : SceneS w B X p s W) (hok : PadOk p) (hst : StateOk p s) (hi : (i : Int) < p.people.length) (hj : (j : Int) < p.keys.length) :
 Calls Try.prog 103 #[.pointer (some ⟨B, 0, none⟩), .agg #[.int .i64 t, .int .i64 k, .int .i64 i, .int .i64 j, .int .i64 wh]] W (MethQ w B X p (putE p s ⟨t, k, i, j, wh⟩) (heldS s j (-1))) := by
 obtain ⟨⟨az, cz, ad, cd, ap, cp, ak, ck, aq, cq⟩, sz, zc, sh, hc, sq, qc⟩ := X
 have HS := hide h
 have HOK := hide hok
 have HST := hide hst
 have hl1 := HST.out.lz
 have hl2 := HST.out.lh
 have hl3 := HST.out.lq
 clear h hok hst
 have n1 : i < s.zones.length := by omega
 have n2 : j < s.holder.length := by omega
 have L1 := hide hl1
 have L2 := hide hl2
 have L3 := hide hl3
 clear hl1 hl2 hl3
 obtain ⟨gc0, hgc0, hgec0, c0, _⟩ := HS.out.hlt (i := j) (n2)
 dsimp only at hgc0
 subst hgc0
 obtain ⟨x, hx⟩ : ∃ v, s.holder.getD j 0 = v := ⟨_, rfl⟩
 have HX := hide hx
 rw [hx] at c0
 clear hx
 go_enter Try.func103, Try.ntmps103
 go_wp2_with fail
 obtain ⟨W1, hW1⟩ : ∃ W1, W.alloc (.cells #[.int .i64 t, .int .i64 k, .int .i64 i, .int .i64 j, .int .i64 wh] 48) = W1 := ⟨_, rfl⟩
 have hx1 : Ext W W1 := by rw [← hW1]; exact (Ext.refl _).alloc _
 have HA := hide (show Blk W1 W.heap.size 48 #[.int .i64 t, .int .i64 k, .int .i64 i, .int .i64 j, .int .i64 wh] by rw [← hW1]; exact Blk.new _ _ _)
 rw [hW1]
 replace HS := hide (HS.out.ext' hx1)
 clear hW1 hx1
 obtain ⟨g8, e8, _, c8, _⟩ := HS.out.hlt (i := j) n2
 dsimp only at e8
 cases e8
 replace c0 := c8
 rw [HX.out] at c0
 clear c8
 have k8 := HS.out.at.k8
 have k9 := HS.out.at.k9
 try dsimp only at k8 k9
 have d2 := cell_heap HA.out 2 _ rfl
 have d3 := cell_heap HA.out 3 _ rfl
 cases hp : atPanelB p s i with
 | false =>
   refine (atPanel_no B ⟨⟨az, cz, ad, cd, ap, cp, ak, ck, aq, cq⟩, sz, zc, some ⟨gc0, 0, none⟩, hc, sq, qc⟩ p s i W1 HS.out.at n1 hp).mono ?_
   rintro e w2 ⟨rfl, hx⟩
   have HE := hide (show putE p s ⟨t, k, i, j, wh⟩ = 171 by unfold putE; dsimp only; rw [if_pos hp])
   clear hp
   replace HS := hide (HS.out.ext' hx)
   go_wp2_with fail
   exact ⟨rfl, methNo HE.out (by decide) HS.out.ext⟩
 | true =>
   refine (atPanel_ok B ⟨⟨az, cz, ad, cd, ap, cp, ak, ck, aq, cq⟩, sz, zc, some ⟨gc0, 0, none⟩, hc, sq, qc⟩ p s i W1 HS.out.at n1 hp).mono ?_
   rintro e w2 ⟨rfl, hx⟩
   have HP := hide hp
   clear hp
   replace k8 := hx.cell k8
   replace k9 := hx.cell k9
   replace d2 := hx.cell d2
   replace d3 := hx.cell d3
   replace c0 := hx.cell c0
   replace HS := hide (HS.out.ext' hx)
   replace HA := hide (HA.out.ext hx)
   clear hx
   go_wp2_with fail
   by_cases x0 : x = (i : Int)
   ·have hd : (x == (i : Int)) = true := by simpa using x0
    have HX0 := hide x0
    clear x0
    apply wp_region_t 12 [8, 9, 10, 11, 12, 13, 14, 15, 16, 17, 18, 19]
     [.is _, .is _, .is _, .is _, .is _, .is _, .is _, .is _, .is _, .is _, .is _, .is _]
     [(0, _), (3, _)]
    ·kernel_rfl
    ·decide
    ·decide
    ·rfl
    ·kernel_rfl
    ·decide +kernel
    iterate 6 (· kernel_rfl)
    ·rfl
    ·exact keepsIs _ rfl
    ·refine ⟨?_, ?_, trivial⟩ <;> (simp; rfl)
    ·repeat
      refine ⟨?_, ?_⟩
      ·intro F W2 hF hd hR
       simp [fixedAt] at hF
       obtain ⟨t0, t3⟩ := hF
       simp [Region.binds, Ent.holds] at hd
       refine ⟨fun _ K hK => ?_, by intro g b h hn; first | (cases h; done) | (cases h; exact absurd (by simp [hd]) hn)⟩
       simp only [Ent.holds, List.getD_cons_zero, List.getD_cons_succ] at hK
       have k8' := hR.cell k8
       have k9' := hR.cell k9
       have d2' := hR.cell d2
       have d3' := hR.cell d3
       have c0' := hR.cell c0
       go_simp
       first
        | exact hK _ _ rfl (Ext.refl _)
     exact trivial
    intro X W2 hx hR
    simp only [toldX] at hx
    simp only [fillX, List.setIfInBounds_toArray, List.set_cons_succ, List.set_cons_zero]
    replace k8 := hR.cell k8
    replace k9 := hR.cell k9
    replace d2 := hR.cell d2
    replace d3 := hR.cell d3
    replace c0 := hR.cell c0
    replace HS := hide (HS.out.ext' hR)
    replace HA := hide (HA.out.ext hR)
    go_wp2_with (go_at_call 88; refine (demand_ok _ _).mono ?_; rintro e w' ⟨rfl, rfl⟩)
    apply wp_region_t 7 [21, 22, 23, 24, 25, 26, 27]
     [.is _, .is _, .is _, .is _, .is _, .is _, .is _]
     [(0, _), (3, _)]
    ·kernel_rfl
    ·decide
    ·decide
    ·rfl
    ·kernel_rfl
    ·decide +kernel
    iterate 6 (· kernel_rfl)
    ·rfl
    ·exact keepsIs _ rfl
    ·refine ⟨?_, ?_, trivial⟩ <;> (simp; rfl)
    ·repeat
      refine ⟨?_, ?_⟩
      ·intro F W3 hF hd hR
       simp [fixedAt] at hF
       obtain ⟨t0, t3⟩ := hF
       simp [Region.binds, Ent.holds] at hd
       refine ⟨fun _ K hK => ?_, by intro g b h hn; first | (cases h; done) | (cases h; exact absurd (by simp [hd]) hn)⟩
       simp only [Ent.holds, List.getD_cons_zero, List.getD_cons_succ] at hK
       have k8' := hR.cell k8
       have k9' := hR.cell k9
       have d2' := hR.cell d2
       have d3' := hR.cell d3
       have c0' := hR.cell c0
       go_simp
       first
        | exact hK _ _ rfl (Ext.refl _)
     exact trivial
    intro X W3 hx hR
    simp only [toldX] at hx
    simp only [fillX, List.setIfInBounds_toArray, List.set_cons_succ, List.set_cons_zero]
    replace k8 := hR.cell k8
    replace k9 := hR.cell k9
    replace d2 := hR.cell d2
    replace d3 := hR.cell d3
    replace c0 := hR.cell c0
    replace HS := hide (HS.out.ext' hR)
    replace HA := hide (HA.out.ext hR)
    obtain ⟨g9, e9, hge9, _, f9⟩ := HS.out.hlt (i := j) n2
    dsimp only at e9
    cases e9
    go_wp2_with fail
    have HE := hide (show putE p s ⟨t, k, i, j, wh⟩ = 0 by unfold putE; dsimp only; rw [if_neg (by rw [HP.out]; decide)]; rw [if_neg (by rw [Int.toNat_natCast, HX.out]; exact fun h => h HX0.out)])
    refine bodyPost_end (results_none rfl _ _ _) rfl ?_
    exact methYes (s' := heldS s j (-1)) HE.out (HS.out.setH rfl hge9 j _)
   ·have hd : (x == (i : Int)) = false := by simpa using x0
    have HE := hide (show putE p s ⟨t, k, i, j, wh⟩ = 174 by unfold putE; dsimp only; rw [if_neg (by rw [HP.out]; decide)]; rw [if_pos (by rw [Int.toNat_natCast, HX.out]; exact x0)])
    clear x0
    apply wp_region_t 12 [8, 9, 10, 11, 12, 13, 14, 15, 16, 17, 18, 19]
     [.is _, .is _, .is _, .is _, .is _, .is _, .is _, .is _, .is _, .is _, .is _, .is _]
     [(0, _), (3, _)]
    ·kernel_rfl
    ·decide
    ·decide
    ·rfl
    ·kernel_rfl
    ·decide +kernel
    iterate 6 (· kernel_rfl)
    ·rfl
    ·exact keepsIs _ rfl
    ·refine ⟨?_, ?_, trivial⟩ <;> (simp; rfl)
    ·repeat
      refine ⟨?_, ?_⟩
      ·intro F W2 hF hd hR
       simp [fixedAt] at hF
       obtain ⟨t0, t3⟩ := hF
       simp [Region.binds, Ent.holds] at hd
       refine ⟨fun _ K hK => ?_, by intro g b h hn; first | (cases h; done) | (cases h; exact absurd (by simp [hd]) hn)⟩
       simp only [Ent.holds, List.getD_cons_zero, List.getD_cons_succ] at hK
       have k8' := hR.cell k8
       have k9' := hR.cell k9
       have d2' := hR.cell d2
       have d3' := hR.cell d3
       have c0' := hR.cell c0
       go_simp
       first
        | exact hK _ _ rfl (Ext.refl _)
     exact trivial
    intro X W2 hx hR
    simp only [toldX] at hx
    simp only [fillX, List.setIfInBounds_toArray, List.set_cons_succ, List.set_cons_zero]
    replace k8 := hR.cell k8
    replace k9 := hR.cell k9
    replace d2 := hR.cell d2
    replace d3 := hR.cell d3
    replace c0 := hR.cell c0
    replace HS := hide (HS.out.ext' hR)
    replace HA := hide (HA.out.ext hR)
    go_wp2_with (go_at_call 88; refine (demand_no _ _).mono ?_; rintro e w' ⟨rfl, rfl⟩)
    exact ⟨rfl, methNo HE.out (by decide) HS.out.ext⟩
set_option maxRecDepth 100000 in
set_option maxHeartbeats 4000000 in
/-- disarm -/
theorem disarm_any (B : Nat) (X : SceneX) (p : Pad) (s : State) (t k wh : Int) (i j : Nat) (w W : World) (h : SceneS w B X p s W) (hok : PadOk p) (hst : StateOk p s) (hi : (i : Int) < p.people.length) (hj : (j : Int) < p.squibs.length) :
 Calls Try.prog 106 #[.pointer (some ⟨B, 0, none⟩), .agg #[.int .i64 t, .int .i64 k, .int .i64 i, .int .i64 j, .int .i64 wh]] W (MethQ w B X p (disarmE p s ⟨t, k, i, j, wh⟩) (squibS s j 0)) := by
 obtain ⟨⟨az, cz, ad, cd, ap, cp, ak, ck, aq, cq⟩, sz, zc, sh, hc, sq, qc⟩ := X
 have HS := hide h
 have HOK := hide hok
 have HST := hide hst
 have hl1 := HST.out.lz
 have hl2 := HST.out.lh
 have hl3 := HST.out.lq
 clear h hok hst
 have n1 : i < s.zones.length := by omega
 have n2 : j < s.squibs.length := by omega
 have L1 := hide hl1
 have L2 := hide hl2
 have L3 := hide hl3
 clear hl1 hl2 hl3
 obtain ⟨gc0, hgc0, hgec0, c0, _⟩ := HS.out.qlt (i := j) (n2)
 dsimp only at hgc0
 subst hgc0
 obtain ⟨x, hx⟩ : ∃ v, s.squibs.getD j 0 = v := ⟨_, rfl⟩
 have HX := hide hx
 rw [hx] at c0
 clear hx
 go_enter Try.func106, Try.ntmps106
 go_wp2_with fail
 obtain ⟨W1, hW1⟩ : ∃ W1, W.alloc (.cells #[.int .i64 t, .int .i64 k, .int .i64 i, .int .i64 j, .int .i64 wh] 48) = W1 := ⟨_, rfl⟩
 have hx1 : Ext W W1 := by rw [← hW1]; exact (Ext.refl _).alloc _
 have HA := hide (show Blk W1 W.heap.size 48 #[.int .i64 t, .int .i64 k, .int .i64 i, .int .i64 j, .int .i64 wh] by rw [← hW1]; exact Blk.new _ _ _)
 rw [hW1]
 replace HS := hide (HS.out.ext' hx1)
 clear hW1 hx1
 obtain ⟨g8, e8, _, c8, _⟩ := HS.out.qlt (i := j) n2
 dsimp only at e8
 cases e8
 replace c0 := c8
 rw [HX.out] at c0
 clear c8
 have k8 := HS.out.at.k8
 have k10 := HS.out.at.k10
 try dsimp only at k8 k10
 have d2 := cell_heap HA.out 2 _ rfl
 have d3 := cell_heap HA.out 3 _ rfl
 cases hp : atPanelB p s i with
 | false =>
   refine (atPanel_no B ⟨⟨az, cz, ad, cd, ap, cp, ak, ck, aq, cq⟩, sz, zc, sh, hc, some ⟨gc0, 0, none⟩, qc⟩ p s i W1 HS.out.at n1 hp).mono ?_
   rintro e w2 ⟨rfl, hx⟩
   have HE := hide (show disarmE p s ⟨t, k, i, j, wh⟩ = 171 by unfold disarmE; dsimp only; rw [if_pos hp])
   clear hp
   replace HS := hide (HS.out.ext' hx)
   go_wp2_with fail
   exact ⟨rfl, methNo HE.out (by decide) HS.out.ext⟩
 | true =>
   refine (atPanel_ok B ⟨⟨az, cz, ad, cd, ap, cp, ak, ck, aq, cq⟩, sz, zc, sh, hc, some ⟨gc0, 0, none⟩, qc⟩ p s i W1 HS.out.at n1 hp).mono ?_
   rintro e w2 ⟨rfl, hx⟩
   have HP := hide hp
   clear hp
   replace k8 := hx.cell k8
   replace k10 := hx.cell k10
   replace d2 := hx.cell d2
   replace d3 := hx.cell d3
   replace c0 := hx.cell c0
   replace HS := hide (HS.out.ext' hx)
   replace HA := hide (HA.out.ext hx)
   clear hx
   go_wp2_with fail
   by_cases x0 : x = 1
   ·have hd : (x == 1) = true := by simpa using x0
    have HX0 := hide x0
    clear x0
    apply wp_region_t 10 [8, 9, 10, 11, 12, 13, 14, 15, 16, 17]
     [.is _, .is _, .is _, .is _, .is _, .is _, .is _, .is _, .is _, .is _]
     [(0, _), (3, _)]
    ·kernel_rfl
    ·decide
    ·decide
    ·rfl
    ·kernel_rfl
    ·decide +kernel
    iterate 6 (· kernel_rfl)
    ·rfl
    ·exact keepsIs _ rfl
    ·refine ⟨?_, ?_, trivial⟩ <;> (simp; rfl)
    ·repeat
      refine ⟨?_, ?_⟩
      ·intro F W2 hF hd hR
       simp [fixedAt] at hF
       obtain ⟨t0, t3⟩ := hF
       simp [Region.binds, Ent.holds] at hd
       refine ⟨fun _ K hK => ?_, by intro g b h hn; first | (cases h; done) | (cases h; exact absurd (by simp [hd]) hn)⟩
       simp only [Ent.holds, List.getD_cons_zero, List.getD_cons_succ] at hK
       have k8' := hR.cell k8
       have k10' := hR.cell k10
       have d2' := hR.cell d2
       have d3' := hR.cell d3
       have c0' := hR.cell c0
       go_simp
       first
        | exact hK _ _ rfl (Ext.refl _)
     exact trivial
    intro X W2 hx hR
    simp only [toldX] at hx
    simp only [fillX, List.setIfInBounds_toArray, List.set_cons_succ, List.set_cons_zero]
    replace k8 := hR.cell k8
    replace k10 := hR.cell k10
    replace d2 := hR.cell d2
    replace d3 := hR.cell d3
    replace c0 := hR.cell c0
    replace HS := hide (HS.out.ext' hR)
    replace HA := hide (HA.out.ext hR)
    go_wp2_with (go_at_call 88; refine (demand_ok _ _).mono ?_; rintro e w' ⟨rfl, rfl⟩)
    apply wp_region_t 7 [19, 20, 21, 22, 23, 24, 25]
     [.is _, .is _, .is _, .is _, .is _, .is _, .is _]
     [(0, _), (3, _)]
    ·kernel_rfl
    ·decide
    ·decide
    ·rfl
    ·kernel_rfl
    ·decide +kernel
    iterate 6 (· kernel_rfl)
    ·rfl
    ·exact keepsIs _ rfl
    ·refine ⟨?_, ?_, trivial⟩ <;> (simp; rfl)
    ·repeat
      refine ⟨?_, ?_⟩
      ·intro F W3 hF hd hR
       simp [fixedAt] at hF
       obtain ⟨t0, t3⟩ := hF
       simp [Region.binds, Ent.holds] at hd
       refine ⟨fun _ K hK => ?_, by intro g b h hn; first | (cases h; done) | (cases h; exact absurd (by simp [hd]) hn)⟩
       simp only [Ent.holds, List.getD_cons_zero, List.getD_cons_succ] at hK
       have k8' := hR.cell k8
       have k10' := hR.cell k10
       have d2' := hR.cell d2
       have d3' := hR.cell d3
       have c0' := hR.cell c0
       go_simp
       first
        | exact hK _ _ rfl (Ext.refl _)
     exact trivial
    intro X W3 hx hR
    simp only [toldX] at hx
    simp only [fillX, List.setIfInBounds_toArray, List.set_cons_succ, List.set_cons_zero]
    replace k8 := hR.cell k8
    replace k10 := hR.cell k10
    replace d2 := hR.cell d2
    replace d3 := hR.cell d3
    replace c0 := hR.cell c0
    replace HS := hide (HS.out.ext' hR)
    replace HA := hide (HA.out.ext hR)
    obtain ⟨g9, e9, hge9, _, f9⟩ := HS.out.qlt (i := j) n2
    dsimp only at e9
    cases e9
    go_wp2_with fail
    have HE := hide (show disarmE p s ⟨t, k, i, j, wh⟩ = 0 by unfold disarmE; dsimp only; rw [if_neg (by rw [HP.out]; decide)]; rw [if_neg (by rw [Int.toNat_natCast, HX.out]; exact fun h => h HX0.out)])
    refine bodyPost_end (results_none rfl _ _ _) rfl ?_
    exact methYes (s' := squibS s j 0) HE.out (HS.out.setQ rfl hge9 j _)
   ·have hd : (x == 1) = false := by simpa using x0
    have HE := hide (show disarmE p s ⟨t, k, i, j, wh⟩ = 177 by unfold disarmE; dsimp only; rw [if_neg (by rw [HP.out]; decide)]; rw [if_pos (by rw [Int.toNat_natCast, HX.out]; exact x0)])
    clear x0
    apply wp_region_t 10 [8, 9, 10, 11, 12, 13, 14, 15, 16, 17]
     [.is _, .is _, .is _, .is _, .is _, .is _, .is _, .is _, .is _, .is _]
     [(0, _), (3, _)]
    ·kernel_rfl
    ·decide
    ·decide
    ·rfl
    ·kernel_rfl
    ·decide +kernel
    iterate 6 (· kernel_rfl)
    ·rfl
    ·exact keepsIs _ rfl
    ·refine ⟨?_, ?_, trivial⟩ <;> (simp; rfl)
    ·repeat
      refine ⟨?_, ?_⟩
      ·intro F W2 hF hd hR
       simp [fixedAt] at hF
       obtain ⟨t0, t3⟩ := hF
       simp [Region.binds, Ent.holds] at hd
       refine ⟨fun _ K hK => ?_, by intro g b h hn; first | (cases h; done) | (cases h; exact absurd (by simp [hd]) hn)⟩
       simp only [Ent.holds, List.getD_cons_zero, List.getD_cons_succ] at hK
       have k8' := hR.cell k8
       have k10' := hR.cell k10
       have d2' := hR.cell d2
       have d3' := hR.cell d3
       have c0' := hR.cell c0
       go_simp
       first
        | exact hK _ _ rfl (Ext.refl _)
     exact trivial
    intro X W2 hx hR
    simp only [toldX] at hx
    simp only [fillX, List.setIfInBounds_toArray, List.set_cons_succ, List.set_cons_zero]
    replace k8 := hR.cell k8
    replace k10 := hR.cell k10
    replace d2 := hR.cell d2
    replace d3 := hR.cell d3
    replace c0 := hR.cell c0
    replace HS := hide (HS.out.ext' hR)
    replace HA := hide (HA.out.ext hR)
    go_wp2_with (go_at_call 88; refine (demand_no _ _).mono ?_; rintro e w' ⟨rfl, rfl⟩)
    exact ⟨rfl, methNo HE.out (by decide) HS.out.ext⟩
end Go.Proofs.Ythcnganbnbhhoaa
