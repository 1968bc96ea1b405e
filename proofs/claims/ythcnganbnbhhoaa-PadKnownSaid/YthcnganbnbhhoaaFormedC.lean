/- The walk of formed, the last ends. -/
import Derived.Test.YthcnganbnbhhoaaSc3
namespace Go.Proofs.Ythcnganbnbhhoaa
open Go.RowKit Go.Shelf
set_option maxRecDepth 100000 in
set_option maxHeartbeats 2000000 in
theorem formed_c3 (B : Nat) (X : SceneX) (p : Pad) (s : State) (w : World) (h : SceneAt w B X p s) (ha1 : (outB s.now 0 100000) = false) (ha2 : (outB s.siren (-1) s.now) = false) (hl1 : (decide (s.zones.length ≠ p.people.length)) = false) (hl2 : (decide (s.holder.length ≠ p.keys.length)) = false) (hl3 : (decide (s.squibs.length ≠ p.squibs.length)) = false) (hc1 : (anyB (fun k => outB (s.zones.getD k 0) (-1) ((p.zones.length : Int) - 1)) s.zones.length) = false) (hc2 : (anyB (fun k => outB (s.holder.getD k 0) (-1) ((p.people.length : Int) - 1)) s.holder.length) = false) (hc3 : (anyB (fun k => outB (s.squibs.getD k 0) 0 2) s.squibs.length) = true) :
 Calls Try.prog 68 #[.pointer (some ⟨B, 0, none⟩)] w fun e w' => e = .returned (.bool (formedB p s)) ∧ Ext w w' := by
 obtain ⟨⟨az, cz, ad, cd, ap, cp, ak, ck, aq, cq⟩, sz, zc, sh, hc, sq, qc⟩ := X
 have HSC := hide h
 have k0 := h.k0
 have k1 := h.k1
 have k2 := h.k2
 have k3 := h.k3
 have k4 := h.k4
 have k5 := h.k5
 have k6 := h.k6
 have k7 := h.k7
 have k8 := h.k8
 have k9 := h.k9
 have k10 := h.k10
 have k11 := h.k11
 dsimp only at k0 k1 k2 k3 k4 k5 k6 k7 k8 k9 k10 k11
 have hz1 := h.pad.z.rows
 have hz2 := h.pad.x.rows
 dsimp only at hz1 hz2
 have hn1 : p.zones.length ≤ 9223372036854775807 := by omega
 have hn2 : p.people.length ≤ 9223372036854775807 := by omega
 have wz1 : IntKind.i64.wrap ((p.zones.length : Int) - 1) = (p.zones.length : Int) - 1 := by rw [IntKind.wrap_i64]; omega
 have wz2 : IntKind.i64.wrap ((p.people.length : Int) - 1) = (p.people.length : Int) - 1 := by rw [IntKind.wrap_i64]; omega
 have HA1 := hide (fun V => out_any s.now 0 100000 V)
 have HA2 := hide (fun V => out_any s.siren (-1) s.now V)
 have HC1 := hide (fun (V : World) (fv : Value) (_ : True) (hf : NotV (-1) ((p.zones.length : Int) - 1) fv V) (hs : SceneAt V B ⟨⟨az, cz, ad, cd, ap, cp, ak, ck, aq, cq⟩, sz, zc, sh, hc, sq, qc⟩ p s) => contains_not (-1) ((p.zones.length : Int) - 1) fv _ s.zones V hf hs.z)
 have HC2 := hide (fun (V : World) (fv : Value) (_ : True) (hf : NotV (-1) ((p.people.length : Int) - 1) fv V) (hs : SceneAt V B ⟨⟨az, cz, ad, cd, ap, cp, ak, ck, aq, cq⟩, sz, zc, sh, hc, sq, qc⟩ p s) => contains_not (-1) ((p.people.length : Int) - 1) fv _ s.holder V hf hs.h)
 have HC3 := hide (fun (V : World) (fv : Value) (_ : True) (hf : NotV 0 2 fv V) (hs : SceneAt V B ⟨⟨az, cz, ad, cd, ap, cp, ak, ck, aq, cq⟩, sz, zc, sh, hc, sq, qc⟩ p s) => contains_not 0 2 fv _ s.squibs V hf hs.q)
 clear h hz1 hz2
 have hl10 : s.zones.length = p.people.length := by have := hl1; simpa using this
 have hl1' : (((s.zones.length : Nat) : Int) != ((p.people.length : Nat) : Int)) = false := by rw [bne_eq_false_iff_eq]; omega
 have hl1'' : decide (s.zones.length = p.people.length) = true := by rw [decide_eq_true_iff]; exact hl10
 have hl13 : (((s.zones.length : Nat) : Int) == ((p.people.length : Nat) : Int)) = true := by rw [beq_iff_eq]; omega
 clear hl10
 have hl20 : s.holder.length = p.keys.length := by have := hl2; simpa using this
 have hl2' : (((s.holder.length : Nat) : Int) != ((p.keys.length : Nat) : Int)) = false := by rw [bne_eq_false_iff_eq]; omega
 have hl2'' : decide (s.holder.length = p.keys.length) = true := by rw [decide_eq_true_iff]; exact hl20
 have hl23 : (((s.holder.length : Nat) : Int) == ((p.keys.length : Nat) : Int)) = true := by rw [beq_iff_eq]; omega
 clear hl20
 have hl30 : s.squibs.length = p.squibs.length := by have := hl3; simpa using this
 have hl3' : (((s.squibs.length : Nat) : Int) != ((p.squibs.length : Nat) : Int)) = false := by rw [bne_eq_false_iff_eq]; omega
 have hl3'' : decide (s.squibs.length = p.squibs.length) = true := by rw [decide_eq_true_iff]; exact hl30
 have hl33 : (((s.squibs.length : Nat) : Int) == ((p.squibs.length : Nat) : Int)) = true := by rw [beq_iff_eq]; omega
 clear hl30
 rw [ha1] at HA1
 rw [ha2] at HA2
 rw [hc1] at HC1
 rw [hc2] at HC2
 rw [hc3] at HC3
 have HE := hide (show formedB p s = false by unfold formedB; rw [ha1, ha2, hl1, hl2, hl3, hc1, hc2, hc3]; rfl)
 clear ha1 ha2 hl1 hl2 hl3 hc1 hc2 hc3
 go_enter Try.func68, Try.ntmps68
 go_wp2_with fail
 obtain ⟨W1, hW1⟩ : ∃ W1, w.alloc (.cells #[.slice az p.zones.length cz, .slice ad p.doors.length cd, .slice ap p.people.length cp, .slice ak p.keys.length ck, .slice aq p.squibs.length cq, .int .i64 p.panel, .int .i64 p.wait] 28) = W1 := ⟨_, rfl⟩
 have hx1 : Ext w W1 := by rw [← hW1]; exact (Ext.refl _).alloc _
 have b0 : W1.cell? ⟨w.heap.size, 0, none⟩ = some (.slice az p.zones.length cz) := by rw [← hW1]; exact cell_mk w _ _ 0 _ rfl
 have b2 : W1.cell? ⟨w.heap.size, 2, none⟩ = some (.slice ap p.people.length cp) := by rw [← hW1]; exact cell_mk w _ _ 2 _ rfl
 have b3 : W1.cell? ⟨w.heap.size, 3, none⟩ = some (.slice ak p.keys.length ck) := by rw [← hW1]; exact cell_mk w _ _ 3 _ rfl
 have b4 : W1.cell? ⟨w.heap.size, 4, none⟩ = some (.slice aq p.squibs.length cq) := by rw [← hW1]; exact cell_mk w _ _ 4 _ rfl
 rw [hW1]
 replace k7 := hx1.cell k7
 replace k8 := hx1.cell k8
 replace k9 := hx1.cell k9
 replace k10 := hx1.cell k10
 replace k11 := hx1.cell k11
 have HZ1 := hide (HSC.out.ext hx1)
 clear hW1
 apply wp_region_f (10 :: 11 :: 12 :: 13 :: 14 :: 15 :: 16 :: 17 :: 18 :: 19 :: 20 :: 21 :: 22 :: 23 :: 24 :: 25 :: 26 :: 27 :: 28 :: 9 :: [])
  (.is _ :: .is _ :: .is _ :: .is _ :: .is _ :: .is _ :: .is _ :: .is _ :: .is _ :: .is _ :: .is _ :: .is _ :: .is _ :: .is _ :: .is _ :: .is _ :: .is _ :: .is _ :: .is _ :: .is _ :: [])
  [(0, _)]
 ·kernel_rfl
 ·decide
 ·rfl
 ·kernel_rfl
 ·decide +kernel
 iterate 4 (· kernel_rfl)
 ·rfl
 ·exact keepsIs _ rfl
 ·refine ⟨?_, trivial⟩ <;> (simp; rfl)
 ·repeat
   refine ⟨?_, ?_⟩
   ·intro F W2 hF hd hR
    have t0 := hF.1
    simp [Region.binds, Ent.holds] at hd
    refine ⟨fun hgd K hK => ?_, by intro g b h hn; first | (cases h; done) | (cases h; refine absurd ?_ hn; simp [hd]; done) | (cases h; exact ⟨rfl, Ext.refl _⟩)⟩
    first
     | (refine absurd (hgd _ _ rfl) ?_; simp [hd]; done)
     | (refine absurd (hgd _ _ rfl) ?_; simp [hd]; simp [undef]; done)
     | (simp only [Ent.holds, List.getD_cons_zero, List.getD_cons_succ] at hK
        have k7' := hR.cell k7
        have k11' := hR.cell k11
        go_simp
        first
         | exact hK _ _ rfl (Ext.refl _)
         | (go_at_call 37
            first
             | (with_reducible refine (HA1.out _).mono ?_)
             | (with_reducible refine (HA2.out _).mono ?_)
            rintro e w' ⟨rfl, rfl⟩
            exact hK _ _ rfl (Ext.refl _)))
  exact trivial
 intro X W2 hx hR
 simp only [toldX] at hx
 simp only [fillX, List.setIfInBounds_toArray, List.set_cons_succ, List.set_cons_zero]
 have hx2 := hx1.trans hR
 replace b0 := hR.cell b0
 replace b2 := hR.cell b2
 replace b3 := hR.cell b3
 replace b4 := hR.cell b4
 replace k8 := hR.cell k8
 replace k9 := hR.cell k9
 replace k10 := hR.cell k10
 have HZ2 := hide (HZ1.out.ext hR)
 have HX2 := hide hx2
 clear hR hx2 hx
 go_wp2_with fail
 apply wp_region_f (30 :: 31 :: 32 :: 33 :: 34 :: 35 :: 36 :: 37 :: 38 :: 39 :: 40 :: 41 :: 42 :: 43 :: 44 :: 45 :: 46 :: 47 :: 48 :: 49 :: 50 :: 51 :: 52 :: 53 :: 54 :: 55 :: 56 :: 57 :: 58 :: 59 :: 60 :: 61 :: 62 :: 63 :: 29 :: [])
  (.is _ :: .is _ :: .is _ :: .is _ :: .is _ :: .is _ :: .is _ :: .is _ :: .is _ :: .is _ :: .is _ :: .is _ :: .is _ :: .is _ :: .is _ :: .is _ :: .is _ :: .is _ :: .is _ :: .is _ :: .is _ :: .is _ :: .is _ :: .is _ :: .is _ :: .is _ :: .is _ :: .is _ :: .is _ :: .is _ :: .is _ :: .is _ :: .is _ :: .is _ :: .is _ :: [])
  [(0, _), (3, _)]
 ·kernel_rfl
 ·decide
 ·rfl
 ·kernel_rfl
 ·decide +kernel
 iterate 4 (· kernel_rfl)
 ·rfl
 ·exact keepsIs _ rfl
 ·refine ⟨?_, ?_, trivial⟩ <;> (simp; rfl)
 ·repeat
   refine ⟨?_, ?_⟩
   ·intro F W3 hF hd hR
    simp [fixedAt] at hF
    obtain ⟨t0, t3⟩ := hF
    simp [Region.binds, Ent.holds] at hd
    refine ⟨fun hgd K hK => ?_, by intro g b h hn; first | (cases h; done) | (cases h; refine absurd ?_ hn; simp [hd]; done) | (cases h; exact ⟨rfl, Ext.refl _⟩)⟩
    first
     | (refine absurd (hgd _ _ rfl) ?_; simp [hd]; done)
     | (refine absurd (hgd _ _ rfl) ?_; simp [hd]; simp [undef]; done)
     | (simp only [Ent.holds, List.getD_cons_zero, List.getD_cons_succ] at hK
        have k8' := hR.cell k8
        have k9' := hR.cell k9
        have k10' := hR.cell k10
        have b2' := hR.cell b2
        have b3' := hR.cell b3
        have b4' := hR.cell b4
        go_simp
        first
         | exact hK _ _ rfl (Ext.refl _))
  exact trivial
 intro X W3 hx hR
 simp only [toldX] at hx
 simp only [fillX, List.setIfInBounds_toArray, List.set_cons_succ, List.set_cons_zero]
 replace b0 := hR.cell b0
 replace b2 := hR.cell b2
 replace b3 := hR.cell b3
 replace b4 := hR.cell b4
 replace k8 := hR.cell k8
 replace k9 := hR.cell k9
 replace k10 := hR.cell k10
 replace HZ2 := hide (HZ2.out.ext hR)
 replace HX2 := hide (HX2.out.trans hR)
 clear hR hx
 go_wp2_with fail
 apply wp_region_f (64 :: 65 :: 66 :: 67 :: 68 :: 69 :: 70 :: 71 :: 72 :: 73 :: 74 :: 75 :: 76 :: 77 :: 78 :: 79 :: 80 :: 81 :: 82 :: 83 :: 84 :: 85 :: 86 :: 87 :: 88 :: 89 :: 90 :: 91 :: 92 :: 93 :: 94 :: 95 :: 96 :: 97 :: 98 :: 99 :: 100 :: 101 :: 102 :: 2 :: [])
  (.is _ :: .is _ :: .is _ :: .is _ :: .is _ :: .is _ :: .is _ :: .is _ :: .is _ :: .is _ :: .so (NotV (-1) ((p.zones.length : Int) - 1)) :: .is _ :: .is _ :: .is _ :: .is _ :: .is _ :: .is _ :: .is _ :: .is _ :: .is _ :: .is _ :: .is _ :: .is _ :: .is _ :: .so (NotV (-1) ((p.people.length : Int) - 1)) :: .is _ :: .is _ :: .is _ :: .is _ :: .is _ :: .is _ :: .is _ :: .is _ :: .is _ :: .is _ :: .so (NotV 0 2) :: .is _ :: .is _ :: .is _ :: .is _ :: [])
  [(0, _), (3, _), (4, _)]
 ·kernel_rfl
 ·decide
 ·rfl
 ·kernel_rfl
 ·decide +kernel
 iterate 4 (· kernel_rfl)
 ·rfl
 ·exact ⟨trivial, trivial, trivial, trivial, trivial, trivial, trivial, trivial, trivial, trivial, fun _ _ _ h k => h.ext k, trivial, trivial, trivial, trivial, trivial, trivial, trivial, trivial, trivial, trivial, trivial, trivial, trivial, fun _ _ _ h k => h.ext k, trivial, trivial, trivial, trivial, trivial, trivial, trivial, trivial, trivial, trivial, fun _ _ _ h k => h.ext k, trivial, trivial, trivial, trivial, trivial⟩
 ·refine ⟨?_, ?_, ?_, trivial⟩ <;> (simp; rfl)
 ·repeat
   refine ⟨?_, ?_⟩
   ·intro F W4 hF hd hR
    simp [fixedAt] at hF
    obtain ⟨t0, t3, t4⟩ := hF
    simp [Region.binds, Ent.holds] at hd
    refine ⟨fun hgd K hK => ?_, by intro g b h hn; first | (cases h; done) | (cases h; refine absurd ?_ hn; simp [hd]; done) | (cases h; exact ⟨rfl, Ext.refl _⟩)⟩
    first
     | (refine absurd (hgd _ _ rfl) ?_; simp [hd]; done)
     | (refine absurd (hgd _ _ rfl) ?_; simp [hd]; simp [undef]; done)
     | (simp only [Ent.holds, List.getD_cons_zero, List.getD_cons_succ] at hK
        have k8' := hR.cell k8
        have k9' := hR.cell k9
        have k10' := hR.cell k10
        have b0' := hR.cell b0
        have b2' := hR.cell b2
        go_simp
        first
         | exact hK _ _ rfl (Ext.refl _)
         | (go_at_call 90
            refine (formed1_not _ _ _).mono ?_
            rintro e w' ⟨v, rfl, hn, hx⟩
            exact hK _ _ hn hx)
         | (go_at_call 76
            with_reducible refine (HC1.out _ _ trivial (by first | exact hd.2 | exact hd.2.1 | exact hd.2.2 | exact hd.1) (HZ2.out.ext hR)).mono ?_
            rintro e w' ⟨rfl, hx⟩
            exact hK _ _ rfl hx)
         | (go_at_call 76
            with_reducible refine (HC2.out _ _ trivial (by first | exact hd.2 | exact hd.2.1 | exact hd.2.2 | exact hd.1) (HZ2.out.ext hR)).mono ?_
            rintro e w' ⟨rfl, hx⟩
            exact hK _ _ rfl hx)
         | (go_at_call 76
            with_reducible refine (HC3.out _ _ trivial (by first | exact hd.2 | exact hd.2.1 | exact hd.2.2 | exact hd.1) (HZ2.out.ext hR)).mono ?_
            rintro e w' ⟨rfl, hx⟩
            exact hK _ _ rfl hx))
  exact trivial
 intro X W4 hx hR
 simp only [toldX] at hx
 simp only [fillX, List.setIfInBounds_toArray, List.set_cons_succ, List.set_cons_zero]
 replace HX2 := hide (HX2.out.trans hR)
 go_wp2_with fail
 go_ret
 exact ⟨ret_bool (by rw [HE.out]), HX2.out⟩
set_option maxRecDepth 100000 in
set_option maxHeartbeats 2000000 in
theorem formed_all (B : Nat) (X : SceneX) (p : Pad) (s : State) (w : World) (h : SceneAt w B X p s) (ha1 : (outB s.now 0 100000) = false) (ha2 : (outB s.siren (-1) s.now) = false) (hl1 : (decide (s.zones.length ≠ p.people.length)) = false) (hl2 : (decide (s.holder.length ≠ p.keys.length)) = false) (hl3 : (decide (s.squibs.length ≠ p.squibs.length)) = false) (hc1 : (anyB (fun k => outB (s.zones.getD k 0) (-1) ((p.zones.length : Int) - 1)) s.zones.length) = false) (hc2 : (anyB (fun k => outB (s.holder.getD k 0) (-1) ((p.people.length : Int) - 1)) s.holder.length) = false) (hc3 : (anyB (fun k => outB (s.squibs.getD k 0) 0 2) s.squibs.length) = false) :
 Calls Try.prog 68 #[.pointer (some ⟨B, 0, none⟩)] w fun e w' => e = .returned (.bool (formedB p s)) ∧ Ext w w' := by
 obtain ⟨⟨az, cz, ad, cd, ap, cp, ak, ck, aq, cq⟩, sz, zc, sh, hc, sq, qc⟩ := X
 have HSC := hide h
 have k0 := h.k0
 have k1 := h.k1
 have k2 := h.k2
 have k3 := h.k3
 have k4 := h.k4
 have k5 := h.k5
 have k6 := h.k6
 have k7 := h.k7
 have k8 := h.k8
 have k9 := h.k9
 have k10 := h.k10
 have k11 := h.k11
 dsimp only at k0 k1 k2 k3 k4 k5 k6 k7 k8 k9 k10 k11
 have hz1 := h.pad.z.rows
 have hz2 := h.pad.x.rows
 dsimp only at hz1 hz2
 have hn1 : p.zones.length ≤ 9223372036854775807 := by omega
 have hn2 : p.people.length ≤ 9223372036854775807 := by omega
 have wz1 : IntKind.i64.wrap ((p.zones.length : Int) - 1) = (p.zones.length : Int) - 1 := by rw [IntKind.wrap_i64]; omega
 have wz2 : IntKind.i64.wrap ((p.people.length : Int) - 1) = (p.people.length : Int) - 1 := by rw [IntKind.wrap_i64]; omega
 have HA1 := hide (fun V => out_any s.now 0 100000 V)
 have HA2 := hide (fun V => out_any s.siren (-1) s.now V)
 have HC1 := hide (fun (V : World) (fv : Value) (_ : True) (hf : NotV (-1) ((p.zones.length : Int) - 1) fv V) (hs : SceneAt V B ⟨⟨az, cz, ad, cd, ap, cp, ak, ck, aq, cq⟩, sz, zc, sh, hc, sq, qc⟩ p s) => contains_not (-1) ((p.zones.length : Int) - 1) fv _ s.zones V hf hs.z)
 have HC2 := hide (fun (V : World) (fv : Value) (_ : True) (hf : NotV (-1) ((p.people.length : Int) - 1) fv V) (hs : SceneAt V B ⟨⟨az, cz, ad, cd, ap, cp, ak, ck, aq, cq⟩, sz, zc, sh, hc, sq, qc⟩ p s) => contains_not (-1) ((p.people.length : Int) - 1) fv _ s.holder V hf hs.h)
 have HC3 := hide (fun (V : World) (fv : Value) (_ : True) (hf : NotV 0 2 fv V) (hs : SceneAt V B ⟨⟨az, cz, ad, cd, ap, cp, ak, ck, aq, cq⟩, sz, zc, sh, hc, sq, qc⟩ p s) => contains_not 0 2 fv _ s.squibs V hf hs.q)
 clear h hz1 hz2
 have hl10 : s.zones.length = p.people.length := by have := hl1; simpa using this
 have hl1' : (((s.zones.length : Nat) : Int) != ((p.people.length : Nat) : Int)) = false := by rw [bne_eq_false_iff_eq]; omega
 have hl1'' : decide (s.zones.length = p.people.length) = true := by rw [decide_eq_true_iff]; exact hl10
 have hl13 : (((s.zones.length : Nat) : Int) == ((p.people.length : Nat) : Int)) = true := by rw [beq_iff_eq]; omega
 clear hl10
 have hl20 : s.holder.length = p.keys.length := by have := hl2; simpa using this
 have hl2' : (((s.holder.length : Nat) : Int) != ((p.keys.length : Nat) : Int)) = false := by rw [bne_eq_false_iff_eq]; omega
 have hl2'' : decide (s.holder.length = p.keys.length) = true := by rw [decide_eq_true_iff]; exact hl20
 have hl23 : (((s.holder.length : Nat) : Int) == ((p.keys.length : Nat) : Int)) = true := by rw [beq_iff_eq]; omega
 clear hl20
 have hl30 : s.squibs.length = p.squibs.length := by have := hl3; simpa using this
 have hl3' : (((s.squibs.length : Nat) : Int) != ((p.squibs.length : Nat) : Int)) = false := by rw [bne_eq_false_iff_eq]; omega
 have hl3'' : decide (s.squibs.length = p.squibs.length) = true := by rw [decide_eq_true_iff]; exact hl30
 have hl33 : (((s.squibs.length : Nat) : Int) == ((p.squibs.length : Nat) : Int)) = true := by rw [beq_iff_eq]; omega
 clear hl30
 rw [ha1] at HA1
 rw [ha2] at HA2
 rw [hc1] at HC1
 rw [hc2] at HC2
 rw [hc3] at HC3
 have HE := hide (show formedB p s = true by unfold formedB; rw [ha1, ha2, hl1, hl2, hl3, hc1, hc2, hc3]; rfl)
 clear ha1 ha2 hl1 hl2 hl3 hc1 hc2 hc3
 go_enter Try.func68, Try.ntmps68
 go_wp2_with fail
 obtain ⟨W1, hW1⟩ : ∃ W1, w.alloc (.cells #[.slice az p.zones.length cz, .slice ad p.doors.length cd, .slice ap p.people.length cp, .slice ak p.keys.length ck, .slice aq p.squibs.length cq, .int .i64 p.panel, .int .i64 p.wait] 28) = W1 := ⟨_, rfl⟩
 have hx1 : Ext w W1 := by rw [← hW1]; exact (Ext.refl _).alloc _
 have b0 : W1.cell? ⟨w.heap.size, 0, none⟩ = some (.slice az p.zones.length cz) := by rw [← hW1]; exact cell_mk w _ _ 0 _ rfl
 have b2 : W1.cell? ⟨w.heap.size, 2, none⟩ = some (.slice ap p.people.length cp) := by rw [← hW1]; exact cell_mk w _ _ 2 _ rfl
 have b3 : W1.cell? ⟨w.heap.size, 3, none⟩ = some (.slice ak p.keys.length ck) := by rw [← hW1]; exact cell_mk w _ _ 3 _ rfl
 have b4 : W1.cell? ⟨w.heap.size, 4, none⟩ = some (.slice aq p.squibs.length cq) := by rw [← hW1]; exact cell_mk w _ _ 4 _ rfl
 rw [hW1]
 replace k7 := hx1.cell k7
 replace k8 := hx1.cell k8
 replace k9 := hx1.cell k9
 replace k10 := hx1.cell k10
 replace k11 := hx1.cell k11
 have HZ1 := hide (HSC.out.ext hx1)
 clear hW1
 apply wp_region_f (10 :: 11 :: 12 :: 13 :: 14 :: 15 :: 16 :: 17 :: 18 :: 19 :: 20 :: 21 :: 22 :: 23 :: 24 :: 25 :: 26 :: 27 :: 28 :: 9 :: [])
  (.is _ :: .is _ :: .is _ :: .is _ :: .is _ :: .is _ :: .is _ :: .is _ :: .is _ :: .is _ :: .is _ :: .is _ :: .is _ :: .is _ :: .is _ :: .is _ :: .is _ :: .is _ :: .is _ :: .is _ :: [])
  [(0, _)]
 ·kernel_rfl
 ·decide
 ·rfl
 ·kernel_rfl
 ·decide +kernel
 iterate 4 (· kernel_rfl)
 ·rfl
 ·exact keepsIs _ rfl
 ·refine ⟨?_, trivial⟩ <;> (simp; rfl)
 ·repeat
   refine ⟨?_, ?_⟩
   ·intro F W2 hF hd hR
    have t0 := hF.1
    simp [Region.binds, Ent.holds] at hd
    refine ⟨fun hgd K hK => ?_, by intro g b h hn; first | (cases h; done) | (cases h; refine absurd ?_ hn; simp [hd]; done) | (cases h; exact ⟨rfl, Ext.refl _⟩)⟩
    first
     | (refine absurd (hgd _ _ rfl) ?_; simp [hd]; done)
     | (refine absurd (hgd _ _ rfl) ?_; simp [hd]; simp [undef]; done)
     | (simp only [Ent.holds, List.getD_cons_zero, List.getD_cons_succ] at hK
        have k7' := hR.cell k7
        have k11' := hR.cell k11
        go_simp
        first
         | exact hK _ _ rfl (Ext.refl _)
         | (go_at_call 37
            first
             | (with_reducible refine (HA1.out _).mono ?_)
             | (with_reducible refine (HA2.out _).mono ?_)
            rintro e w' ⟨rfl, rfl⟩
            exact hK _ _ rfl (Ext.refl _)))
  exact trivial
 intro X W2 hx hR
 simp only [toldX] at hx
 simp only [fillX, List.setIfInBounds_toArray, List.set_cons_succ, List.set_cons_zero]
 have hx2 := hx1.trans hR
 replace b0 := hR.cell b0
 replace b2 := hR.cell b2
 replace b3 := hR.cell b3
 replace b4 := hR.cell b4
 replace k8 := hR.cell k8
 replace k9 := hR.cell k9
 replace k10 := hR.cell k10
 have HZ2 := hide (HZ1.out.ext hR)
 have HX2 := hide hx2
 clear hR hx2 hx
 go_wp2_with fail
 apply wp_region_f (30 :: 31 :: 32 :: 33 :: 34 :: 35 :: 36 :: 37 :: 38 :: 39 :: 40 :: 41 :: 42 :: 43 :: 44 :: 45 :: 46 :: 47 :: 48 :: 49 :: 50 :: 51 :: 52 :: 53 :: 54 :: 55 :: 56 :: 57 :: 58 :: 59 :: 60 :: 61 :: 62 :: 63 :: 29 :: [])
  (.is _ :: .is _ :: .is _ :: .is _ :: .is _ :: .is _ :: .is _ :: .is _ :: .is _ :: .is _ :: .is _ :: .is _ :: .is _ :: .is _ :: .is _ :: .is _ :: .is _ :: .is _ :: .is _ :: .is _ :: .is _ :: .is _ :: .is _ :: .is _ :: .is _ :: .is _ :: .is _ :: .is _ :: .is _ :: .is _ :: .is _ :: .is _ :: .is _ :: .is _ :: .is _ :: [])
  [(0, _), (3, _)]
 ·kernel_rfl
 ·decide
 ·rfl
 ·kernel_rfl
 ·decide +kernel
 iterate 4 (· kernel_rfl)
 ·rfl
 ·exact keepsIs _ rfl
 ·refine ⟨?_, ?_, trivial⟩ <;> (simp; rfl)
 ·repeat
   refine ⟨?_, ?_⟩
   ·intro F W3 hF hd hR
    simp [fixedAt] at hF
    obtain ⟨t0, t3⟩ := hF
    simp [Region.binds, Ent.holds] at hd
    refine ⟨fun hgd K hK => ?_, by intro g b h hn; first | (cases h; done) | (cases h; refine absurd ?_ hn; simp [hd]; done) | (cases h; exact ⟨rfl, Ext.refl _⟩)⟩
    first
     | (refine absurd (hgd _ _ rfl) ?_; simp [hd]; done)
     | (refine absurd (hgd _ _ rfl) ?_; simp [hd]; simp [undef]; done)
     | (simp only [Ent.holds, List.getD_cons_zero, List.getD_cons_succ] at hK
        have k8' := hR.cell k8
        have k9' := hR.cell k9
        have k10' := hR.cell k10
        have b2' := hR.cell b2
        have b3' := hR.cell b3
        have b4' := hR.cell b4
        go_simp
        first
         | exact hK _ _ rfl (Ext.refl _))
  exact trivial
 intro X W3 hx hR
 simp only [toldX] at hx
 simp only [fillX, List.setIfInBounds_toArray, List.set_cons_succ, List.set_cons_zero]
 replace b0 := hR.cell b0
 replace b2 := hR.cell b2
 replace b3 := hR.cell b3
 replace b4 := hR.cell b4
 replace k8 := hR.cell k8
 replace k9 := hR.cell k9
 replace k10 := hR.cell k10
 replace HZ2 := hide (HZ2.out.ext hR)
 replace HX2 := hide (HX2.out.trans hR)
 clear hR hx
 go_wp2_with fail
 apply wp_region_f (64 :: 65 :: 66 :: 67 :: 68 :: 69 :: 70 :: 71 :: 72 :: 73 :: 74 :: 75 :: 76 :: 77 :: 78 :: 79 :: 80 :: 81 :: 82 :: 83 :: 84 :: 85 :: 86 :: 87 :: 88 :: 89 :: 90 :: 91 :: 92 :: 93 :: 94 :: 95 :: 96 :: 97 :: 98 :: 99 :: 100 :: 101 :: 102 :: 2 :: [])
  (.is _ :: .is _ :: .is _ :: .is _ :: .is _ :: .is _ :: .is _ :: .is _ :: .is _ :: .is _ :: .so (NotV (-1) ((p.zones.length : Int) - 1)) :: .is _ :: .is _ :: .is _ :: .is _ :: .is _ :: .is _ :: .is _ :: .is _ :: .is _ :: .is _ :: .is _ :: .is _ :: .is _ :: .so (NotV (-1) ((p.people.length : Int) - 1)) :: .is _ :: .is _ :: .is _ :: .is _ :: .is _ :: .is _ :: .is _ :: .is _ :: .is _ :: .is _ :: .so (NotV 0 2) :: .is _ :: .is _ :: .is _ :: .is _ :: [])
  [(0, _), (3, _), (4, _)]
 ·kernel_rfl
 ·decide
 ·rfl
 ·kernel_rfl
 ·decide +kernel
 iterate 4 (· kernel_rfl)
 ·rfl
 ·exact ⟨trivial, trivial, trivial, trivial, trivial, trivial, trivial, trivial, trivial, trivial, fun _ _ _ h k => h.ext k, trivial, trivial, trivial, trivial, trivial, trivial, trivial, trivial, trivial, trivial, trivial, trivial, trivial, fun _ _ _ h k => h.ext k, trivial, trivial, trivial, trivial, trivial, trivial, trivial, trivial, trivial, trivial, fun _ _ _ h k => h.ext k, trivial, trivial, trivial, trivial, trivial⟩
 ·refine ⟨?_, ?_, ?_, trivial⟩ <;> (simp; rfl)
 ·repeat
   refine ⟨?_, ?_⟩
   ·intro F W4 hF hd hR
    simp [fixedAt] at hF
    obtain ⟨t0, t3, t4⟩ := hF
    simp [Region.binds, Ent.holds] at hd
    refine ⟨fun hgd K hK => ?_, by intro g b h hn; first | (cases h; done) | (cases h; refine absurd ?_ hn; simp [hd]; done) | (cases h; exact ⟨rfl, Ext.refl _⟩)⟩
    first
     | (refine absurd (hgd _ _ rfl) ?_; simp [hd]; done)
     | (refine absurd (hgd _ _ rfl) ?_; simp [hd]; simp [undef]; done)
     | (simp only [Ent.holds, List.getD_cons_zero, List.getD_cons_succ] at hK
        have k8' := hR.cell k8
        have k9' := hR.cell k9
        have k10' := hR.cell k10
        have b0' := hR.cell b0
        have b2' := hR.cell b2
        go_simp
        first
         | exact hK _ _ rfl (Ext.refl _)
         | (go_at_call 90
            refine (formed1_not _ _ _).mono ?_
            rintro e w' ⟨v, rfl, hn, hx⟩
            exact hK _ _ hn hx)
         | (go_at_call 76
            with_reducible refine (HC1.out _ _ trivial (by first | exact hd.2 | exact hd.2.1 | exact hd.2.2 | exact hd.1) (HZ2.out.ext hR)).mono ?_
            rintro e w' ⟨rfl, hx⟩
            exact hK _ _ rfl hx)
         | (go_at_call 76
            with_reducible refine (HC2.out _ _ trivial (by first | exact hd.2 | exact hd.2.1 | exact hd.2.2 | exact hd.1) (HZ2.out.ext hR)).mono ?_
            rintro e w' ⟨rfl, hx⟩
            exact hK _ _ rfl hx)
         | (go_at_call 76
            with_reducible refine (HC3.out _ _ trivial (by first | exact hd.2 | exact hd.2.1 | exact hd.2.2 | exact hd.1) (HZ2.out.ext hR)).mono ?_
            rintro e w' ⟨rfl, hx⟩
            exact hK _ _ rfl hx))
  exact trivial
 intro X W4 hx hR
 simp only [toldX] at hx
 simp only [fillX, List.setIfInBounds_toArray, List.set_cons_succ, List.set_cons_zero]
 replace HX2 := hide (HX2.out.trans hR)
 go_wp2_with fail
 go_ret
 exact ⟨ret_bool (by rw [HE.out]), HX2.out⟩
end Go.Proofs.Ythcnganbnbhhoaa
