/- The walk of Start. -/
import Derived.Test.YthcnganbnbhhoaaRep
import Derived.Test.YthcnganbnbhhoaaPlayA
import Derived.Test.YthcnganbnbhhoaaDetE
namespace Go.Proofs.Ythcnganbnbhhoaa
open Go.RowKit Go.Shelf
def StartQ (w : World) (p : Pad) (e : Ending) (w' : World) : Prop := ∃ v, e = .returned (.tuple #[v, .int .i64 (padE p).2.2]) ∧ StateV w' v (if (padE p).2.2 = 0 then startS p else zeroS) ∧ Ext w w'
def startX (j : Nat) (y : Nat → Value) (_ : World) : Prop :=
 match j with
 | 14 => y 14 = .agg #[.int .i64 0, y 4, y 9, y 13, .int .i64 (-1), .bool false]
 | _ => True
theorem startX_mono {j : Nat} {y : Nat → Value} {A B : World} (h : startX j y A) : startX j y B := h
theorem startX_loc {j : Nat} {y y' : Nat → Value} {A : World} (h1 : y j = y' j) (h2 : ∀ k, (j, k) ∈ [(14, 4), (14, 9), (14, 13)] → y k = y' k) (h : startX j y A) : startX j y' A := by
 unfold startX at h ⊢
 split at h
 ·rw [← h1, ← h2 4 (by simp), ← h2 9 (by simp), ← h2 13 (by simp)]; exact h
 ·trivial
theorem makeInts : ∀ (n : Nat), n ≤ 8 → ∀ V : World, (Instr.makeSlice 36 (.int .i64 n) (.int .i64 n)).run Try.prog V = .ok (.slice (some ⟨V.heap.size, 0, none⟩) n n) (V.alloc (.cells (Array.replicate n (.int .i64 0)) 3))
 | 0, _, V => by kernel_rfl
 | 1, _, V => by kernel_rfl
 | 2, _, V => by kernel_rfl
 | 3, _, V => by kernel_rfl
 | 4, _, V => by kernel_rfl
 | 5, _, V => by kernel_rfl
 | 6, _, V => by kernel_rfl
 | 7, _, V => by kernel_rfl
 | 8, _, V => by kernel_rfl
 | n + 9, h, V => absurd h (by omega)
theorem own_zeros (V : World) (base n : Nat) (h : n ≤ 8) (hb : base ≤ V.heap.size) : Own (V.alloc (.cells (Array.replicate n (.int .i64 0)) 3)) base 3 1 (.slice (some ⟨V.heap.size, 0, none⟩) n n) n ((List.replicate n (0 : Int)).map (Value.int .i64)) := by
 have := Own.lit V base 3 1 n (Array.replicate n (.int .i64 0)) hb (by simp) (by simp [maxLen]; omega)
 simpa using this
theorem start_yes {w w' : World} {p : Pad} {base : Nat} {A B C : Option Addr} {a b c : Nat} (hE : (padE p).2.2 = 0) (h1 : Own w' base 3 1 (.slice A p.people.length a) p.people.length ((List.replicate p.people.length (-1)).map (Value.int .i64))) (h2 : Own w' base 3 1 (.slice B p.keys.length b) p.keys.length ((List.replicate p.keys.length (-1)).map (Value.int .i64))) (h3 : Own w' base 3 1 (.slice C p.squibs.length c) p.squibs.length ((List.replicate p.squibs.length (0 : Int)).map (Value.int .i64))) (hx : Ext w w') :
 StartQ w p (.returned (.tuple #[.agg #[.int .i64 0, .slice A p.people.length a, .slice B p.keys.length b, .slice C p.squibs.length c, .int .i64 (-1), .bool false], .int .i64 0])) w' := by
 refine ⟨_, by rw [hE], ?_, hx⟩
 rw [if_pos hE]
 exact ⟨_, _, _, rfl, h1.ints, h2.ints, h3.ints⟩
theorem start_no {w w' : World} {p : Pad} {E : Int} (hE : (padE p).2.2 = E) (h0 : E ≠ 0) (hx : Ext w w') : StartQ w p (.returned (.tuple #[.agg #[.int .i64 0, .slice none 0 0, .slice none 0 0, .slice none 0 0, .int .i64 0, .bool false], .int .i64 E])) w' :=
 ⟨_, by rw [hE], by rw [if_neg (by rw [hE]; exact h0)]; exact (stateO_zero w' 0).v, hx⟩
set_option maxRecDepth 100000 in
set_option maxHeartbeats 4000000 in
/-- Start -/
theorem start_any (v : Value) (p : Pad) (w : World) (hv : PadV w v p) : Calls Try.prog 21 #[v] w (StartQ w p) := by
 have HC := hide (fun V (hx : Ext w V) => check_any v p V (hv.ext hx))
 obtain ⟨X, rfl, hX⟩ := padV_iff.1 hv
 obtain ⟨az, cz, ad, cd, ap, cp, ak, ck, aq, cq⟩ := X
 unfold PadX.cells at HC ⊢
 dsimp only at HC ⊢
 obtain ⟨E, hE⟩ : ∃ E, (padE p).2.2 = E := ⟨_, rfl⟩
 have HE := hide hE
 rw [hE] at HC
 obtain ⟨E1, hE1⟩ : ∃ E, (padE p).1 = E := ⟨_, rfl⟩
 obtain ⟨E2, hE2⟩ : ∃ E, (padE p).2.1 = E := ⟨_, rfl⟩
 rw [hE1, hE2] at HC
 clear hv hX hE hE1 hE2
 go_enter Try.func21, Try.ntmps21
 go_wp2_with fail
 obtain ⟨W1, hW1⟩ : ∃ V, (w.alloc (.cells #[.slice az p.zones.length cz, .slice ad p.doors.length cd, .slice ap p.people.length cp, .slice ak p.keys.length ck, .slice aq p.squibs.length cq, .int .i64 p.panel, .int .i64 p.wait] 28)).alloc (.cells #[.int .i64 0, .slice none 0 0, .slice none 0 0, .slice none 0 0, .int .i64 0, .bool false] 38) = V := ⟨_, rfl⟩
 have HX := hide (show Ext w W1 by rw [← hW1]; exact ((Ext.refl _).alloc _).alloc _)
 have HP := hide (show Blk W1 w.heap.size 28 #[.slice az p.zones.length cz, .slice ad p.doors.length cd, .slice ap p.people.length cp, .slice ak p.keys.length ck, .slice aq p.squibs.length cq, .int .i64 p.panel, .int .i64 p.wait] by rw [← hW1]; exact (Blk.new w _ _).ext ((Ext.refl _).alloc _))
 have HZ := hide (show Blk W1 (w.heap.size + 1) 38 #[.int .i64 0, .slice none 0 0, .slice none 0 0, .slice none 0 0, .int .i64 0, .bool false] by rw [← hW1]; simpa only [World.size_alloc] using Blk.new (w.alloc (.cells #[.slice az p.zones.length cz, .slice ad p.doors.length cd, .slice ap p.people.length cp, .slice ak p.keys.length ck, .slice aq p.squibs.length cq, .int .i64 p.panel, .int .i64 p.wait] 28)) 38 #[.int .i64 0, .slice none 0 0, .slice none 0 0, .slice none 0 0, .int .i64 0, .bool false])
 rw [hW1]
 clear hW1
 refine Calls.mono (HC.out W1 HX.out) ?_
 rintro e w2 ⟨rfl, hx⟩
 replace HX := hide (HX.out.trans hx)
 replace HP := hide (HP.out.ext hx)
 replace HZ := hide (HZ.out.ext hx)
 clear hx HC
 have p2 := cell_heap HP.out 2 _ rfl
 have p3 := cell_heap HP.out 3 _ rfl
 have p4 := cell_heap HP.out 4 _ rfl
 have z0 := cell_heap HZ.out 0 _ rfl
 have g0 := HZ.out.frozen 0
 have z1 := cell_heap HZ.out 1 _ rfl
 have g1 := HZ.out.frozen 1
 have z2 := cell_heap HZ.out 2 _ rfl
 have g2 := HZ.out.frozen 2
 have z3 := cell_heap HZ.out 3 _ rfl
 have g3 := HZ.out.frozen 3
 have z4 := cell_heap HZ.out 4 _ rfl
 have g4 := HZ.out.frozen 4
 have z5 := cell_heap HZ.out 5 _ rfl
 have g5 := HZ.out.frozen 5
 by_cases e0 : E = 0
 ·subst e0
  have HOK := hide (padOk_of HE.out)
  go_wp2_with fail
  obtain ⟨W3, hW3⟩ : ∃ V, w2.alloc (.cells #[.int .i64 (-1)] 3) = V := ⟨_, rfl⟩
  have hx3 : Ext w2 W3 := by rw [← hW3]; exact (Ext.refl _).alloc _
  have caw : W3.cell? ⟨w2.heap.size, 0, none⟩ = some (.int .i64 (-1)) := by rw [← hW3]; exact cell_mk w2 _ _ 0 _ rfl
  rw [hW3]
  obtain ⟨aw, haw⟩ : ∃ g, w2.heap.size = g := ⟨_, rfl⟩
  rw [haw] at caw ⊢
  replace HX := hide (HX.out.trans hx3)
  replace HP := hide (HP.out.ext hx3)
  replace HZ := hide (HZ.out.ext hx3)
  have HLT := hide HZ.out.lt
  clear hW3 hx3 haw p2 p3 p4 z0 g0 z1 g1 z2 g2 z3 g3 z4 g4 z5 g5
  have p2 := cell_heap HP.out 2 _ rfl
  have p3 := cell_heap HP.out 3 _ rfl
  have p4 := cell_heap HP.out 4 _ rfl
  have HR1 := hide (fun V hc => repeat_any p.people.length (by have := HOK.out.np; omega) aw V hc)
  have HR2 := hide (fun V hc => repeat_any p.keys.length (by have := HOK.out.nk; omega) aw V hc)
  have HNQ := hide (show p.squibs.length ≤ 8 by have := HOK.out.nq; omega)
  have hmk := makeInts p.squibs.length HNQ.out
  apply wp_region_te (startX) [(14, 4), (14, 9), (14, 13)] 15 (19 :: 20 :: 21 :: 22 :: 23 :: 24 :: 25 :: 26 :: 27 :: 28 :: 29 :: 30 :: 31 :: 32 :: 33 :: [])
   (.is _ :: .is _ :: .is _ :: .is _ :: .so (fun v W => ∃ A c, v = .slice A p.people.length c ∧ Own W W3.heap.size 3 1 v p.people.length ((List.replicate p.people.length (-1)).map (Value.int .i64))) :: .is _ :: .is _ :: .is _ :: .is _ :: .so (fun v W => ∃ A c, v = .slice A p.keys.length c ∧ Own W W3.heap.size 3 1 v p.keys.length ((List.replicate p.keys.length (-1)).map (Value.int .i64))) :: .is _ :: .is _ :: .is _ :: .so (fun v W => ∃ A c, v = .slice A p.squibs.length c ∧ Own W W3.heap.size 3 1 v p.squibs.length ((List.replicate p.squibs.length (0 : Int)).map (Value.int .i64))) :: .so (fun _ _ => True) :: [])
   [(1, _), (2, _), (7, _)]
  ·kernel_rfl
  ·decide
  ·decide
  ·rfl
  ·kernel_rfl
  ·decide +kernel
  iterate 5 (· kernel_rfl)
  ·decide +kernel
  ·kernel_rfl
  ·rfl
  ·exact ⟨trivial, trivial, trivial, trivial, fun v A B h k => by obtain ⟨a, c, h1, h2⟩ := h; exact ⟨a, c, h1, h2.ext k⟩, trivial, trivial, trivial, trivial, fun v A B h k => by obtain ⟨a, c, h1, h2⟩ := h; exact ⟨a, c, h1, h2.ext k⟩, trivial, trivial, trivial, fun v A B h k => by obtain ⟨a, c, h1, h2⟩ := h; exact ⟨a, c, h1, h2.ext k⟩, fun _ _ _ _ _ => trivial, trivial⟩
  ·intro j y A B h k
   exact startX_mono h
  ·intro j y y' A h1 h2 h3
   exact startX_loc h1 h2 h3
  ·refine ⟨?_, ?_, ?_, trivial⟩ <;> (simp; rfl)
  ·repeat
    refine ⟨?_, ?_⟩
    ·intro F W4 hF hd hR
     simp [fixedAt] at hF
     obtain ⟨t1, t2, t7⟩ := hF
     simp [Region.binds, Ent.holds] at hd
     refine ⟨fun _ K hK => ?_, by intro g b h hn; first | (cases h; done) | (cases h; exact absurd (by simp [hd]) hn)⟩
     simp only [Ent.holds, List.getD_cons_zero, List.getD_cons_succ] at hK
     have p2' := hR.cell p2
     have p3' := hR.cell p3
     have p4' := hR.cell p4
     try (obtain ⟨⟨⟨⟨x23, y23, h23⟩, _⟩, _⟩, ⟨⟨⟨x28, y28, h28⟩, _⟩, _⟩, ⟨⟨x32, y32, h32⟩, _⟩, _⟩ := hd)
     go_simp
     first
      | exact hK _ _ ⟨rfl, trivial⟩ (Ext.refl _)
      | (go_at_call 63
         with_reducible refine (HR1.out _ (hR.cell caw)).mono ?_
         rintro e w' ⟨A, c, rfl, ho, hx⟩
         exact hK _ _ ⟨⟨_, _, rfl, ho.mono hR.size⟩, trivial⟩ hx)
      | (go_at_call 63
         with_reducible refine (HR2.out _ (hR.cell caw)).mono ?_
         rintro e w' ⟨A, c, rfl, ho, hx⟩
         exact hK _ _ ⟨⟨_, _, rfl, ho.mono hR.size⟩, trivial⟩ hx)
      | (exact hK _ _ ⟨⟨_, _, rfl, own_zeros _ _ _ HNQ.out hR.size⟩, trivial⟩ ((Ext.refl _).alloc _))
      | (exact hK _ _ ⟨trivial, by show _ = _; simp [Array.getD_eq_getD_getElem?, h23, h28, h32]⟩ (Ext.refl _))
   exact trivial
  intro X W4 hx hrel hR
  simp only [toldX] at hx
  simp only [fillX, List.setIfInBounds_toArray, List.set_cons_succ, List.set_cons_zero]
  obtain ⟨⟨RA, ra, e23, o23⟩, ⟨RB, rb, e28, o28⟩, ⟨RC, rc, e32, o32⟩, _, _⟩ := hx
  have r14 : X 33 = .agg #[.int .i64 0, X 23, X 28, X 32, .int .i64 (-1), .bool false] := hrel 14 (by omega)
  rw [e23, e28, e32] at r14
  rw [e23] at o23
  rw [e28] at o28
  rw [e32] at o32
  rw [e23, e28, e32, r14]
  have O23 := hide o23
  have O28 := hide o28
  have O32 := hide o32
  replace HX := hide (HX.out.trans hR)
  replace HZ := hide (HZ.out.ext hR)
  clear o23 o28 o32 e23 e28 e32 r14 hrel hR hmk p2 p3 p4 caw
  have z0 := cell_heap HZ.out 0 _ rfl
  have g0 := HZ.out.frozen 0
  have z1 := cell_heap HZ.out 1 _ rfl
  have g1 := HZ.out.frozen 1
  have z2 := cell_heap HZ.out 2 _ rfl
  have g2 := HZ.out.frozen 2
  have z3 := cell_heap HZ.out 3 _ rfl
  have g3 := HZ.out.frozen 3
  have z4 := cell_heap HZ.out 4 _ rfl
  have g4 := HZ.out.frozen 4
  have z5 := cell_heap HZ.out 5 _ rfl
  have g5 := HZ.out.frozen 5
  go_wp2_with fail
  obtain ⟨V6, hV6⟩ : ∃ V, ((((((W4.setCell ⟨w.heap.size + 1, 0, none⟩ (.int .i64 0)).setCell ⟨w.heap.size + 1, 1, none⟩ (.slice RA p.people.length ra)).setCell ⟨w.heap.size + 1, 2, none⟩ (.slice RB p.keys.length rb)).setCell ⟨w.heap.size + 1, 3, none⟩ (.slice RC p.squibs.length rc)).setCell ⟨w.heap.size + 1, 4, none⟩ (.int .i64 (-1))).setCell ⟨w.heap.size + 1, 5, none⟩ (.bool false)) = V := ⟨_, rfl⟩
  rw [hV6]
  have HB6 := hide (show Blk V6 (w.heap.size + 1) 38 #[.int .i64 0, .slice RA p.people.length ra, .slice RB p.keys.length rb, .slice RC p.squibs.length rc, .int .i64 (-1), .bool false] from by rw [← hV6]; exact (((((HZ.out.set 0 _).set 1 _).set 2 _).set 3 _).set 4 _).set 5 _)
  have HX6 := hide (show Ext w V6 from by
   rw [← hV6]
   have h1 : w.heap.size ≤ w.heap.size + 1 := by omega
   exact (((((HX.out.setCell h1 _).setCell h1 _).setCell h1 _).setCell h1 _).setCell h1 _).setCell h1 _)
  have one : ∀ (u : Value) (n : Nat) (xs : List Value), Own W4 W3.heap.size 3 1 u n xs → Own V6 W3.heap.size 3 1 u n xs := fun u n xs h => by
   have hne : u.ownBlock ≠ some (w.heap.size + 1) := fun e => by have := (h.block _ e).1; have := HLT.out; omega
   rw [← hV6]
   exact (((((h.setCell hne _).setCell hne _).setCell hne _).setCell hne _).setCell hne _).setCell hne _
  have HO := hide one
  clear hV6 one z0 g0 z1 g1 z2 g2 z3 g3 z4 g4 z5 g5
  have b0 := cell_heap HB6.out 0 _ rfl
  have b1 := cell_heap HB6.out 1 _ rfl
  have b2 := cell_heap HB6.out 2 _ rfl
  have b3 := cell_heap HB6.out 3 _ rfl
  have b4 := cell_heap HB6.out 4 _ rfl
  have b5 := cell_heap HB6.out 5 _ rfl
  refine bodyPost_ret (v := .tuple #[.agg #[.int .i64 0, .slice RA p.people.length ra, .slice RB p.keys.length rb, .slice RC p.squibs.length rc, .int .i64 (-1), .bool false], .int .i64 0]) (by simp [results, Try.results21, go_sem, b0, b1, b2, b3, b4, b5]) rfl ?_
  exact start_yes HE.out (HO.out _ _ _ O23.out) (HO.out _ _ _ O28.out) (HO.out _ _ _ O32.out) HX6.out
 ·have hne : (E != 0) = true := by simpa using e0
  have HNZ := hide e0
  clear e0
  go_wp2_with fail
  obtain ⟨V6, hV6⟩ : ∃ V, ((((((w2.setCell ⟨w.heap.size + 1, 0, none⟩ (.int .i64 0)).setCell ⟨w.heap.size + 1, 1, none⟩ (.slice none 0 0)).setCell ⟨w.heap.size + 1, 2, none⟩ (.slice none 0 0)).setCell ⟨w.heap.size + 1, 3, none⟩ (.slice none 0 0)).setCell ⟨w.heap.size + 1, 4, none⟩ (.int .i64 0)).setCell ⟨w.heap.size + 1, 5, none⟩ (.bool false)) = V := ⟨_, rfl⟩
  rw [hV6]
  have HB6 := hide (show Blk V6 (w.heap.size + 1) 38 #[.int .i64 0, .slice none 0 0, .slice none 0 0, .slice none 0 0, .int .i64 0, .bool false] from by rw [← hV6]; exact (((((HZ.out.set 0 _).set 1 _).set 2 _).set 3 _).set 4 _).set 5 _)
  have HX6 := hide (show Ext w V6 from by
   rw [← hV6]
   have h1 : w.heap.size ≤ w.heap.size + 1 := by omega
   exact (((((HX.out.setCell h1 _).setCell h1 _).setCell h1 _).setCell h1 _).setCell h1 _).setCell h1 _)
  clear hV6 p2 p3 p4 z0 g0 z1 g1 z2 g2 z3 g3 z4 g4 z5 g5
  have b0 := cell_heap HB6.out 0 _ rfl
  have b1 := cell_heap HB6.out 1 _ rfl
  have b2 := cell_heap HB6.out 2 _ rfl
  have b3 := cell_heap HB6.out 3 _ rfl
  have b4 := cell_heap HB6.out 4 _ rfl
  have b5 := cell_heap HB6.out 5 _ rfl
  refine bodyPost_ret (v := .tuple #[.agg #[.int .i64 0, .slice none 0 0, .slice none 0 0, .slice none 0 0, .int .i64 0, .bool false], .int .i64 E]) (by simp [results, Try.results21, go_sem, b0, b1, b2, b3, b4, b5]) rfl ?_
  exact start_no HE.out HNZ.out HX6.out
end Go.Proofs.Ythcnganbnbhhoaa
