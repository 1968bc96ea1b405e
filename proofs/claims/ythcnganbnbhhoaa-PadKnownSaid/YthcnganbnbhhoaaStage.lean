/- The walk of stage. -/
import Derived.Test.YthcnganbnbhhoaaSc2
import Derived.Test.YthcnganbnbhhoaaDetE
import Derived.Deep.Cut
namespace Go.Proofs.Ythcnganbnbhhoaa
open Go.RowKit Go.Shelf
/-- Two slices in two blocks. -/
def Apart (u v : Value) : Prop := ∀ g, u.ownBlock = some g → v.ownBlock ≠ some g
def BlkLt (v : Value) (W : World) : Prop := ∀ g, v.ownBlock = some g → g < W.heap.size
theorem BlkLt.mono {v : Value} {A B : World} (h : BlkLt v A) (k : Ext A B) : BlkLt v B := fun g hg => Nat.lt_of_lt_of_le (h g hg) k.size
theorem apart_own {u v : Value} {A B : World} {e : TypeId} {sz n : Nat} {xs : List Value} (h : BlkLt v A) (k : Own B A.heap.size e sz u n xs) : Apart u v := fun g hg hv => by
 have h1 := (k.block g hg).1
 have h2 := h g hv
 omega
theorem Own.blkLt {u : Value} {B : World} {base : Nat} {e : TypeId} {sz n : Nat} {xs : List Value} (k : Own B base e sz u n xs) : BlkLt u B := fun g hg => (k.block g hg).2
/-- What stage hands back. -/
def StageQ (w : World) (p : Pad) (s : State) (e : Ending) (w' : World) : Prop := ∃ B Y, e = .returned (.pointer (some ⟨B, 0, none⟩)) ∧ SceneS w B Y p s w'
theorem stageQ_mk {w W0 W1 : World} {p : Pad} {s : State} {az ad ap ak aq : Option Addr} {cz cd cp ck cq : Nat} {Z H S : Option Addr} {zc hc qc : Nat}
 (hX : PadAt w ⟨az, cz, ad, cd, ap, cp, ak, ck, aq, cq⟩ p) (hx : Ext w W1) (hsz : W0.heap.size = w.heap.size + 1 + 1) (hle : W0.heap.size ≤ W1.heap.size)
 (o7 : Own W1 W0.heap.size 3 1 (.slice Z s.zones.length zc) s.zones.length (s.zones.map (Value.int .i64))) (o10 : Own W1 W0.heap.size 3 1 (.slice H s.holder.length hc) s.holder.length (s.holder.map (Value.int .i64))) (o13 : Own W1 W0.heap.size 3 1 (.slice S s.squibs.length qc) s.squibs.length (s.squibs.map (Value.int .i64)))
 (r1 : Apart (.slice H s.holder.length hc) (.slice Z s.zones.length zc)) (r2 : Apart (.slice S s.squibs.length qc) (.slice H s.holder.length hc)) (r3 : Apart (.slice S s.squibs.length qc) (.slice Z s.zones.length zc)) :
 StageQ w p s (.returned (.pointer (some ⟨W1.heap.size, 0, none⟩))) ((((W1.setCell ⟨w.heap.size + 1, 1, none⟩ (.slice Z s.zones.length zc)).setCell ⟨w.heap.size + 1, 2, none⟩ (.slice H s.holder.length hc)).setCell ⟨w.heap.size + 1, 3, none⟩ (.slice S s.squibs.length qc)).alloc
  (.cells (SceneX.cells ⟨⟨az, cz, ad, cd, ap, cp, ak, ck, aq, cq⟩, Z, zc, H, hc, S, qc⟩ p s) 114)) := by
 have one : ∀ {v : Value} {n : Nat} {xs : List Value}, Own W1 W0.heap.size 3 1 v n xs → Own ((((W1.setCell ⟨w.heap.size + 1, 1, none⟩ (.slice Z s.zones.length zc)).setCell ⟨w.heap.size + 1, 2, none⟩ (.slice H s.holder.length hc)).setCell ⟨w.heap.size + 1, 3, none⟩ (.slice S s.squibs.length qc)).alloc
  (.cells (SceneX.cells ⟨⟨az, cz, ad, cd, ap, cp, ak, ck, aq, cq⟩, Z, zc, H, hc, S, qc⟩ p s) 114)) w.heap.size 3 1 v n xs := fun {v n xs} h => by
  have hne : v.ownBlock ≠ some (w.heap.size + 1) := fun e => by have := (h.block _ e).1; omega
  exact ((((h.setCell hne _).setCell hne _).setCell hne _).alloc _).mono (by omega)
 have lt : ∀ {v : Value} {n : Nat} {xs : List Value}, Own W1 W0.heap.size 3 1 v n xs → ∀ g, v.ownBlock = some g → g ≠ W1.heap.size := fun {v n xs} h g hg e => by have := (h.block _ hg).2; omega
 refine ⟨_, ⟨⟨az, cz, ad, cd, ap, cp, ak, ck, aq, cq⟩, Z, zc, H, hc, S, qc⟩, rfl, ?_, by omega, ?_, hX, one o7, one o10, one o13, ?_, ?_, ?_, ?_, ?_, ?_⟩
 ·exact (((hx.setCell (by dsimp only; omega) _).setCell (by dsimp only; omega) _).setCell (by dsimp only; omega) _).alloc _
 ·have := Blk.new (((W1.setCell ⟨w.heap.size + 1, 1, none⟩ (.slice Z s.zones.length zc)).setCell ⟨w.heap.size + 1, 2, none⟩ (.slice H s.holder.length hc)).setCell ⟨w.heap.size + 1, 3, none⟩ (.slice S s.squibs.length qc)) 114 (SceneX.cells ⟨⟨az, cz, ad, cd, ap, cp, ak, ck, aq, cq⟩, Z, zc, H, hc, S, qc⟩ p s)
  have hz : (((W1.setCell ⟨w.heap.size + 1, 1, none⟩ (.slice Z s.zones.length zc)).setCell ⟨w.heap.size + 1, 2, none⟩ (.slice H s.holder.length hc)).setCell ⟨w.heap.size + 1, 3, none⟩ (.slice S s.squibs.length qc)).heap.size = W1.heap.size := by simp [go_sem]
  rwa [hz] at this
 ·intro g hg; exact lt o7 g (by rw [ownBlock_slice]; exact hg)
 ·intro g hg; exact lt o10 g (by rw [ownBlock_slice]; exact hg)
 ·intro g hg; exact lt o13 g (by rw [ownBlock_slice]; exact hg)
 ·intro g hg e; exact r1 g (by rw [ownBlock_slice]; exact e) (by rw [ownBlock_slice]; exact hg)
 ·intro g hg e; exact r3 g (by rw [ownBlock_slice]; exact e) (by rw [ownBlock_slice]; exact hg)
 ·intro g hg e; exact r2 g (by rw [ownBlock_slice]; exact e) (by rw [ownBlock_slice]; exact hg)
def stageX (j : Nat) (y : Nat → Value) (W : World) : Prop :=
 match j with
 | 5 => Apart (y 5) (y 2) ∧ BlkLt (y 2) W
 | 8 => Apart (y 8) (y 5) ∧ Apart (y 8) (y 2)
 | _ => True
theorem stageX_mono {j : Nat} {y : Nat → Value} {A B : World} (h : stageX j y A) (k : Ext A B) : stageX j y B := by
 unfold stageX at h ⊢
 split
 ·exact ⟨h.1, h.2.mono k⟩
 ·exact h
 ·trivial
theorem stageX_loc {j : Nat} {y y' : Nat → Value} {A : World} (h1 : y j = y' j) (h2 : ∀ k, (j, k) ∈ [(5, 2), (8, 5), (8, 2)] → y k = y' k) (h : stageX j y A) : stageX j y' A := by
 unfold stageX at h ⊢
 split at h
 ·rw [← h1, ← h2 2 (by simp)]; exact h
 ·rw [← h1, ← h2 2 (by simp), ← h2 5 (by simp)]; exact h
 ·trivial
theorem own_getD {F : Array Value} {k : Nat} {W : World} {base : Nat} {e : TypeId} {sz n : Nat} {xs : List Value} (h : Own W base e sz (F[k]?.getD undef) n xs) : BlkLt (F.getD k undef) W := by
 rw [← Array.getD_eq_getD_getElem?] at h
 exact h.blkLt
theorem stageX_5 {F : Array Value} {W1 w1 : World} {v : Value} {b1 e1 s1 n1 : Nat} {x1 : List Value} {e2 s2 n2 : Nat} {x2 : List Value} (h : Own W1 b1 e1 s1 (F[7]?.getD undef) n1 x1) (hx : Ext W1 w1) (ho : Own w1 W1.heap.size e2 s2 v n2 x2) :
 stageX 5 (fun k => if k = 5 then v else F.getD ([5, 6, 7, 8, 9, 10, 11, 12, 13, 14].getD k 0) undef) w1 :=
 show Apart v (F.getD 7 undef) ∧ BlkLt (F.getD 7 undef) w1 from ⟨apart_own (own_getD h) ho, (own_getD h).mono hx⟩
theorem stageX_8 {F : Array Value} {W1 w1 : World} {v : Value} {b1 e1 s1 n1 : Nat} {x1 : List Value} {e2 s2 n2 : Nat} {x2 : List Value} (h : Own W1 b1 e1 s1 (F[10]?.getD undef) n1 x1) (h5 : BlkLt (F[7]?.getD undef) W1) (ho : Own w1 W1.heap.size e2 s2 v n2 x2) :
 stageX 8 (fun k => if k = 8 then v else F.getD ([5, 6, 7, 8, 9, 10, 11, 12, 13, 14].getD k 0) undef) w1 :=
 show Apart v (F.getD 10 undef) ∧ Apart v (F.getD 7 undef) from ⟨apart_own (own_getD h) ho, by rw [Array.getD_eq_getD_getElem?]; exact apart_own h5 ho⟩
set_option maxRecDepth 100000 in
set_option maxHeartbeats 4000000 in
/-- stage -/
theorem stage_any (X : PadX) (p : Pad) (s : State) (A1 A2 A3 : Option Addr) (c1 c2 c3 : Nat) (w : World) (hX : PadAt w X p) (h1 : IntsV w .i64 (.slice A1 s.zones.length c1) s.zones) (h2 : IntsV w .i64 (.slice A2 s.holder.length c2) s.holder) (h3 : IntsV w .i64 (.slice A3 s.squibs.length c3) s.squibs)
 (b1 : s.zones.length * 8 ≤ 140737488355328) (b2 : s.holder.length * 8 ≤ 140737488355328) (b3 : s.squibs.length * 8 ≤ 140737488355328) :
 Calls Try.prog 66 #[.agg (X.cells p).toArray, .agg #[.int .i64 s.now, .slice A1 s.zones.length c1, .slice A2 s.holder.length c2, .slice A3 s.squibs.length c3, .int .i64 s.siren, .bool s.storm]] w (StageQ w p s) := by
 obtain ⟨az, cz, ad, cd, ap, cp, ak, ck, aq, cq⟩ := X
 unfold PadX.cells
 dsimp only
 have HX := hide hX
 obtain ⟨W0, hW0⟩ : ∃ W0, (w.alloc (.cells #[.slice az p.zones.length cz, .slice ad p.doors.length cd, .slice ap p.people.length cp, .slice ak p.keys.length ck, .slice aq p.squibs.length cq, .int .i64 p.panel, .int .i64 p.wait] 28)).alloc (.cells #[.int .i64 s.now, .slice A1 s.zones.length c1, .slice A2 s.holder.length c2, .slice A3 s.squibs.length c3, .int .i64 s.siren, .bool s.storm] 38) = W0 := ⟨_, rfl⟩
 have hx0 : Ext w W0 := by rw [← hW0]; exact ((Ext.refl _).alloc _).alloc _
 have hsz : W0.heap.size = w.heap.size + 1 + 1 := by rw [← hW0, World.size_alloc, World.size_alloc]
 have hp0 : Blk W0 w.heap.size 28 #[.slice az p.zones.length cz, .slice ad p.doors.length cd, .slice ap p.people.length cp, .slice ak p.keys.length ck, .slice aq p.squibs.length cq, .int .i64 p.panel, .int .i64 p.wait] := by rw [← hW0]; exact (Blk.new w _ _).ext ((Ext.refl _).alloc _)
 have hs0 : Blk W0 (w.heap.size + 1) 38 #[.int .i64 s.now, .slice A1 s.zones.length c1, .slice A2 s.holder.length c2, .slice A3 s.squibs.length c3, .int .i64 s.siren, .bool s.storm] := by
  rw [← hW0]
  have := Blk.new (w.alloc (.cells #[.slice az p.zones.length cz, .slice ad p.doors.length cd, .slice ap p.people.length cp, .slice ak p.keys.length ck, .slice aq p.squibs.length cq, .int .i64 p.panel, .int .i64 p.wait] 28)) 38 #[.int .i64 s.now, .slice A1 s.zones.length c1, .slice A2 s.holder.length c2, .slice A3 s.squibs.length c3, .int .i64 s.siren, .bool s.storm]
  rwa [World.size_alloc] at this
 have HP0 := hide hp0
 have HS0 := hide hs0
 have HX0 := hide hx0
 have HSZ := hide hsz
 have H1 := hide (h1.ext hx0)
 have H2 := hide (h2.ext hx0)
 have H3 := hide (h3.ext hx0)
 have HB1 := hide b1
 have HB2 := hide b2
 have HB3 := hide b3
 have HW0 := hide hW0
 clear hp0 hs0 hx0 hsz h1 h2 h3 b1 b2 b3 hX hW0
 go_enter Try.func66, Try.ntmps66
 go_wp2_with fail
 rw [HW0.out]
 have s1 := cell_heap HS0.out 1 _ rfl
 have s2 := cell_heap HS0.out 2 _ rfl
 have s3 := cell_heap HS0.out 3 _ rfl
 have f1 := HS0.out.frozen 1
 have f2 := HS0.out.frozen 2
 have f3 := HS0.out.frozen 3
 apply wp_region_te (stageX) [(5, 2), (8, 5), (8, 2)] 10 [5, 6, 7, 8, 9, 10, 11, 12, 13, 14]
  [.is _, .is _, .so (fun v W => ∃ A c, v = .slice A s.zones.length c ∧ Own W W0.heap.size 3 1 v s.zones.length (s.zones.map (Value.int .i64))), .is _, .is _, .so (fun v W => ∃ A c, v = .slice A s.holder.length c ∧ Own W W0.heap.size 3 1 v s.holder.length (s.holder.map (Value.int .i64))), .is _, .is _, .so (fun v W => ∃ A c, v = .slice A s.squibs.length c ∧ Own W W0.heap.size 3 1 v s.squibs.length (s.squibs.map (Value.int .i64))), .is _]
  [(3, _)]
 ·kernel_rfl
 ·decide
 ·decide
 ·rfl
 ·kernel_rfl
 ·decide +kernel
 iterate 5 (· kernel_rfl)
 ·decide +kernel
 ·kernel_rfl
 ·rfl
 ·exact ⟨trivial, trivial, fun v A B h k => by obtain ⟨a, c, h1, h2⟩ := h; exact ⟨a, c, h1, h2.ext k⟩, trivial, trivial, fun v A B h k => by obtain ⟨a, c, h1, h2⟩ := h; exact ⟨a, c, h1, h2.ext k⟩, trivial, trivial, fun v A B h k => by obtain ⟨a, c, h1, h2⟩ := h; exact ⟨a, c, h1, h2.ext k⟩, trivial, trivial⟩
 ·intro j y A B h k
  exact stageX_mono h k
 ·intro j y y' A h1 h2 h3
  exact stageX_loc h1 h2 h3
 ·refine ⟨?_, trivial⟩ <;> (simp; rfl)
 ·repeat
   refine ⟨?_, ?_⟩
   ·intro F W1 hF hd hR
    have t3 := hF.1
    simp [Region.binds, Ent.holds] at hd
    refine ⟨fun _ K hK => ?_, by intro g b h hn; first | (cases h; done) | (cases h; exact absurd (by simp [hd]) hn)⟩
    simp only [Ent.holds, List.getD_cons_zero, List.getD_cons_succ] at hK
    have s1' := hR.cell s1
    have s2' := hR.cell s2
    have s3' := hR.cell s3
    go_simp
    first
     | exact hK _ _ ⟨rfl, trivial⟩ (Ext.refl _)
     | (go_at_call_of 86 (Value.slice A1 s.zones.length c1)
        with_reducible refine (clone_any A1 s.zones.length c1 s.zones _ (H1.out.ext hR) HB1.out).mono ?_
        rintro e w1 ⟨B1, d1, rfl, ho1, hx1⟩
        exact hK _ _ ⟨⟨_, _, rfl, ho1.mono hR.size⟩, trivial⟩ hx1)
     | (go_at_call_of 86 (Value.slice A2 s.holder.length c2)
        with_reducible refine (clone_any A2 s.holder.length c2 s.holder _ (H2.out.ext hR) HB2.out).mono ?_
        rintro e w1 ⟨B1, d1, rfl, ho1, hx1⟩
        exact hK _ _ ⟨⟨_, _, rfl, ho1.mono hR.size⟩, stageX_5 hd.2.1.2 hx1 ho1⟩ hx1)
     | (go_at_call_of 86 (Value.slice A3 s.squibs.length c3)
        with_reducible refine (clone_any A3 s.squibs.length c3 s.squibs _ (H3.out.ext hR) HB3.out).mono ?_
        rintro e w1 ⟨B1, d1, rfl, ho1, hx1⟩
        exact hK _ _ ⟨⟨_, _, rfl, ho1.mono hR.size⟩, stageX_8 hd.2.1.2 hd.2.2.2 ho1⟩ hx1)
  exact trivial
 intro X W1 hx hrel hR
 simp only [toldX] at hx
 simp only [fillX, List.setIfInBounds_toArray, List.set_cons_succ, List.set_cons_zero]
 obtain ⟨⟨Z1, zc1, e7, o7⟩, ⟨H1', hc1, e10, o10⟩, ⟨S1, qc1, e13, o13⟩, _⟩ := hx
 have r5 : Apart (X 10) (X 7) := (hrel 5 (by omega)).1
 have r8 : Apart (X 13) (X 10) ∧ Apart (X 13) (X 7) := hrel 8 (by omega)
 rw [e7, e10, e13]
 rw [e7] at o7 r5 r8
 rw [e10] at o10 r5 r8
 rw [e13] at o13 r8
 have O7 := hide o7
 have O10 := hide o10
 have O13 := hide o13
 have R5 := hide r5
 have R8 := hide r8
 have HX1 := hide (HX0.out.trans hR)
 replace HS0 := hide (HS0.out.ext hR)
 replace HP0 := hide (HP0.out.ext hR)
 clear o7 o10 o13 r5 r8 e7 e10 e13 hrel s1 s2 s3 f1 f2 f3 H1 H2 H3
 have f1 := HS0.out.frozen 1
 have f2 := HS0.out.frozen 2
 have f3 := HS0.out.frozen 3
 have s1 := cell_heap HS0.out 1 _ rfl
 have s2 := cell_heap HS0.out 2 _ rfl
 have s3 := cell_heap HS0.out 3 _ rfl
 go_upto_region 2 with (fail)
 obtain ⟨V, hV⟩ : ∃ V, ((W1.setCell ⟨w.heap.size + 1, 1, none⟩ (.slice Z1 s.zones.length zc1)).setCell ⟨w.heap.size + 1, 2, none⟩ (.slice H1' s.holder.length hc1)).setCell ⟨w.heap.size + 1, 3, none⟩ (.slice S1 s.squibs.length qc1) = V := ⟨_, rfl⟩
 have HV := hide hV
 rw [hV]
 have HSV := hide (show Blk V (w.heap.size + 1) 38 #[.int .i64 s.now, .slice Z1 s.zones.length zc1, .slice H1' s.holder.length hc1, .slice S1 s.squibs.length qc1, .int .i64 s.siren, .bool s.storm] by rw [← hV]; exact ((HS0.out.set 1 _).set 2 _).set 3 _)
 have HPV := hide (show Blk V w.heap.size 28 #[.slice az p.zones.length cz, .slice ad p.doors.length cd, .slice ap p.people.length cp, .slice ak p.keys.length ck, .slice aq p.squibs.length cq, .int .i64 p.panel, .int .i64 p.wait] by rw [← hV]; exact ((HP0.out.other (by omega) 1 _).other (by omega) 2 _).other (by omega) 3 _)
 clear hV f1 f2 f3 s1 s2 s3
 have s0 := cell_heap HSV.out 0 _ rfl
 have s1 := cell_heap HSV.out 1 _ rfl
 have s2 := cell_heap HSV.out 2 _ rfl
 have s3 := cell_heap HSV.out 3 _ rfl
 have s4 := cell_heap HSV.out 4 _ rfl
 have s5 := cell_heap HSV.out 5 _ rfl
 have p0 := cell_heap HPV.out 0 _ rfl
 have p1 := cell_heap HPV.out 1 _ rfl
 have p2 := cell_heap HPV.out 2 _ rfl
 have p3 := cell_heap HPV.out 3 _ rfl
 have p4 := cell_heap HPV.out 4 _ rfl
 have p5 := cell_heap HPV.out 5 _ rfl
 have p6 := cell_heap HPV.out 6 _ rfl
 go_wp2_with fail
 go_ret
 rw [show V.heap.size = W1.heap.size by rw [← HV.out]; simp [go_sem], ← HV.out]
 exact stageQ_mk HX.out HX1.out HSZ.out hR.size O7.out O10.out O13.out R5.out R8.out.1 R8.out.2
end Go.Proofs.Ythcnganbnbhhoaa
