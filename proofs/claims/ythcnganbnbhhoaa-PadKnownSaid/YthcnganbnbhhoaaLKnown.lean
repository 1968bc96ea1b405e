/-
 Proves that the calls of the document's examples return what it says: 'PadKnownSaid'. No conditions.
-/
import Derived.Test.YthcnganbnbhhoaaRows
import Derived.Test.YthcnganbnbhhoaaLawB
import Derived.Test.YthcnganbnbhhoaaAsk
import Derived.Test.YthcnganbnbhhoaaDanger
import Derived.Test.YthcnganbnbhhoaaAwake
import Derived.Test.YthcnganbnbhhoaaKept
import Derived.Test.YthcnganbnbhhoaaOpenP
import Derived.Test.YthcnganbnbhhoaaDetE
import Derived.SizedLaws
import Derived.Deep.Cut
namespace Go.Proofs.Ythcnganbnbhhoaa
open Go.ChangeShapes Go.WideShapes Go.ChangeAt Go.RowKit Go.Shelf
theorem kn_n (k1 k2 : Value) : (nearR (exPad k1 k2) 1 0, nearE (exPad k1 k2) 1 0, nearR (exPad k1 k2) 2 0, nearE (exPad k1 k2) 2 0, nearR (exPad k1 k2) 2 1, nearE (exPad k1 k2) 2 1) = (false, 0, true, 0, true, 0) := by kernel_rfl
theorem kn_m (k1 k2 : Value) : (mayE (exPad k1 k2) exS 0, mayL (exPad k1 k2) exS 0 3, mayE (exPad k1 k2) exS 1, mayL (exPad k1 k2) exS 1 3) = (0, [0, 1, 2], 0, []) := by kernel_rfl
theorem kn_9 (k1 k2 : Value) : (playE (exPad k1 k2) exS (exActs.take 9), runS (exPad k1 k2) exS (exActs.take 9)) = (0, ⟨5, [1, 1, 0], [0, 1, 2], [0, 0], 5, false⟩) := by kernel_rfl
theorem kn_21 (k1 k2 : Value) : (playE (exPad k1 k2) exS (exActs.take 21), runS (exPad k1 k2) exS (exActs.take 21)) = (0, ⟨109, [0, 0, 0], [-1, -1, 2], [0, 0], 5, true⟩) := by kernel_rfl
theorem kn_o (k1 k2 : Value) : (owedE (exPad k1 k2) ⟨5, [1, 1, 0], [0, 1, 2], [0, 0], 5, false⟩ 0, owedL (exPad k1 k2) ⟨5, [1, 1, 0], [0, 1, 2], [0, 0], 5, false⟩ 0, owedE (exPad k1 k2) ⟨5, [1, 1, 0], [0, 1, 2], [0, 0], 5, false⟩ 1, owedL (exPad k1 k2) ⟨5, [1, 1, 0], [0, 1, 2], [0, 0], 5, false⟩ 1, stateE (exPad k1 k2) ⟨5, [1, 1, 0], [0, 1, 2], [0, 0], 5, false⟩) = (0, [0, 1], 0, [2], 0) := by kernel_rfl
theorem kn_f (a b : Int) (l m n : List Int) (c : Bool) (h1 : l.length ≤ 8) (h2 : m.length ≤ 8) (h3 : n.length ≤ 8) : State.Fits ⟨a, l, m, n, b, c⟩ := by unfold State.Fits; dsimp only; omega
theorem knV {w w' : World} {v : Value} (h : ∃ k1 k2, PadV w v (exPad k1 k2)) (k : Ext w w') : ∃ k1 k2, PadV w' v (exPad k1 k2) := by obtain ⟨k1, k2, h⟩ := h; exact ⟨k1, k2, h.ext k⟩
theorem knNear {w : World} {v : Value} (h : ∃ k1 k2, PadV w v (exPad k1 k2)) : Calls Try.prog 19 #[v, .int .i64 1, .int .i64 0] w (fun e w' => e = .returned (.tuple #[.bool false, .int .i64 0]) ∧ Ext w w') ∧ Calls Try.prog 19 #[v, .int .i64 2, .int .i64 0] w (fun e w' => e = .returned (.tuple #[.bool true, .int .i64 0]) ∧ Ext w w') ∧ Calls Try.prog 19 #[v, .int .i64 2, .int .i64 1] w (fun e w' => e = .returned (.tuple #[.bool true, .int .i64 0]) ∧ Ext w w') := by
 obtain ⟨k1, k2, h⟩ := h
 have hn := kn_n k1 k2
 simp only [Prod.mk.injEq] at hn
 obtain ⟨a1, a2, a3, a4, a5, a6⟩ := hn
 refine ⟨(near3_any v _ 1 0 w h).mono ?_, (near3_any v _ 2 0 w h).mono ?_, (near3_any v _ 2 1 w h).mono ?_⟩
 ·rintro e w' ⟨rfl, hx⟩; exact ⟨by rw [a1, a2], hx⟩
 ·rintro e w' ⟨rfl, hx⟩; exact ⟨by rw [a3, a4], hx⟩
 ·rintro e w' ⟨rfl, hx⟩; exact ⟨by rw [a5, a6], hx⟩
theorem knMay {w : World} {v u : Value} (h : ∃ k1 k2, PadV w v (exPad k1 k2)) (hu : StateV w u exS) : Calls Try.prog 31 #[v, u, .int .i64 0] w (fun e w' => ∃ x, e = .returned (.tuple #[x, .int .i64 0]) ∧ IntsV w' .i64 x [0, 1, 2] ∧ Ext w w') ∧ Calls Try.prog 31 #[v, u, .int .i64 1] w (fun e w' => ∃ x, e = .returned (.tuple #[x, .int .i64 0]) ∧ IntsV w' .i64 x [] ∧ Ext w w') := by
 obtain ⟨k1, k2, h⟩ := h
 have hn := kn_m k1 k2
 simp only [Prod.mk.injEq] at hn
 obtain ⟨a1, a2, a3, a4⟩ := hn
 refine ⟨(mayX_any v u _ _ 0 w h hu ex_fits).mono ?_, (mayX_any v u _ _ 1 w h hu ex_fits).mono ?_⟩
 ·rintro e w' ⟨x, rfl, hi, hx⟩
  rw [a1, if_pos rfl] at hi
  rw [a1]
  have hi' : IntsV w' .i64 x (mayL (exPad k1 k2) exS 0 3) := hi
  rw [a2] at hi'
  exact ⟨x, rfl, hi', hx⟩
 ·rintro e w' ⟨x, rfl, hi, hx⟩
  rw [a3, if_pos rfl] at hi
  rw [a3]
  have hi' : IntsV w' .i64 x (mayL (exPad k1 k2) exS 1 3) := hi
  rw [a4] at hi'
  exact ⟨x, rfl, hi', hx⟩
theorem listV_takeK {w : World} {A : Option Addr} {n c : Nat} {l : List PAct} (h : ListV 5 PAct.cell w (.slice A n c) l) (k : Nat) (hk : k ≤ l.length) : ListV 5 PAct.cell w (.slice A k c) (l.take k) := by
 obtain ⟨rfl, h1, h2, h3⟩ := h.rows
 have hl : (l.take k).length = k := by rw [List.length_take]; omega
 refine ⟨A, c, by rw [hl], by omega, by simpa [maxLen] using h2, fun hn => ?_⟩
 obtain ⟨b, off, e, hb, hc⟩ := h3 (by omega)
 refine ⟨b, off, e, hb, fun i f hi hf => ?_⟩
 rw [hc i f (by omega) hf]
 simp only [List.getD_eq_getElem?_getD, List.getElem?_take, if_pos (show i < k by omega)]
theorem knPlay {w : World} {v u l : Value} (h : ∃ k1 k2, PadV w v (exPad k1 k2)) (hu : StateV w u exS) : (ListV 5 PAct.cell w l (exActs.take 9) → Calls Try.prog 24 #[v, u, l] w (fun e w' => ∃ a b, e = .returned (.tuple #[a, b, .int .i64 0]) ∧ StateO w' 0 a ⟨5, [1, 1, 0], [0, 1, 2], [0, 0], 5, false⟩ ∧ Ext w w')) ∧ (ListV 5 PAct.cell w l (exActs.take 21) → Calls Try.prog 24 #[v, u, l] w (fun e w' => ∃ a b, e = .returned (.tuple #[a, b, .int .i64 0]) ∧ StateO w' 0 a ⟨109, [0, 0, 0], [-1, -1, 2], [0, 0], 5, true⟩ ∧ Ext w w')) := by
 obtain ⟨k1, k2, h⟩ := h
 refine ⟨fun hl => (play_any v u l _ _ _ w h hu hl ex_fits).mono ?_, fun hl => (play_any v u l _ _ _ w h hu hl ex_fits).mono ?_⟩
 ·rintro e w' ⟨a, b, rfl, ha, _, hx⟩
  have hn := kn_9 k1 k2
  simp only [Prod.mk.injEq] at hn
  rw [hn.1, if_pos rfl, hn.2] at ha
  exact ⟨a, b, by rw [hn.1], ha.mono (Nat.zero_le _), hx⟩
 ·rintro e w' ⟨a, b, rfl, ha, _, hx⟩
  have hn := kn_21 k1 k2
  simp only [Prod.mk.injEq] at hn
  rw [hn.1, if_pos rfl, hn.2] at ha
  exact ⟨a, b, by rw [hn.1], ha.mono (Nat.zero_le _), hx⟩
theorem knOwed {w : World} {v u : Value} (h : ∃ k1 k2, PadV w v (exPad k1 k2)) (hu : StateV w u ⟨5, [1, 1, 0], [0, 1, 2], [0, 0], 5, false⟩) : Calls Try.prog 30 #[v, u, .int .i64 0] w (fun e w' => ∃ x, e = .returned (.tuple #[x, .int .i64 0]) ∧ IntsV w' .i64 x [0, 1] ∧ Ext w w') ∧ Calls Try.prog 30 #[v, u, .int .i64 1] w (fun e w' => ∃ x, e = .returned (.tuple #[x, .int .i64 0]) ∧ IntsV w' .i64 x [2] ∧ Ext w w') ∧ Calls Try.prog 33 #[v, u] w (fun e w' => e = .returned (.tuple #[.slice none 0 0, .int .i64 0]) ∧ Ext w w') := by
 obtain ⟨k1, k2, h⟩ := h
 have hn := kn_o k1 k2
 simp only [Prod.mk.injEq] at hn
 obtain ⟨a1, a2, a3, a4, a5⟩ := hn
 have hf : State.Fits ⟨5, [1, 1, 0], [0, 1, 2], [0, 0], 5, false⟩ := kn_f _ _ _ _ _ _ (by decide) (by decide) (by decide)
 refine ⟨(owedX_any v u _ _ 0 w h hu hf).mono ?_, (owedX_any v u _ _ 1 w h hu hf).mono ?_, danger_none h hu hf a5⟩
 ·rintro e w' ⟨x, rfl, hi, hx⟩
  rw [a1, if_pos rfl, a2] at hi
  exact ⟨x, by rw [a1], hi, hx⟩
 ·rintro e w' ⟨x, rfl, hi, hx⟩
  rw [a3, if_pos rfl, a4] at hi
  exact ⟨x, by rw [a3], hi, hx⟩
def KnT (S : State) (v : Value) (W : World) : Prop := ∃ a b, v = .tuple #[a, b, .int .i64 0] ∧ StateO W 0 a S
def BoxK (N : Nat) (v : Value) (W : World) : Prop := ∃ B, v = .pointer (some ⟨B, 0, none⟩) ∧ Blk W B 38 #[.int .i64 0, .slice none 0 0, .slice none 0 0, .slice none 0 0, .int .i64 0, .bool false] ∧ N ≤ B
theorem BoxK.ext {N : Nat} {A B : World} {v : Value} (h : BoxK N v A) (k : Ext A B) : BoxK N v B := by obtain ⟨g, h1, h2, h3⟩ := h; exact ⟨g, h1, h2.ext k, h3⟩
namespace PadKnownLaw
set_option maxRecDepth 100000 in
set_option maxHeartbeats 8000000 in
theorem walk (w : World) : Calls Try.prog 15 #[] w fun e w' => e = .returned (.bool true) ∧ Below w.heap.size w w' := by
 go_enter Try.func15, Try.ntmps15
 go_wp2_with fail
 refine (example_any _).mono ?_
 rintro e w1 ⟨v1, k1, k2, rfl, hv1, hx1⟩
 have HV := hide (⟨k1, k2, hv1⟩ : ∃ k1 k2, PadV w1 v1 (exPad k1 k2))
 obtain ⟨⟨az, cz, ad, cd, ap, cp, ak, ck, aq, cq⟩, hv, _⟩ := padV_iff.1 hv1
 have hv' : v1 = .agg #[.slice az 3 cz, .slice ad 3 cd, .slice ap 3 cp, .slice ak 3 ck, .slice aq 2 cq, .int .i64 0, .int .i64 100] := hv
 subst hv'
 clear hv1 hv
 have HX := hide hx1
 clear hx1
 go_wp2_with fail
 obtain ⟨W2, hW2⟩ : ∃ V, w1.alloc (.cells #[.slice az 3 cz, .slice ad 3 cd, .slice ap 3 cp, .slice ak 3 ck, .slice aq 2 cq, .int .i64 0, .int .i64 100] 28) = V := ⟨_, rfl⟩
 have hx : Ext w1 W2 := by rw [← hW2]; exact (Ext.refl _).alloc _
 have HP := hide (show Blk W2 w1.heap.size 28 #[.slice az 3 cz, .slice ad 3 cd, .slice ap 3 cp, .slice ak 3 ck, .slice aq 2 cq, .int .i64 0, .int .i64 100] by rw [← hW2]; exact Blk.new _ _ _)
 rw [hW2]
 replace HX := hide (HX.out.trans hx)
 replace HV := hide (knV HV.out hx)
 clear hx hW2
 have p0 := cell_heap HP.out 0 _ rfl
 have p1 := cell_heap HP.out 1 _ rfl
 have p2 := cell_heap HP.out 2 _ rfl
 have p3 := cell_heap HP.out 3 _ rfl
 have p4 := cell_heap HP.out 4 _ rfl
 have p5 := cell_heap HP.out 5 _ rfl
 have p6 := cell_heap HP.out 6 _ rfl
 go_wp2_with fail
 refine Calls.mono ((knNear HV.out).1) ?_
 rintro e w9 ⟨rfl, hx⟩
 replace HX := hide (HX.out.trans hx)
 replace HV := hide (knV HV.out hx)
 replace HP := hide (HP.out.ext hx)
 clear hx p0 p1 p2 p3 p4 p5 p6
 have p0 := cell_heap HP.out 0 _ rfl
 have p1 := cell_heap HP.out 1 _ rfl
 have p2 := cell_heap HP.out 2 _ rfl
 have p3 := cell_heap HP.out 3 _ rfl
 have p4 := cell_heap HP.out 4 _ rfl
 have p5 := cell_heap HP.out 5 _ rfl
 have p6 := cell_heap HP.out 6 _ rfl
 go_wp2_with fail
 refine Calls.mono ((knNear HV.out).2.1) ?_
 rintro e w9 ⟨rfl, hx⟩
 replace HX := hide (HX.out.trans hx)
 replace HV := hide (knV HV.out hx)
 replace HP := hide (HP.out.ext hx)
 clear hx p0 p1 p2 p3 p4 p5 p6
 have p0 := cell_heap HP.out 0 _ rfl
 have p1 := cell_heap HP.out 1 _ rfl
 have p2 := cell_heap HP.out 2 _ rfl
 have p3 := cell_heap HP.out 3 _ rfl
 have p4 := cell_heap HP.out 4 _ rfl
 have p5 := cell_heap HP.out 5 _ rfl
 have p6 := cell_heap HP.out 6 _ rfl
 go_wp2_with fail
 refine Calls.mono ((knNear HV.out).2.2) ?_
 rintro e w9 ⟨rfl, hx⟩
 replace HX := hide (HX.out.trans hx)
 replace HV := hide (knV HV.out hx)
 replace HP := hide (HP.out.ext hx)
 clear hx p0 p1 p2 p3 p4 p5 p6
 have p0 := cell_heap HP.out 0 _ rfl
 have p1 := cell_heap HP.out 1 _ rfl
 have p2 := cell_heap HP.out 2 _ rfl
 have p3 := cell_heap HP.out 3 _ rfl
 have p4 := cell_heap HP.out 4 _ rfl
 have p5 := cell_heap HP.out 5 _ rfl
 have p6 := cell_heap HP.out 6 _ rfl
 go_wp2_with fail
 refine Calls.mono (awStart HV.out) ?_
 rintro e w9 ⟨A1, c1, A2, c2, A3, c3, rfl, hu, hx⟩
 replace HX := hide (HX.out.trans hx)
 replace HV := hide (knV HV.out hx)
 replace HP := hide (HP.out.ext hx)
 clear hx p0 p1 p2 p3 p4 p5 p6
 have HU := hide hu
 clear hu
 go_upto_region 6 with (fail)
 obtain ⟨W3, hW3⟩ : ∃ V, w9.alloc (.cells #[.int .i64 0, .slice A1 3 c1, .slice A2 3 c2, .slice A3 2 c3, .int .i64 (-1), .bool false] 38) = V := ⟨_, rfl⟩
 have hx : Ext w9 W3 := by rw [← hW3]; exact (Ext.refl _).alloc _
 have HS := hide (show Blk W3 w9.heap.size 38 #[.int .i64 0, .slice A1 3 c1, .slice A2 3 c2, .slice A3 2 c3, .int .i64 (-1), .bool false] by rw [← hW3]; exact Blk.new _ _ _)
 rw [hW3]
 replace HX := hide (HX.out.trans hx)
 replace HV := hide (knV HV.out hx)
 replace HP := hide (HP.out.ext hx)
 replace HU := hide (HU.out.ext hx)
 clear hx hW3
 have p0 := cell_heap HP.out 0 _ rfl
 have p1 := cell_heap HP.out 1 _ rfl
 have p2 := cell_heap HP.out 2 _ rfl
 have p3 := cell_heap HP.out 3 _ rfl
 have p4 := cell_heap HP.out 4 _ rfl
 have p5 := cell_heap HP.out 5 _ rfl
 have p6 := cell_heap HP.out 6 _ rfl
 have s0 := cell_heap HS.out 0 _ rfl
 have s1 := cell_heap HS.out 1 _ rfl
 have s2 := cell_heap HS.out 2 _ rfl
 have s3 := cell_heap HS.out 3 _ rfl
 have s4 := cell_heap HS.out 4 _ rfl
 have s5 := cell_heap HS.out 5 _ rfl
 go_wp2_with fail
 refine Calls.mono ((knMay HV.out HU.out).1) ?_
 rintro e w9 ⟨x0, rfl, hi, hx⟩
 replace HX := hide (HX.out.trans hx)
 replace HV := hide (knV HV.out hx)
 replace HP := hide (HP.out.ext hx)
 replace HU := hide (HU.out.ext hx)
 replace HS := hide (HS.out.ext hx)
 clear hx p0 p1 p2 p3 p4 p5 p6 s0 s1 s2 s3 s4 s5
 have HI0 := hide hi
 clear hi
 have p0 := cell_heap HP.out 0 _ rfl
 have p1 := cell_heap HP.out 1 _ rfl
 have p2 := cell_heap HP.out 2 _ rfl
 have p3 := cell_heap HP.out 3 _ rfl
 have p4 := cell_heap HP.out 4 _ rfl
 have p5 := cell_heap HP.out 5 _ rfl
 have p6 := cell_heap HP.out 6 _ rfl
 have s0 := cell_heap HS.out 0 _ rfl
 have s1 := cell_heap HS.out 1 _ rfl
 have s2 := cell_heap HS.out 2 _ rfl
 have s3 := cell_heap HS.out 3 _ rfl
 have s4 := cell_heap HS.out 4 _ rfl
 have s5 := cell_heap HS.out 5 _ rfl
 go_wp2_with fail
 refine Calls.mono ((knMay HV.out HU.out).2) ?_
 rintro e w9 ⟨x1, rfl, hi, hx⟩
 replace HX := hide (HX.out.trans hx)
 replace HV := hide (knV HV.out hx)
 replace HP := hide (HP.out.ext hx)
 replace HU := hide (HU.out.ext hx)
 replace HS := hide (HS.out.ext hx)
 replace HI0 := hide (HI0.out.ext hx)
 clear hx p0 p1 p2 p3 p4 p5 p6 s0 s1 s2 s3 s4 s5
 obtain ⟨AY, cY, hY, _⟩ := id hi
 have hY : x1 = .slice AY 0 cY := hY
 subst hY
 clear hi
 have p0 := cell_heap HP.out 0 _ rfl
 have p1 := cell_heap HP.out 1 _ rfl
 have p2 := cell_heap HP.out 2 _ rfl
 have p3 := cell_heap HP.out 3 _ rfl
 have p4 := cell_heap HP.out 4 _ rfl
 have p5 := cell_heap HP.out 5 _ rfl
 have p6 := cell_heap HP.out 6 _ rfl
 have s0 := cell_heap HS.out 0 _ rfl
 have s1 := cell_heap HS.out 1 _ rfl
 have s2 := cell_heap HS.out 2 _ rfl
 have s3 := cell_heap HS.out 3 _ rfl
 have s4 := cell_heap HS.out 4 _ rfl
 have s5 := cell_heap HS.out 5 _ rfl
 go_wp2_with fail
 obtain ⟨wr, hwr⟩ : ∃ V, w9 = V := ⟨_, rfl⟩
 subst hwr
 have HPL := hide (fun V (hV : Ext w9 V) l hl => (knPlay (l := l) (knV HV.out hV) (HU.out.ext hV)).1 hl)
 apply wp_region_g [7, 8] 10 [78, 79, 80, 81, 82, 77, 83, 84, 85, 12]
  [.is _, .is _, .so (fun v W => ∃ A c, v = .slice A 23 c ∧ 23 ≤ c ∧ c ≤ 9223372036854775807 ∧ ListV 5 PAct.cell W v exActs), .so (fun v W => ListV 5 PAct.cell W v (exActs.take 9)), .so (fun v W => KnT ⟨5, [1, 1, 0], [0, 1, 2], [0, 0], 5, false⟩ v W), .so (fun v W => KnT ⟨5, [1, 1, 0], [0, 1, 2], [0, 0], 5, false⟩ v W), .so (fun v W => StateO W 0 v ⟨5, [1, 1, 0], [0, 1, 2], [0, 0], 5, false⟩), .so (fun _ _ => True), .so (fun v _ => v = .int .i64 0), .so (fun v W => BoxK w9.heap.size v W)]
  [(1, _), (8, _)]
 ·kernel_rfl
 ·decide
 ·decide
 ·rfl
 ·kernel_rfl
 ·decide +kernel
 ·kernel_rfl
 ·kernel_rfl
 ·kernel_rfl
 ·kernel_rfl
 ·kernel_rfl
 ·kernel_rfl
 ·kernel_rfl
 ·kernel_rfl
 ·kernel_rfl
 ·rfl
 ·intro c a d v w h; cases d <;> exact h
 ·exact ⟨trivial, trivial, fun v A B h k => by obtain ⟨a, c, h1, h2, h3, h4⟩ := h; exact ⟨a, c, h1, h2, h3, h4.ext k⟩, fun v A B h k => h.ext k, fun v A B h k => by obtain ⟨a, b, h1, h2⟩ := h; exact ⟨a, b, h1, h2.ext k⟩, fun v A B h k => by obtain ⟨a, b, h1, h2⟩ := h; exact ⟨a, b, h1, h2.ext k⟩, fun v A B h k => h.ext k, fun _ _ _ _ _ => trivial, fun _ _ _ h _ => h, fun v A B h k => h.ext k, trivial⟩
 ·refine ⟨?_, ?_, trivial⟩ <;> (simp; rfl)
 ·repeat
   refine ⟨?_, ?_⟩
   ·intro F W8 hF hd hR
    simp [fixedAt] at hF
    obtain ⟨t1, t8⟩ := hF
    simp [Region.binds, Ent.holds] at hd
    refine ⟨fun _ K hK => ?_, by intro g b h hn; first | (cases h; done) | (cases h; exact absurd (by simp [hd]) hn)⟩
    simp only [Ent.holds, List.getD_cons_zero, List.getD_cons_succ] at hK
    have p0' := hR.cell p0
    have p1' := hR.cell p1
    have p2' := hR.cell p2
    have p3' := hR.cell p3
    have p4' := hR.cell p4
    have p5' := hR.cell p5
    have p6' := hR.cell p6
    have s0' := hR.cell s0
    have s1' := hR.cell s1
    have s2' := hR.cell s2
    have s3' := hR.cell s3
    have s4' := hR.cell s4
    have s5' := hR.cell s5
    go_simp
    first
     | exact hK _ _ rfl (Ext.refl _)
     | (exact hK _ _ ⟨_, rfl, Blk.new _ _ _, hR.size⟩ ((Ext.refl _).alloc _))
     | (go_at_call 36
        with_reducible refine (acts_any _).mono ?_
        rintro e w' ⟨a, rfl, ha, hx⟩
        obtain ⟨A, c, e1, h1, h2, h3⟩ := id ha
        exact hK _ _ ⟨A, c, e1, h1, by simpa [maxLen] using h2, ha⟩ hx)
     | (go_at_call 24
        with_reducible refine Calls.mono (HPL.out _ hR _ hd.2.2.1) ?_
        rintro e w' ⟨a, b, rfl, ha, hx⟩
        exact hK _ _ ⟨a, b, rfl, ha⟩ hx)
     | (obtain ⟨A, c, e1, h1, h2, h3⟩ := hd
        have h9 : (9 : Int) ≤ (c : Int) := by omega
        rw [e1] at h3
        rw [e1]
        go_simp
        exact hK _ _ (listV_takeK h3 9 (by decide)) (Ext.refl _))
     | (exact hK _ _ hd (Ext.refl _))
     | (obtain ⟨da, db, hd1, hd2⟩ := hd
        go_simp
        first | exact hK _ _ hd2 (Ext.refl _) | exact hK _ _ trivial (Ext.refl _) | exact hK _ _ rfl (Ext.refl _))
  exact trivial
 intro X W8 hx hR
 simp only [toldX] at hx
 simp only [fillX, List.setIfInBounds_toArray, List.set_cons_succ, List.set_cons_zero]
 obtain ⟨_, _, _, _, h83, _, h85, ⟨B, e12, hB, hlt⟩, _⟩ := hx
 have H83 := hide h83
 obtain ⟨Cx1, ex1, Cx2, ex2, Cx3, ex3, e83, _⟩ := h83
 have e83 : _ = Value.agg #[.int .i64 5, .slice Cx1 3 ex1, .slice Cx2 3 ex2, .slice Cx3 2 ex3, .int .i64 5, .bool false] := e83
 rw [e83] at H83
 rw [e12, e83, h85]
 have HB5 := hide hB
 have HLT := hide hlt
 have HLW := hide HX.out.size
 have HR := hide hR
 clear e12 e83 h85 hB hlt hR HPL p0 p1 p2 p3 p4 p5 p6 s0 s1 s2 s3 s4 s5
 have b0 := cell_heap HB5.out 0 _ rfl
 have gb0 := HB5.out.frozen 0
 have b1 := cell_heap HB5.out 1 _ rfl
 have gb1 := HB5.out.frozen 1
 have b2 := cell_heap HB5.out 2 _ rfl
 have gb2 := HB5.out.frozen 2
 have b3 := cell_heap HB5.out 3 _ rfl
 have gb3 := HB5.out.frozen 3
 have b4 := cell_heap HB5.out 4 _ rfl
 have gb4 := HB5.out.frozen 4
 have b5 := cell_heap HB5.out 5 _ rfl
 have gb5 := HB5.out.frozen 5
 go_upto_region 11 with (fail)
 obtain ⟨W6, hW6⟩ : ∃ V, sets6 W8 B (.int .i64 5) (.slice Cx1 3 ex1) (.slice Cx2 3 ex2) (.slice Cx3 2 ex3) (.int .i64 5) (.bool false) = V := ⟨_, rfl⟩
 have HR6 := hide (show Ext w9 W6 by rw [← hW6]; exact HR.out.sets HLT.out _ _ _ _ _ _)
 have HB := hide (show Blk W6 B 38 #[.int .i64 5, .slice Cx1 3 ex1, .slice Cx2 3 ex2, .slice Cx3 2 ex3, .int .i64 5, .bool false] by rw [← hW6]; exact HB5.out.sets _ _ _ _ _ _)
 have HxO := hide (show StateO W6 0 (.agg #[.int .i64 5, .slice Cx1 3 ex1, .slice Cx2 3 ex2, .slice Cx3 2 ex3, .int .i64 5, .bool false]) ⟨5, [1, 1, 0], [0, 1, 2], [0, 0], 5, false⟩ by rw [← hW6]; exact H83.out.typed HB5.out (OffB.sets _ _ _ _ _ _))
 replace HX := hide (HX.out.trans HR6.out)
 replace HV := hide (knV HV.out HR6.out)
 replace HP := hide (HP.out.ext HR6.out)
 replace HU := hide (HU.out.ext HR6.out)
 replace HS := hide (HS.out.ext HR6.out)
 replace HI0 := hide (HI0.out.ext HR6.out)
 unfold sets6 at hW6
 rw [hW6]
 clear hW6 HB5 H83 HLT HLW HR HR6 b0 b1 b2 b3 b4 b5 gb0 gb1 gb2 gb3 gb4 gb5
 have HZ9 := hide (show IntsV W6 .i64 (.slice Cx1 3 ex1) [1, 1, 0] by obtain ⟨u1, u2, u3, hh, i1, i2, i3⟩ := HxO.out.v; simp only [Value.agg.injEq, Array.mk.injEq, List.cons.injEq] at hh; rw [hh.2.1]; exact i1)
 have HH9 := hide (show IntsV W6 .i64 (.slice Cx2 3 ex2) [0, 1, 2] by obtain ⟨u1, u2, u3, hh, i1, i2, i3⟩ := HxO.out.v; simp only [Value.agg.injEq, Array.mk.injEq, List.cons.injEq] at hh; rw [hh.2.2.1]; exact i2)
 have b0 := cell_heap HB.out 0 _ rfl
 have b1 := cell_heap HB.out 1 _ rfl
 have b2 := cell_heap HB.out 2 _ rfl
 have b3 := cell_heap HB.out 3 _ rfl
 have b4 := cell_heap HB.out 4 _ rfl
 have b5 := cell_heap HB.out 5 _ rfl
 go_wp2_with fail
 refine Calls.mono (ints_self _ _ [0, 1, 2] _ (HI0.out.ext ((Ext.refl _).alloc _)) (intsV_blk (Blk.new _ _ _) rfl rfl (by simp [maxLen]))) ?_
 rintro e w9 ⟨rfl, hxa⟩
 have hx := ((Ext.refl _).alloc _).trans hxa
 replace HX := hide (HX.out.trans hx)
 replace HV := hide (knV HV.out hx)
 replace HP := hide (HP.out.ext hx)
 replace HU := hide (HU.out.ext hx)
 replace HS := hide (HS.out.ext hx)
 replace HI0 := hide (HI0.out.ext hx)
 replace HB := hide (HB.out.ext hx)
 replace HxO := hide (HxO.out.ext hx)
 replace HZ9 := hide (HZ9.out.ext hx)
 replace HH9 := hide (HH9.out.ext hx)
 clear hx hxa b0 b1 b2 b3 b4 b5
 have b0 := cell_heap HB.out 0 _ rfl
 have b1 := cell_heap HB.out 1 _ rfl
 have b2 := cell_heap HB.out 2 _ rfl
 have b3 := cell_heap HB.out 3 _ rfl
 have b4 := cell_heap HB.out 4 _ rfl
 have b5 := cell_heap HB.out 5 _ rfl
 go_wp2_with fail
 refine Calls.mono (ints_self _ _ [1, 1, 0] _ (HZ9.out.ext ((Ext.refl _).alloc _)) (intsV_blk (Blk.new _ _ _) rfl rfl (by simp [maxLen]))) ?_
 rintro e w9 ⟨rfl, hxa⟩
 have hx := ((Ext.refl _).alloc _).trans hxa
 replace HX := hide (HX.out.trans hx)
 replace HV := hide (knV HV.out hx)
 replace HP := hide (HP.out.ext hx)
 replace HU := hide (HU.out.ext hx)
 replace HS := hide (HS.out.ext hx)
 replace HI0 := hide (HI0.out.ext hx)
 replace HB := hide (HB.out.ext hx)
 replace HxO := hide (HxO.out.ext hx)
 replace HZ9 := hide (HZ9.out.ext hx)
 replace HH9 := hide (HH9.out.ext hx)
 clear hx hxa b0 b1 b2 b3 b4 b5
 have b0 := cell_heap HB.out 0 _ rfl
 have b1 := cell_heap HB.out 1 _ rfl
 have b2 := cell_heap HB.out 2 _ rfl
 have b3 := cell_heap HB.out 3 _ rfl
 have b4 := cell_heap HB.out 4 _ rfl
 have b5 := cell_heap HB.out 5 _ rfl
 go_wp2_with fail
 refine Calls.mono (ints_self _ _ [0, 1, 2] _ (HH9.out.ext ((Ext.refl _).alloc _)) (intsV_blk (Blk.new _ _ _) rfl rfl (by simp [maxLen]))) ?_
 rintro e w9 ⟨rfl, hxa⟩
 have hx := ((Ext.refl _).alloc _).trans hxa
 replace HX := hide (HX.out.trans hx)
 replace HV := hide (knV HV.out hx)
 replace HP := hide (HP.out.ext hx)
 replace HU := hide (HU.out.ext hx)
 replace HS := hide (HS.out.ext hx)
 replace HI0 := hide (HI0.out.ext hx)
 replace HB := hide (HB.out.ext hx)
 replace HxO := hide (HxO.out.ext hx)
 replace HZ9 := hide (HZ9.out.ext hx)
 replace HH9 := hide (HH9.out.ext hx)
 clear hx hxa b0 b1 b2 b3 b4 b5
 clear HI0 HZ9 HH9
 have p0 := cell_heap HP.out 0 _ rfl
 have p1 := cell_heap HP.out 1 _ rfl
 have p2 := cell_heap HP.out 2 _ rfl
 have p3 := cell_heap HP.out 3 _ rfl
 have p4 := cell_heap HP.out 4 _ rfl
 have p5 := cell_heap HP.out 5 _ rfl
 have p6 := cell_heap HP.out 6 _ rfl
 have b0 := cell_heap HB.out 0 _ rfl
 have b1 := cell_heap HB.out 1 _ rfl
 have b2 := cell_heap HB.out 2 _ rfl
 have b3 := cell_heap HB.out 3 _ rfl
 have b4 := cell_heap HB.out 4 _ rfl
 have b5 := cell_heap HB.out 5 _ rfl
 go_wp2_with fail
 refine Calls.mono ((knOwed HV.out HxO.out.v).1) ?_
 rintro e w9 ⟨x2, rfl, hi, hx⟩
 replace HX := hide (HX.out.trans hx)
 replace HV := hide (knV HV.out hx)
 replace HP := hide (HP.out.ext hx)
 replace HU := hide (HU.out.ext hx)
 replace HS := hide (HS.out.ext hx)
 replace HB := hide (HB.out.ext hx)
 replace HxO := hide (HxO.out.ext hx)
 clear hx p0 p1 p2 p3 p4 p5 p6 b0 b1 b2 b3 b4 b5
 have HI2 := hide hi
 clear hi
 have p0 := cell_heap HP.out 0 _ rfl
 have p1 := cell_heap HP.out 1 _ rfl
 have p2 := cell_heap HP.out 2 _ rfl
 have p3 := cell_heap HP.out 3 _ rfl
 have p4 := cell_heap HP.out 4 _ rfl
 have p5 := cell_heap HP.out 5 _ rfl
 have p6 := cell_heap HP.out 6 _ rfl
 have b0 := cell_heap HB.out 0 _ rfl
 have b1 := cell_heap HB.out 1 _ rfl
 have b2 := cell_heap HB.out 2 _ rfl
 have b3 := cell_heap HB.out 3 _ rfl
 have b4 := cell_heap HB.out 4 _ rfl
 have b5 := cell_heap HB.out 5 _ rfl
 go_wp2_with fail
 refine Calls.mono ((knOwed HV.out HxO.out.v).2.1) ?_
 rintro e w9 ⟨x3, rfl, hi, hx⟩
 replace HX := hide (HX.out.trans hx)
 replace HV := hide (knV HV.out hx)
 replace HP := hide (HP.out.ext hx)
 replace HU := hide (HU.out.ext hx)
 replace HS := hide (HS.out.ext hx)
 replace HB := hide (HB.out.ext hx)
 replace HxO := hide (HxO.out.ext hx)
 replace HI2 := hide (HI2.out.ext hx)
 clear hx p0 p1 p2 p3 p4 p5 p6 b0 b1 b2 b3 b4 b5
 have HI3 := hide hi
 clear hi
 have p0 := cell_heap HP.out 0 _ rfl
 have p1 := cell_heap HP.out 1 _ rfl
 have p2 := cell_heap HP.out 2 _ rfl
 have p3 := cell_heap HP.out 3 _ rfl
 have p4 := cell_heap HP.out 4 _ rfl
 have p5 := cell_heap HP.out 5 _ rfl
 have p6 := cell_heap HP.out 6 _ rfl
 have b0 := cell_heap HB.out 0 _ rfl
 have b1 := cell_heap HB.out 1 _ rfl
 have b2 := cell_heap HB.out 2 _ rfl
 have b3 := cell_heap HB.out 3 _ rfl
 have b4 := cell_heap HB.out 4 _ rfl
 have b5 := cell_heap HB.out 5 _ rfl
 go_wp2_with fail
 refine Calls.mono ((knOwed HV.out HxO.out.v).2.2) ?_
 rintro e w9 ⟨rfl, hx⟩
 replace HX := hide (HX.out.trans hx)
 replace HV := hide (knV HV.out hx)
 replace HP := hide (HP.out.ext hx)
 replace HU := hide (HU.out.ext hx)
 replace HS := hide (HS.out.ext hx)
 replace HB := hide (HB.out.ext hx)
 replace HxO := hide (HxO.out.ext hx)
 replace HI2 := hide (HI2.out.ext hx)
 replace HI3 := hide (HI3.out.ext hx)
 clear hx p0 p1 p2 p3 p4 p5 p6 b0 b1 b2 b3 b4 b5
 have p0 := cell_heap HP.out 0 _ rfl
 have p1 := cell_heap HP.out 1 _ rfl
 have p2 := cell_heap HP.out 2 _ rfl
 have p3 := cell_heap HP.out 3 _ rfl
 have p4 := cell_heap HP.out 4 _ rfl
 have p5 := cell_heap HP.out 5 _ rfl
 have p6 := cell_heap HP.out 6 _ rfl
 have s0 := cell_heap HS.out 0 _ rfl
 have s1 := cell_heap HS.out 1 _ rfl
 have s2 := cell_heap HS.out 2 _ rfl
 have s3 := cell_heap HS.out 3 _ rfl
 have s4 := cell_heap HS.out 4 _ rfl
 have s5 := cell_heap HS.out 5 _ rfl
 go_wp2_with fail
 obtain ⟨wr, hwr⟩ : ∃ V, w9 = V := ⟨_, rfl⟩
 subst hwr
 have HPL := hide (fun V (hV : Ext w9 V) l hl => (knPlay (l := l) (knV HV.out hV) (HU.out.ext hV)).2 hl)
 apply wp_region_g [7, 8] 10 [150, 151, 152, 153, 154, 149, 155, 156, 157, 17]
  [.is _, .is _, .so (fun v W => ∃ A c, v = .slice A 23 c ∧ 23 ≤ c ∧ c ≤ 9223372036854775807 ∧ ListV 5 PAct.cell W v exActs), .so (fun v W => ListV 5 PAct.cell W v (exActs.take 21)), .so (fun v W => KnT ⟨109, [0, 0, 0], [-1, -1, 2], [0, 0], 5, true⟩ v W), .so (fun v W => KnT ⟨109, [0, 0, 0], [-1, -1, 2], [0, 0], 5, true⟩ v W), .so (fun v W => StateO W 0 v ⟨109, [0, 0, 0], [-1, -1, 2], [0, 0], 5, true⟩), .so (fun _ _ => True), .so (fun v _ => v = .int .i64 0), .so (fun v W => BoxK w9.heap.size v W)]
  [(1, _), (8, _)]
 ·kernel_rfl
 ·decide
 ·decide
 ·rfl
 ·kernel_rfl
 ·decide +kernel
 ·kernel_rfl
 ·kernel_rfl
 ·kernel_rfl
 ·kernel_rfl
 ·kernel_rfl
 ·kernel_rfl
 ·kernel_rfl
 ·kernel_rfl
 ·kernel_rfl
 ·rfl
 ·intro c a d v w h; cases d <;> exact h
 ·exact ⟨trivial, trivial, fun v A B h k => by obtain ⟨a, c, h1, h2, h3, h4⟩ := h; exact ⟨a, c, h1, h2, h3, h4.ext k⟩, fun v A B h k => h.ext k, fun v A B h k => by obtain ⟨a, b, h1, h2⟩ := h; exact ⟨a, b, h1, h2.ext k⟩, fun v A B h k => by obtain ⟨a, b, h1, h2⟩ := h; exact ⟨a, b, h1, h2.ext k⟩, fun v A B h k => h.ext k, fun _ _ _ _ _ => trivial, fun _ _ _ h _ => h, fun v A B h k => h.ext k, trivial⟩
 ·refine ⟨?_, ?_, trivial⟩ <;> (simp; rfl)
 ·repeat
   refine ⟨?_, ?_⟩
   ·intro F W18 hF hd hR
    simp [fixedAt] at hF
    obtain ⟨t1, t8⟩ := hF
    simp [Region.binds, Ent.holds] at hd
    refine ⟨fun _ K hK => ?_, by intro g b h hn; first | (cases h; done) | (cases h; exact absurd (by simp [hd]) hn)⟩
    simp only [Ent.holds, List.getD_cons_zero, List.getD_cons_succ] at hK
    have p0' := hR.cell p0
    have p1' := hR.cell p1
    have p2' := hR.cell p2
    have p3' := hR.cell p3
    have p4' := hR.cell p4
    have p5' := hR.cell p5
    have p6' := hR.cell p6
    have s0' := hR.cell s0
    have s1' := hR.cell s1
    have s2' := hR.cell s2
    have s3' := hR.cell s3
    have s4' := hR.cell s4
    have s5' := hR.cell s5
    go_simp
    first
     | exact hK _ _ rfl (Ext.refl _)
     | (exact hK _ _ ⟨_, rfl, Blk.new _ _ _, hR.size⟩ ((Ext.refl _).alloc _))
     | (go_at_call 36
        with_reducible refine (acts_any _).mono ?_
        rintro e w' ⟨a, rfl, ha, hx⟩
        obtain ⟨A, c, e1, h1, h2, h3⟩ := id ha
        exact hK _ _ ⟨A, c, e1, h1, by simpa [maxLen] using h2, ha⟩ hx)
     | (go_at_call 24
        with_reducible refine Calls.mono (HPL.out _ hR _ hd.2.2.1) ?_
        rintro e w' ⟨a, b, rfl, ha, hx⟩
        exact hK _ _ ⟨a, b, rfl, ha⟩ hx)
     | (obtain ⟨A, c, e1, h1, h2, h3⟩ := hd
        have h9 : (21 : Int) ≤ (c : Int) := by omega
        rw [e1] at h3
        rw [e1]
        go_simp
        exact hK _ _ (listV_takeK h3 21 (by decide)) (Ext.refl _))
     | (exact hK _ _ hd (Ext.refl _))
     | (obtain ⟨da, db, hd1, hd2⟩ := hd
        go_simp
        first | exact hK _ _ hd2 (Ext.refl _) | exact hK _ _ trivial (Ext.refl _) | exact hK _ _ rfl (Ext.refl _))
  exact trivial
 intro X W18 hx hR
 simp only [toldX] at hx
 simp only [fillX, List.setIfInBounds_toArray, List.set_cons_succ, List.set_cons_zero]
 obtain ⟨_, _, _, _, h83, _, h85, ⟨B2, e12, hB, hlt⟩, _⟩ := hx
 have H83 := hide h83
 obtain ⟨Cy1, ey1, Cy2, ey2, Cy3, ey3, e83, _⟩ := h83
 have e83 : _ = Value.agg #[.int .i64 109, .slice Cy1 3 ey1, .slice Cy2 3 ey2, .slice Cy3 2 ey3, .int .i64 5, .bool true] := e83
 rw [e83] at H83
 rw [e12, e83, h85]
 have HB5 := hide hB
 have HLT := hide hlt
 have HLW := hide HX.out.size
 have HR := hide hR
 clear e12 e83 h85 hB hlt hR HPL p0 p1 p2 p3 p4 p5 p6 s0 s1 s2 s3 s4 s5
 have b0 := cell_heap HB5.out 0 _ rfl
 have gb0 := HB5.out.frozen 0
 have b1 := cell_heap HB5.out 1 _ rfl
 have gb1 := HB5.out.frozen 1
 have b2 := cell_heap HB5.out 2 _ rfl
 have gb2 := HB5.out.frozen 2
 have b3 := cell_heap HB5.out 3 _ rfl
 have gb3 := HB5.out.frozen 3
 have b4 := cell_heap HB5.out 4 _ rfl
 have gb4 := HB5.out.frozen 4
 have b5 := cell_heap HB5.out 5 _ rfl
 have gb5 := HB5.out.frozen 5
 go_upto_region 17 with (fail)
 obtain ⟨W6, hW6⟩ : ∃ V, sets6 W18 B2 (.int .i64 109) (.slice Cy1 3 ey1) (.slice Cy2 3 ey2) (.slice Cy3 2 ey3) (.int .i64 5) (.bool true) = V := ⟨_, rfl⟩
 have HR6 := hide (show Ext w9 W6 by rw [← hW6]; exact HR.out.sets HLT.out _ _ _ _ _ _)
 have HD := hide (show Blk W6 B2 38 #[.int .i64 109, .slice Cy1 3 ey1, .slice Cy2 3 ey2, .slice Cy3 2 ey3, .int .i64 5, .bool true] by rw [← hW6]; exact HB5.out.sets _ _ _ _ _ _)
 have HyO := hide (show StateO W6 0 (.agg #[.int .i64 109, .slice Cy1 3 ey1, .slice Cy2 3 ey2, .slice Cy3 2 ey3, .int .i64 5, .bool true]) ⟨109, [0, 0, 0], [-1, -1, 2], [0, 0], 5, true⟩ by rw [← hW6]; exact H83.out.typed HB5.out (OffB.sets _ _ _ _ _ _))
 replace HX := hide (HX.out.trans HR6.out)
 replace HV := hide (knV HV.out HR6.out)
 replace HP := hide (HP.out.ext HR6.out)
 replace HU := hide (HU.out.ext HR6.out)
 replace HS := hide (HS.out.ext HR6.out)
 replace HB := hide (HB.out.ext HR6.out)
 replace HxO := hide (HxO.out.ext HR6.out)
 replace HI2 := hide (HI2.out.ext HR6.out)
 replace HI3 := hide (HI3.out.ext HR6.out)
 unfold sets6 at hW6
 rw [hW6]
 clear hW6 HB5 H83 HLT HLW HR HR6 b0 b1 b2 b3 b4 b5 gb0 gb1 gb2 gb3 gb4 gb5
 have HQ := hide (show IntsV W6 .i64 (.slice Cy3 2 ey3) [0, 0] by obtain ⟨u1, u2, u3, hh, i1, i2, i3⟩ := HyO.out.v; simp only [Value.agg.injEq, Array.mk.injEq, List.cons.injEq] at hh; rw [hh.2.2.2.1]; exact i3)
 have d0 := cell_heap HD.out 0 _ rfl
 have d1 := cell_heap HD.out 1 _ rfl
 have d2 := cell_heap HD.out 2 _ rfl
 have d3 := cell_heap HD.out 3 _ rfl
 have d4 := cell_heap HD.out 4 _ rfl
 have d5 := cell_heap HD.out 5 _ rfl
 go_wp2_with fail
 refine Calls.mono (ints_self _ _ [0, 1] _ (HI2.out.ext ((Ext.refl _).alloc _)) (intsV_blk (Blk.new _ _ _) rfl rfl (by simp [maxLen]))) ?_
 rintro e w9 ⟨rfl, hxa⟩
 have hx := ((Ext.refl _).alloc _).trans hxa
 replace HX := hide (HX.out.trans hx)
 replace HI2 := hide (HI2.out.ext hx)
 replace HI3 := hide (HI3.out.ext hx)
 replace HD := hide (HD.out.ext hx)
 replace HQ := hide (HQ.out.ext hx)
 clear hx hxa d0 d1 d2 d3 d4 d5
 have d0 := cell_heap HD.out 0 _ rfl
 have d1 := cell_heap HD.out 1 _ rfl
 have d2 := cell_heap HD.out 2 _ rfl
 have d3 := cell_heap HD.out 3 _ rfl
 have d4 := cell_heap HD.out 4 _ rfl
 have d5 := cell_heap HD.out 5 _ rfl
 go_wp2_with fail
 refine Calls.mono (ints_self _ _ [2] _ (HI3.out.ext ((Ext.refl _).alloc _)) (intsV_blk (Blk.new _ _ _) rfl rfl (by simp [maxLen]))) ?_
 rintro e w9 ⟨rfl, hxa⟩
 have hx := ((Ext.refl _).alloc _).trans hxa
 replace HX := hide (HX.out.trans hx)
 replace HI2 := hide (HI2.out.ext hx)
 replace HI3 := hide (HI3.out.ext hx)
 replace HD := hide (HD.out.ext hx)
 replace HQ := hide (HQ.out.ext hx)
 clear hx hxa d0 d1 d2 d3 d4 d5
 have d0 := cell_heap HD.out 0 _ rfl
 have d1 := cell_heap HD.out 1 _ rfl
 have d2 := cell_heap HD.out 2 _ rfl
 have d3 := cell_heap HD.out 3 _ rfl
 have d4 := cell_heap HD.out 4 _ rfl
 have d5 := cell_heap HD.out 5 _ rfl
 go_wp2_with fail
 refine Calls.mono (ints_self _ _ [0, 0] _ (HQ.out.ext ((Ext.refl _).alloc _)) (intsV_blk (Blk.new _ _ _) rfl rfl (by simp [maxLen]))) ?_
 rintro e w9 ⟨rfl, hxa⟩
 have hx := ((Ext.refl _).alloc _).trans hxa
 replace HX := hide (HX.out.trans hx)
 replace HI2 := hide (HI2.out.ext hx)
 replace HI3 := hide (HI3.out.ext hx)
 replace HD := hide (HD.out.ext hx)
 replace HQ := hide (HQ.out.ext hx)
 clear hx hxa d0 d1 d2 d3 d4 d5
 go_wp2_with fail
 refine (awake_any _).mono ?_
 rintro e w9 ⟨rfl, hx9⟩
 have HX9 := hide (HX.out.trans hx9)
 clear hx9
 go_wp2_with fail
 go_ret
 exact ⟨rfl, HX9.out⟩
theorem own : ownKnob Try.prog.godebug = none := by kernel_rfl
theorem laidOut : laidOutB Try.prog = true := by kernel_rfl
set_option maxRecDepth 100000 in
theorem lifted (os : Os) (started : os.Started) (H : Type) (enc : TypeId × Value → H) :
 ReturnsInHanded {} Try.checked os 15 .any (Rows.padKnownSpec.pre6 enc Try.prog Try.f15 Rows.padKnownRow.domain false) (Rows.padKnownSpec.post enc Try.prog Try.f15 false true false false) := by
 refine returnsInHanded_of_change_sized (C := Try.checked) own started (by kernel_rfl) Try.func15
  (ChangeSpec.witness6 (enc := enc) (C := Try.checked) false ⟨#[], #[], []⟩ 8 (by kernel_rfl) (by kernel_rfl) (by kernel_rfl) (by kernel_rfl)) ?_
 intro W base args ds gs before _ hW hcnd _ _
 have hW' := hW
 obtain ⟨p, q, hA0, hV, rfl, hfz, hnd⟩ := hW
 have hA : DataW.TrodAll enc Try.prog W 0 (fun _ => true) true Try.f15.params.toList args.toList ds p := hA0
 rw [Try.params15] at hA
 obtain ⟨hargs, rfl, rfl⟩ := trodAll_nil hA
 obtain rfl : args = #[] := by cases args; simp_all
 obtain ⟨rfl, rfl⟩ := trodVars_none hV
 clear hA0
 refine (walk W).mono fun e W' ⟨he, bel⟩ => ?_
 subst he
 exact ⟨_, rfl, _, _, _, [], _, [], hW', trodAll_mk1 (shut_bool Try.underlying4 _), trodAll_mk0, rfl, bel.frame _, fun h => by cases h⟩
theorem over : Rows.padKnownRow.holds Try.pinned (OpenSpec.ofChange Rows.padKnownSpec) :=
 OpenClaim.holds_of_wide 15 Try.f15 rfl rfl rfl rfl rfl rfl rfl ⟨rfl, rfl, rfl, rfl, rfl⟩ rfl rfl rfl rfl rfl (by kernel_rfl) Try.func15 (by kernel_rfl)
  (of_decide_eq_true (by kernel_rfl)) (by unfold Func.isWrapper; first | (rw [if_pos (by decide +kernel)]; kernel_rfl) | (rw [if_neg (by decide +kernel)]; exact ⟨rfl, rfl⟩))
  (fun os started H enc _ => lifted os started H enc)
end PadKnownLaw
/-- The statement. -/
theorem known_holds : Rows.PadKnownSaid := PadKnownLaw.over
end Go.Proofs.Ythcnganbnbhhoaa
