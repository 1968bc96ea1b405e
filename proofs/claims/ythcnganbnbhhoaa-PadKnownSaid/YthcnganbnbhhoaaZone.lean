/- The walks of pad.zone and of the names that Check takes. -/
import Derived.Test.YthcnganbnbhhoaaSmall
namespace Go.Proofs.Ythcnganbnbhhoaa
open Go.RowKit Go.Shelf
def placeB (n : Int) : Bool := inB n (-10000000) 10000000
def sideB (lo hi : Int) : Bool := placeB lo && (placeB hi && decide (lo ≤ hi))
/-- The error of a zone, but for its name. -/
def zoneE (z : Zone) : Int := if (sideB z.xlo z.xhi && sideB z.ylo z.yhi && inB z.grade 0 9 && inB z.room 1 8) = true then 0 else 7
theorem ints_lit (w : World) (l : List Int) (t : TypeId) (hm : l.length ≤ maxLen) : IntsV (w.alloc (.cells (l.map (Value.int .i64)).toArray t)) .i64 (.slice (some ⟨w.heap.size, 0, none⟩) l.length l.length) l := by
 have h := Own.lit w 0 t 1 l.length (l.map (Value.int .i64)).toArray (Nat.zero_le _) (by simp) hm
 exact Own.ints (base := 0) (e := t) (by simpa using h)
theorem any_off (l : List Int) : anyB (fun k => outB (l.getD k 0) (-10000000) 10000000) l.length = !l.all placeB := by
 rw [Bool.eq_iff_iff, anyB_t]
 constructor
 ·rintro ⟨j, hj, h⟩
  rw [Bool.not_eq_true', List.all_eq_false]
  refine ⟨l.getD j 0, by rw [List.getD_eq_getElem?_getD, List.getElem?_eq_getElem hj]; exact List.getElem_mem _, ?_⟩
  unfold placeB
  rw [← outB_not, h]; decide
 ·intro h
  rw [Bool.not_eq_true', List.all_eq_false] at h
  obtain ⟨x, hx, h⟩ := h
  obtain ⟨j, hj, e⟩ := List.getElem_of_mem hx
  refine ⟨j, hj, ?_⟩
  rw [List.getD_eq_getElem?_getD, List.getElem?_eq_getElem hj, Option.getD_some, e]
  unfold placeB at h
  rw [← outB_not] at h
  simpa using h
def ZoneCut (W0 : World) (a b c d : Int) (v3 v4 : Value) (wx : World) : Prop :=
 Ext W0 wx ∧ ∃ p q, v3 = .pointer (some ⟨p, 0, none⟩) ∧ v4 = .pointer (some ⟨q, 0, none⟩) ∧ wx.cell? ⟨p, 0, none⟩ = some (.int .i64 a) ∧ wx.cell? ⟨p, 1, none⟩ = some (.int .i64 b) ∧ wx.cell? ⟨q, 0, none⟩ = some (.int .i64 c) ∧ wx.cell? ⟨q, 1, none⟩ = some (.int .i64 d)
set_option maxRecDepth 100000 in
set_option maxHeartbeats 1000000 in
/-- pad.zone -/
theorem zone_any (z : Zone) (w : World) : Calls Try.prog 40 #[z.val] w fun e w' => e = .returned (.int .i64 (zoneE z)) ∧ Ext w w' := by
 obtain ⟨nm, a, b, c, d, gr, rm, pr⟩ := z
 unfold Zone.val
 dsimp only
 have HZ := hide (show zoneE ⟨nm, a, b, c, d, gr, rm, pr⟩ = if ([a, b, c, d].all placeB && decide (a ≤ b) && decide (c ≤ d) && inB gr 0 9 && inB rm 1 8) = true then 0 else 7 by
  unfold zoneE sideB
  dsimp only
  congr 2
  simp only [List.all_cons, List.all_nil, Bool.and_true]
  cases placeB a <;> cases placeB b <;> cases placeB c <;> cases placeB d <;> simp)
 obtain ⟨W0, hW0⟩ : ∃ W0, w.alloc (.cells #[.string nm, .int .i64 a, .int .i64 b, .int .i64 c, .int .i64 d, .int .i64 gr, .int .i64 rm, .bool pr] 61) = W0 := ⟨_, rfl⟩
 have hx0 : Ext w W0 := by rw [← hW0]; exact (Ext.refl w).alloc _
 have z1 : W0.cell? ⟨w.heap.size, 1, none⟩ = some (.int .i64 a) := by rw [← hW0]; exact cell_mk w _ _ 1 _ rfl
 have z2 : W0.cell? ⟨w.heap.size, 2, none⟩ = some (.int .i64 b) := by rw [← hW0]; exact cell_mk w _ _ 2 _ rfl
 have z3 : W0.cell? ⟨w.heap.size, 3, none⟩ = some (.int .i64 c) := by rw [← hW0]; exact cell_mk w _ _ 3 _ rfl
 have z4 : W0.cell? ⟨w.heap.size, 4, none⟩ = some (.int .i64 d) := by rw [← hW0]; exact cell_mk w _ _ 4 _ rfl
 have z5 : W0.cell? ⟨w.heap.size, 5, none⟩ = some (.int .i64 gr) := by rw [← hW0]; exact cell_mk w _ _ 5 _ rfl
 have z6 : W0.cell? ⟨w.heap.size, 6, none⟩ = some (.int .i64 rm) := by rw [← hW0]; exact cell_mk w _ _ 6 _ rfl
 have HX0 := hide hx0
 have HW0 := hide hW0
 clear hx0 hW0
 go_enter Try.func40, Try.ntmps40
 go_wp2_with fail
 rw [HW0.out]
 have hb0 := World.block_lt_of_cell? _ _ z1
 dsimp only at hb0
 go_cut [3, 4] (ZoneCut W0 a b c d)
 case first =>
  go_region_held3 (fun w' => w'.cell? ⟨w.heap.size, 1, none⟩ = some (.int .i64 a) ∧ w'.cell? ⟨w.heap.size, 2, none⟩ = some (.int .i64 b) ∧ w'.cell? ⟨w.heap.size, 3, none⟩ = some (.int .i64 c) ∧ w'.cell? ⟨w.heap.size, 4, none⟩ = some (.int .i64 d)) (go_keep) (fail)
  all_goals (go_wp2_with fail; go_meet)
  ·exact ⟨(((Ext.refl _).alloc _).alloc _).drew, _, _, rfl, rfl, by simp, by simp, by simp, by simp⟩
  ·exact ⟨(((Ext.refl _).alloc _).alloc _).drew, _, _, rfl, rfl, by simp, by simp, by simp, by simp⟩
 case rest =>
  obtain ⟨hx1, p, q, rfl, rfl, y0, y1, y2, y3⟩ := hcut
  have HX1 := hide (HX0.out.trans hx1)
  have z5' := hx1.cell z5
  have z6' := hx1.cell z6
  have HOF := hide (fun V hv => off_any (.slice (some ⟨wc.heap.size, 0, none⟩) 4 4) [a, b, c, d] V hv)
  have e4 : ([a, b, c, d] : List Int).length = 4 := rfl
  have hofe := any_off [a, b, c, d]
  rw [hofe] at HOF
  have HLT := hide (ints_lit wc [a, b, c, d] 3 (by simp [maxLen]))
  have HLO := hide (fun V => low_any gr V)
  have HOU := hide (fun V => out_any rm 1 8 V)
  rw [show outB gr 0 9 = !inB gr 0 9 from by rw [← outB_not, Bool.not_not]] at HLO
  rw [show outB rm 1 8 = !inB rm 1 8 from by rw [← outB_not, Bool.not_not]] at HOU
  generalize ([a, b, c, d] : List Int).all placeB = B1 at *
  generalize inB gr 0 9 = B4 at *
  generalize inB rm 1 8 = B5 at *
  clear hx1 z1 z2 z3 z4 z5 z6 hofe e4
  have hbp := World.block_lt_of_cell? _ _ y0
  have hbq := World.block_lt_of_cell? _ _ y2
  have hbz := World.block_lt_of_cell? _ _ z5'
  dsimp only at hbp hbq hbz
  cases B1 with
  | false =>
    go_wp2_with (first
     | (go_at_call 75; refine (HOF.out _ HLT.out).mono ?_; rintro e w2 ⟨rfl, hx2⟩; have hw2 : Ext wc w2 := ((Ext.refl wc).alloc _).trans hx2; have v0 := hw2.cell y0; have v1 := hw2.cell y1; have v2 := hw2.cell y2; have v3 := hw2.cell y3; have v5 := hw2.cell z5'; have v6 := hw2.cell z6')
     | (go_at_call 44; refine (HLO.out _).mono ?_; rintro e w3 ⟨rfl, rfl⟩)
     | (go_at_call 37; refine (HOU.out _).mono ?_; rintro e w4 ⟨rfl, rfl⟩))
    go_ret
    exact ⟨ret_int (by rw [HZ.out]; simp), HX1.out.trans hw2⟩
  | true =>
    by_cases hab : a ≤ b
    ·have dhab : decide (b < a) = false := decide_eq_false (by omega)
     have Ehab := hide (show decide (a ≤ b) = true from decide_eq_true (by omega))
     by_cases hcd : c ≤ d
     ·have dhcd : decide (d < c) = false := decide_eq_false (by omega)
      have Ehcd := hide (show decide (c ≤ d) = true from decide_eq_true (by omega))
      cases B4 with
      | false =>
        go_wp2_with (first
         | (go_at_call 75; refine (HOF.out _ HLT.out).mono ?_; rintro e w2 ⟨rfl, hx2⟩; have hw2 : Ext wc w2 := ((Ext.refl wc).alloc _).trans hx2; have v0 := hw2.cell y0; have v1 := hw2.cell y1; have v2 := hw2.cell y2; have v3 := hw2.cell y3; have v5 := hw2.cell z5'; have v6 := hw2.cell z6')
         | (go_at_call 44; refine (HLO.out _).mono ?_; rintro e w3 ⟨rfl, rfl⟩)
         | (go_at_call 37; refine (HOU.out _).mono ?_; rintro e w4 ⟨rfl, rfl⟩))
        go_ret
        exact ⟨ret_int (by rw [HZ.out, Ehab.out, Ehcd.out]; simp), HX1.out.trans hw2⟩
      | true =>
        cases B5 with
        | false =>
          go_wp2_with (first
           | (go_at_call 75; refine (HOF.out _ HLT.out).mono ?_; rintro e w2 ⟨rfl, hx2⟩; have hw2 : Ext wc w2 := ((Ext.refl wc).alloc _).trans hx2; have v0 := hw2.cell y0; have v1 := hw2.cell y1; have v2 := hw2.cell y2; have v3 := hw2.cell y3; have v5 := hw2.cell z5'; have v6 := hw2.cell z6')
           | (go_at_call 44; refine (HLO.out _).mono ?_; rintro e w3 ⟨rfl, rfl⟩)
           | (go_at_call 37; refine (HOU.out _).mono ?_; rintro e w4 ⟨rfl, rfl⟩))
          go_ret
          exact ⟨ret_int (by rw [HZ.out, Ehab.out, Ehcd.out]; simp), HX1.out.trans hw2⟩
        | true =>
          go_wp2_with (first
           | (go_at_call 75; refine (HOF.out _ HLT.out).mono ?_; rintro e w2 ⟨rfl, hx2⟩; have hw2 : Ext wc w2 := ((Ext.refl wc).alloc _).trans hx2; have v0 := hw2.cell y0; have v1 := hw2.cell y1; have v2 := hw2.cell y2; have v3 := hw2.cell y3; have v5 := hw2.cell z5'; have v6 := hw2.cell z6')
           | (go_at_call 44; refine (HLO.out _).mono ?_; rintro e w3 ⟨rfl, rfl⟩)
           | (go_at_call 37; refine (HOU.out _).mono ?_; rintro e w4 ⟨rfl, rfl⟩))
          go_ret
          exact ⟨ret_int (by rw [HZ.out, Ehab.out, Ehcd.out]; simp), HX1.out.trans hw2⟩
     ·have dhcd : decide (d < c) = true := decide_eq_true (by omega)
      have Ehcd := hide (show decide (c ≤ d) = false from decide_eq_false (by omega))
      go_wp2_with (first
       | (go_at_call 75; refine (HOF.out _ HLT.out).mono ?_; rintro e w2 ⟨rfl, hx2⟩; have hw2 : Ext wc w2 := ((Ext.refl wc).alloc _).trans hx2; have v0 := hw2.cell y0; have v1 := hw2.cell y1; have v2 := hw2.cell y2; have v3 := hw2.cell y3; have v5 := hw2.cell z5'; have v6 := hw2.cell z6')
       | (go_at_call 44; refine (HLO.out _).mono ?_; rintro e w3 ⟨rfl, rfl⟩)
       | (go_at_call 37; refine (HOU.out _).mono ?_; rintro e w4 ⟨rfl, rfl⟩))
      go_ret
      exact ⟨ret_int (by rw [HZ.out, Ehab.out, Ehcd.out]; simp), HX1.out.trans hw2⟩
    ·have dhab : decide (b < a) = true := decide_eq_true (by omega)
     have Ehab := hide (show decide (a ≤ b) = false from decide_eq_false (by omega))
     go_wp2_with (first
      | (go_at_call 75; refine (HOF.out _ HLT.out).mono ?_; rintro e w2 ⟨rfl, hx2⟩; have hw2 : Ext wc w2 := ((Ext.refl wc).alloc _).trans hx2; have v0 := hw2.cell y0; have v1 := hw2.cell y1; have v2 := hw2.cell y2; have v3 := hw2.cell y3; have v5 := hw2.cell z5'; have v6 := hw2.cell z6')
      | (go_at_call 44; refine (HLO.out _).mono ?_; rintro e w3 ⟨rfl, rfl⟩)
      | (go_at_call 37; refine (HOU.out _).mono ?_; rintro e w4 ⟨rfl, rfl⟩))
     go_ret
     exact ⟨ret_int (by rw [HZ.out, Ehab.out]; simp), HX1.out.trans hw2⟩
end Go.Proofs.Ythcnganbnbhhoaa
