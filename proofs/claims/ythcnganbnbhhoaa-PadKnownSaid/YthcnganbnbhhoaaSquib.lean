/- The walk of pad.squib. -/
import Derived.Test.YthcnganbnbhhoaaZone

namespace Go.Proofs.Ythcnganbnbhhoaa
open Go.RowKit Go.Shelf
/-- The error of a squib of a pad with so many keys, but for its name. -/
def squibE (q : Squib) (n : Int) : Int :=
 if (placeB q.x && placeB q.y && inB q.clear 0 10000000 && inB q.grade 0 9) = false then 7
 else if q.keys.length = 0 then 4
 else if anyB (fun k => outB (q.keys.getD k 0) 0 (n - 1)) q.keys.length = true then 4
 else if anyB (fun i => decide (q.keys.getD (i + 1) 0 ≤ q.keys.getD i 0)) (q.keys.length - 1) = true then 2 else 0
theorem squibE_7 {q : Squib} {n : Int} (h : (placeB q.x && placeB q.y && inB q.clear 0 10000000 && inB q.grade 0 9) = false) : squibE q n = 7 := if_pos h
theorem squibE_z {q : Squib} {n : Int} (h : (placeB q.x && placeB q.y && inB q.clear 0 10000000 && inB q.grade 0 9) = true) (h1 : q.keys.length = 0) : squibE q n = 4 := by
 unfold squibE; rw [if_neg (by rw [h]; decide), if_pos h1]
theorem squibE_4 {q : Squib} {n : Int} (h : (placeB q.x && placeB q.y && inB q.clear 0 10000000 && inB q.grade 0 9) = true) (h1 : q.keys.length ≠ 0) (h2 : anyB (fun k => outB (q.keys.getD k 0) 0 (n - 1)) q.keys.length = true) : squibE q n = 4 := by
 unfold squibE; rw [if_neg (by rw [h]; decide), if_neg h1, if_pos h2]
theorem squibE_r {q : Squib} {n : Int} (h : (placeB q.x && placeB q.y && inB q.clear 0 10000000 && inB q.grade 0 9) = true) (h1 : q.keys.length ≠ 0) (h2 : anyB (fun k => outB (q.keys.getD k 0) 0 (n - 1)) q.keys.length = false) :
 squibE q n = if anyB (fun i => decide (q.keys.getD (i + 1) 0 ≤ q.keys.getD i 0)) (q.keys.length - 1) = true then 2 else 0 := by
 unfold squibE; rw [if_neg (by rw [h]; decide), if_neg h1, if_neg (by rw [h2]; decide)]
set_option maxRecDepth 100000 in
set_option maxHeartbeats 400000 in
/-- pad.squib$1 -/
theorem squibKey_any (k n : Int) (B : Nat) (w : World) (h0 : 0 ≤ n) (h1 : n ≤ 9223372036854775807) (hc : w.cell? ⟨B, 0, none⟩ = some (.int .i64 n)) :
 Calls Try.prog 77 #[.int .i64 k, .pointer (some ⟨B, 0, none⟩)] w fun e w' => e = .returned (.bool (outB k 0 (n - 1))) ∧ w = w' := by
 go_enter Try.func77, Try.ntmps77
 go_wp2_with (go_at_call 37; refine (out_any _ _ _ _).mono ?_; rintro e w' ⟨rfl, rfl⟩)
 go_ret
 exact ⟨ret_bool rfl, rfl⟩
set_option maxRecDepth 100000 in
set_option maxHeartbeats 2000000 in
/-- pad.squib -/
theorem squib_any (q : SquibX) (n : Nat) (w : World) (hn : n ≤ 9223372036854775807) (hq : IntsV w .i64 q.2 q.1.keys) :
 Calls Try.prog 51 #[q.val, .int .i64 n] w fun e w' => e = .returned (.int .i64 (squibE q.1 n)) ∧ Ext w w' := by
 obtain ⟨⟨nm, x, y, cl, gr, ks⟩, kv⟩ := q
 obtain ⟨A, cap, hkv, hcap, hmax, hrow⟩ := hq
 dsimp only at hkv hcap hrow
 subst hkv
 have hm : cap ≤ 9223372036854775807 := by simpa [maxLen] using hmax
 have HROW := hide hrow
 unfold SquibX.val
 dsimp only
 have H7 := hide (@squibE_7 ⟨nm, x, y, cl, gr, ks⟩ n)
 have HZ := hide (@squibE_z ⟨nm, x, y, cl, gr, ks⟩ n)
 have H4 := hide (@squibE_4 ⟨nm, x, y, cl, gr, ks⟩ n)
 have HR := hide (@squibE_r ⟨nm, x, y, cl, gr, ks⟩ n)
 generalize squibE ⟨nm, x, y, cl, gr, ks⟩ n = er at *
 dsimp only at H7 HZ H4 HR
 obtain ⟨W0, hW0⟩ : ∃ W0, (w.alloc (.cells #[.string nm, .int .i64 x, .int .i64 y, .int .i64 cl, .int .i64 gr, .slice A ks.length cap] 55)).alloc (.cells #[.int .i64 n] 3) = W0 := ⟨_, rfl⟩
 have hx0 : Ext w W0 := by rw [← hW0]; exact ((Ext.refl w).alloc _).alloc _
 have hA : Ext (w.alloc (.cells #[.string nm, .int .i64 x, .int .i64 y, .int .i64 cl, .int .i64 gr, .slice A ks.length cap] 55)) W0 := by rw [← hW0]; exact (Ext.refl _).alloc _
 have z1 : W0.cell? ⟨w.heap.size, 1, none⟩ = some (.int .i64 x) := hA.cell (cell_mk w _ _ 1 _ rfl)
 have z2 : W0.cell? ⟨w.heap.size, 2, none⟩ = some (.int .i64 y) := hA.cell (cell_mk w _ _ 2 _ rfl)
 have z3 : W0.cell? ⟨w.heap.size, 3, none⟩ = some (.int .i64 cl) := hA.cell (cell_mk w _ _ 3 _ rfl)
 have z4 : W0.cell? ⟨w.heap.size, 4, none⟩ = some (.int .i64 gr) := hA.cell (cell_mk w _ _ 4 _ rfl)
 have z5 : W0.cell? ⟨w.heap.size, 5, none⟩ = some (.slice A ks.length cap) := hA.cell (cell_mk w _ _ 5 _ rfl)
 have z6 : W0.cell? ⟨w.heap.size + 1, 0, none⟩ = some (.int .i64 n) := by rw [← hW0]; simp
 have HX0 := hide hx0
 have HW0 := hide hW0
 have hb0 := World.block_lt_of_cell? _ _ z1
 have hb1 := World.block_lt_of_cell? _ _ z6
 dsimp only at hb0 hb1
 have HOF := hide (fun V hv => off_any (.slice (some ⟨W0.heap.size, 0, none⟩) 2 2) [x, y] V hv)
 have hofe := any_off [x, y]
 rw [hofe, show ([x, y] : List Int).all placeB = (placeB x && placeB y) by simp] at HOF
 have hlit := ints_lit W0 [x, y] 3 (by simp [maxLen])
 have hsz : W0.heap.size = w.heap.size + 1 + 1 := by rw [← HW0.out]; simp
 rw [hsz] at hlit HOF hb0 hb1
 have HLT := hide hlit
 clear hlit hsz
 have HLO := hide (fun V => low_any gr V)
 have HOU := hide (fun V => out_any cl 0 10000000 V)
 rw [show outB gr 0 9 = !inB gr 0 9 from by rw [← outB_not, Bool.not_not]] at HLO
 rw [show outB cl 0 10000000 = !inB cl 0 10000000 from by rw [← outB_not, Bool.not_not]] at HOU
 generalize (placeB x && placeB y) = B1 at *
 generalize inB cl 0 10000000 = B2 at *
 generalize inB gr 0 9 = B3 at *
 clear hx0 hW0 hA hofe hmax hrow
 go_enter Try.func51, Try.ntmps51
 go_wp2_with fail
 rw [HW0.out]
 cases B1 with
 | false =>
   go_wp2_with (first
    | (go_at_call 75; refine (HOF.out _ HLT.out).mono ?_; rintro e w2 ⟨rfl, hx2⟩; have hw2 : Ext W0 w2 := ((Ext.refl W0).alloc _).trans hx2; have v1 := hw2.cell z1; have v2 := hw2.cell z2; have v3 := hw2.cell z3; have v4 := hw2.cell z4; have v5 := hw2.cell z5; have v6 := hw2.cell z6)
    | (go_at_call 44; refine (HLO.out _).mono ?_; rintro e w3 ⟨rfl, rfl⟩)
    | (go_at_call 37; refine (HOU.out _).mono ?_; rintro e w4 ⟨rfl, rfl⟩)
    | (go_at_call 76; refine (HCF.out _ hw2).mono ?_; rintro e w5 ⟨rfl, hx5⟩; have cc5 := hx5.cell v5))
   go_ret
   exact ⟨ret_int (H7.out rfl).symm, HX0.out.trans hw2⟩
 | true =>
   cases B2 with
   | false =>
     go_wp2_with (first
      | (go_at_call 75; refine (HOF.out _ HLT.out).mono ?_; rintro e w2 ⟨rfl, hx2⟩; have hw2 : Ext W0 w2 := ((Ext.refl W0).alloc _).trans hx2; have v1 := hw2.cell z1; have v2 := hw2.cell z2; have v3 := hw2.cell z3; have v4 := hw2.cell z4; have v5 := hw2.cell z5; have v6 := hw2.cell z6)
      | (go_at_call 44; refine (HLO.out _).mono ?_; rintro e w3 ⟨rfl, rfl⟩)
      | (go_at_call 37; refine (HOU.out _).mono ?_; rintro e w4 ⟨rfl, rfl⟩)
      | (go_at_call 76; refine (HCF.out _ hw2).mono ?_; rintro e w5 ⟨rfl, hx5⟩; have cc5 := hx5.cell v5))
     go_ret
     exact ⟨ret_int (H7.out rfl).symm, HX0.out.trans hw2⟩
   | true =>
     cases B3 with
     | false =>
       go_wp2_with (first
        | (go_at_call 75; refine (HOF.out _ HLT.out).mono ?_; rintro e w2 ⟨rfl, hx2⟩; have hw2 : Ext W0 w2 := ((Ext.refl W0).alloc _).trans hx2; have v1 := hw2.cell z1; have v2 := hw2.cell z2; have v3 := hw2.cell z3; have v4 := hw2.cell z4; have v5 := hw2.cell z5; have v6 := hw2.cell z6)
        | (go_at_call 44; refine (HLO.out _).mono ?_; rintro e w3 ⟨rfl, rfl⟩)
        | (go_at_call 37; refine (HOU.out _).mono ?_; rintro e w4 ⟨rfl, rfl⟩)
        | (go_at_call 76; refine (HCF.out _ hw2).mono ?_; rintro e w5 ⟨rfl, hx5⟩; have cc5 := hx5.cell v5))
       go_ret
       exact ⟨ret_int (H7.out rfl).symm, HX0.out.trans hw2⟩
     | true =>
       by_cases hks : ks.length = 0
       ·have hk1 : ((ks.length : Int) == 0) = true := beq_iff_eq.2 (by omega)
        have hk2 : (ks.length == 0) = true := beq_iff_eq.2 (by omega)
        have HE := hide (HZ.out rfl hks)
        clear hks
        go_wp2_with (first
         | (go_at_call 75; refine (HOF.out _ HLT.out).mono ?_; rintro e w2 ⟨rfl, hx2⟩; have hw2 : Ext W0 w2 := ((Ext.refl W0).alloc _).trans hx2; have v1 := hw2.cell z1; have v2 := hw2.cell z2; have v3 := hw2.cell z3; have v4 := hw2.cell z4; have v5 := hw2.cell z5; have v6 := hw2.cell z6)
         | (go_at_call 44; refine (HLO.out _).mono ?_; rintro e w3 ⟨rfl, rfl⟩)
         | (go_at_call 37; refine (HOU.out _).mono ?_; rintro e w4 ⟨rfl, rfl⟩)
         | (go_at_call 76; refine (HCF.out _ hw2).mono ?_; rintro e w5 ⟨rfl, hx5⟩; have cc5 := hx5.cell v5))
        go_ret
        exact ⟨ret_int HE.out.symm, HX0.out.trans hw2⟩
       ·have hk1 : ((ks.length : Int) == 0) = false := beq_eq_false_iff_ne.2 (by omega)
        have hk2 : (ks.length == 0) = false := beq_eq_false_iff_ne.2 (by omega)
        have HKS := hide hks
        have HCF := hide (fun V (e : Ext W0 V) => containsFunc_int 77 #[.pointer (some ⟨w.heap.size + 1, 0, none⟩)] (enters_of Try.func77 (by kernel_rfl) rfl) (.slice A ks.length cap) ks (fun k => outB (ks.getD k 0) 0 (n - 1)) V (fun k w1 _ e1 => by
         refine (squibKey_any _ _ _ _ (by omega) (by omega) ((e.trans e1).cell z6)).mono ?_
         rintro e w2 ⟨rfl, rfl⟩
         exact ⟨rfl, Ext.refl _⟩) ⟨A, cap, rfl, hcap, by simpa [maxLen] using hm, HROW.out.ext (HX0.out.trans e)⟩)
        have H4' := hide (H4.out rfl hks)
        have HR' := hide (HR.out rfl hks)
        generalize anyB (fun k => outB (ks.getD k 0) 0 (↑n - 1)) ks.length = B4 at *
        cases B4 with
        | true =>
          clear hks
          go_wp2_with (first
           | (go_at_call 75; refine (HOF.out _ HLT.out).mono ?_; rintro e w2 ⟨rfl, hx2⟩; have hw2 : Ext W0 w2 := ((Ext.refl W0).alloc _).trans hx2; have v1 := hw2.cell z1; have v2 := hw2.cell z2; have v3 := hw2.cell z3; have v4 := hw2.cell z4; have v5 := hw2.cell z5; have v6 := hw2.cell z6)
           | (go_at_call 44; refine (HLO.out _).mono ?_; rintro e w3 ⟨rfl, rfl⟩)
           | (go_at_call 37; refine (HOU.out _).mono ?_; rintro e w4 ⟨rfl, rfl⟩)
           | (go_at_call 76; refine (HCF.out _ hw2).mono ?_; rintro e w5 ⟨rfl, hx5⟩; have cc5 := hx5.cell v5))
          go_ret
          exact ⟨ret_int (H4'.out (by first | rfl | trivial)).symm, HX0.out.trans (hw2.trans hx5)⟩
        | false =>
          have HR2 := hide (HR'.out rfl)
          have hl1 : (1 : Int) ≤ (ks.length : Int) := by omega
          have hl2 : 1 ≤ ks.length := by omega
          clear hks
          obtain ⟨bA, oA, hA0, _, _⟩ := HROW.out (show 0 < ks.length by omega)
          subst hA0
          by_cases hc1 : cap = 1
          ·subst hc1
           go_wp2_with (first
            | (go_at_call 75; refine (HOF.out _ HLT.out).mono ?_; rintro e w2 ⟨rfl, hx2⟩; have hw2 : Ext W0 w2 := ((Ext.refl W0).alloc _).trans hx2; have v1 := hw2.cell z1; have v2 := hw2.cell z2; have v3 := hw2.cell z3; have v4 := hw2.cell z4; have v5 := hw2.cell z5; have v6 := hw2.cell z6)
            | (go_at_call 44; refine (HLO.out _).mono ?_; rintro e w3 ⟨rfl, rfl⟩)
            | (go_at_call 37; refine (HOU.out _).mono ?_; rintro e w4 ⟨rfl, rfl⟩)
            | (go_at_call 76; refine (HCF.out _ hw2).mono ?_; rintro e w5 ⟨rfl, hx5⟩; have cc5 := hx5.cell v5))
           go_loopw [40] (fun v40 wr => Ext w5 wr ∧ ∃ i : Nat, i ≤ ks.length - 1 ∧ v40 = .int .i64 i ∧ Hid (∀ j, j < i → decide (ks.getD (j + 1) 0 ≤ ks.getD j 0) = false)) (fun v40 _ => ks.length - 1 - (intOf v40).toNat)
           case atStart => exact ⟨Ext.refl _, 0, by omega, rfl, hide (fun j hj => absurd hj (by omega))⟩
           case round =>
            obtain ⟨hE, i, hi, rfl, HS⟩ := hrel
            have HE := hide hE
            have HXE := hide (HX0.out.trans (hw2.trans (hx5.trans hE)))
            have t5 := hE.cell cc5
            by_cases h8 : i < ks.length - 1
            ·exact absurd h8 (by omega)
            ·have HER := hide (show er = 0 by rw [HR2.out]; exact if_neg (by rw [anyB_f.2 (fun j hj => HS.out j (by omega))]; decide))
             go_wp2_with fail
             go_ret
             exact ⟨ret_int HER.out.symm, HXE.out⟩
          ·go_wp2_with (first
            | (go_at_call 75; refine (HOF.out _ HLT.out).mono ?_; rintro e w2 ⟨rfl, hx2⟩; have hw2 : Ext W0 w2 := ((Ext.refl W0).alloc _).trans hx2; have v1 := hw2.cell z1; have v2 := hw2.cell z2; have v3 := hw2.cell z3; have v4 := hw2.cell z4; have v5 := hw2.cell z5; have v6 := hw2.cell z6)
            | (go_at_call 44; refine (HLO.out _).mono ?_; rintro e w3 ⟨rfl, rfl⟩)
            | (go_at_call 37; refine (HOU.out _).mono ?_; rintro e w4 ⟨rfl, rfl⟩)
            | (go_at_call 76; refine (HCF.out _ hw2).mono ?_; rintro e w5 ⟨rfl, hx5⟩; have cc5 := hx5.cell v5))
           go_loopw [40] (fun v40 wr => Ext w5 wr ∧ ∃ i : Nat, i ≤ ks.length - 1 ∧ v40 = .int .i64 i ∧ Hid (∀ j, j < i → decide (ks.getD (j + 1) 0 ≤ ks.getD j 0) = false)) (fun v40 _ => ks.length - 1 - (intOf v40).toNat)
           case atStart => exact ⟨Ext.refl _, 0, by omega, rfl, hide (fun j hj => absurd hj (by omega))⟩
           case round =>
            obtain ⟨hE, i, hi, rfl, HS⟩ := hrel
            have HE := hide hE
            have HXE := hide (HX0.out.trans (hw2.trans (hx5.trans hE)))
            have t5 := hE.cell cc5
            by_cases h8 : i < ks.length - 1
            ·obtain ⟨b, off, k1, e0', _, hc0, HK1⟩ := ints_at (HROW.out.ext HXE.out) (show i < ks.length by omega)
             injection e0' with e0'
             injection e0' with e01 e02
             subst e01 e02
             obtain ⟨b', off', k2, e', _, hc2, HK2⟩ := ints_at (HROW.out.ext HXE.out) (show i + 1 < ks.length by omega)
             injection e' with e'
             injection e' with e1 e2
             subst e1 e2
             have hi1 : (0 : Int) ≤ (i : Int) := by omega
             have hi2 : (i : Int) < (ks.length : Int) := by omega
             have hi3 : IntKind.i64.wrap ((i : Int) + 1) = ((i + 1 : Nat) : Int) := by rw [IntKind.wrap_i64]; omega
             have hi4 : ((i + 1 : Nat) : Int) < (ks.length : Int) := by omega
             have hi5 : i + 1 < ks.length := by omega
             have hi6 : i < ks.length := by omega
             clear hE
             by_cases hk : k2 ≤ k1
             ·have hd : decide (k2 ≤ k1) = true := decide_eq_true hk
              have HER := hide (show er = 2 by rw [HR2.out]; exact if_pos (anyB_t.2 ⟨i, h8, by rw [HK1.out, HK2.out]; exact hd⟩))
              go_wp2_with fail
              go_quiet (fail)
              go_wp2_with fail
              go_ret
              exact ⟨ret_int HER.out.symm, HXE.out.drewN _⟩
             ·have hd : decide (k2 ≤ k1) = false := decide_eq_false hk
              have HD := hide (show decide (ks.getD (i + 1) 0 ≤ ks.getD i 0) = false by rw [HK1.out, HK2.out]; exact hd)
              go_wp2_with fail
              go_quiet (fail)
              clear hi3
              go_wp2_with fail
              go_roundw
              case rel => exact ⟨HE.out.drewN _, i + 1, by omega, by go_num, hide (fun j hj => by
               by_cases hji : j = i
               ·rw [hji]; exact HD.out
               ·exact HS.out j (by omega))⟩
              case measure => simp [intOf]; omega
            ·have HER := hide (show er = 0 by rw [HR2.out]; exact if_neg (by rw [anyB_f.2 (fun j hj => HS.out j (by omega))]; decide))
             go_wp2_with fail
             go_ret
             exact ⟨ret_int HER.out.symm, HXE.out⟩
end Go.Proofs.Ythcnganbnbhhoaa
