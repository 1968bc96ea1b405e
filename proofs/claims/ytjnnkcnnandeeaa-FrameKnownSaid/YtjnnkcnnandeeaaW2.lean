/- What functions of the program compute: plain functions, and the proofs. -/
import Derived.Test.YtjnnkcnnandeeaaW1
import Derived.Deep.Cut
import Derived.Lib.QuietBelow
import Derived.Shelf.Lay
import Derived.Ground.SlsfProg
set_option linter.unusedVariables false
set_option linter.unusedSimpArgs false
open Go Go.Proofs.Ytjnnkcnnandeeaa.Sh Go.Proofs
namespace Go.Proofs.Ytjnnkcnnandeeaa
set_option maxRecDepth 100000
set_option maxHeartbeats 40000000
namespace Dd
open Go.RowKit
def cmpI (x y : Int) : Int := if x < y then -1 else if y < x then 1 else 0
theorem isNaN_any (x : Int) (w : World) : Calls Try.prog 112 #[.int .i64 x] w fun e w' => e = .returned (.bool false) ∧ w' = w := by
  go_enter Try.func112, Try.ntmps112
  go_wp2
  go_ret
  exact ⟨by simp, rfl⟩
theorem cmp_any (x y : Int) (w : World) : Calls Try.prog 97 #[.int .i64 x, .int .i64 y] w fun e w' => e = .returned (.int .i64 (cmpI x y)) ∧ w' = w := by
  have h1 := fun W => isNaN_any x W
  have h2 := fun W => isNaN_any y W
  unfold cmpI
  by_cases hxy : x < y
  · rw [if_pos hxy]
    go_enter Try.func97, Try.ntmps97
    go_wp2_with (go_at_call 112; first | (refine (h1 _).mono ?_; rintro e w' ⟨rfl, rfl⟩) | (refine (h2 _).mono ?_; rintro e w' ⟨rfl, rfl⟩))
    go_ret
    exact ⟨rfl, rfl⟩
  · rw [if_neg hxy]
    by_cases hyx : y < x
    · rw [if_pos hyx]
      go_enter Try.func97, Try.ntmps97
      go_wp2_with (go_at_call 112; first | (refine (h1 _).mono ?_; rintro e w' ⟨rfl, rfl⟩) | (refine (h2 _).mono ?_; rintro e w' ⟨rfl, rfl⟩))
      go_ret
      exact ⟨rfl, rfl⟩
    · rw [if_neg hyx]
      go_enter Try.func97, Try.ntmps97
      go_wp2_with (go_at_call 112; first | (refine (h1 _).mono ?_; rintro e w' ⟨rfl, rfl⟩) | (refine (h2 _).mono ?_; rintro e w' ⟨rfl, rfl⟩))
      go_ret
      exact ⟨rfl, rfl⟩

def or3 (x y z : Int) : Int := if x ≠ 0 then x else if y ≠ 0 then y else z
set_option maxHeartbeats 2000000 in
theorem or_any (b cap : Nat) (x y z : Int) (W : World) (h0 : W.cell? ⟨b, 0, none⟩ = some (.int .i64 x)) (h1 : W.cell? ⟨b, 1, none⟩ = some (.int .i64 y)) (h2 : W.cell? ⟨b, 2, none⟩ = some (.int .i64 z)) : Calls Try.prog 96 #[.slice (some ⟨b, 0, none⟩) 3 cap] W fun e w' => e = .returned (.int .i64 (or3 x y z)) ∧ w' = W := by
  have hz0 : (x != 0) = decide (x ≠ 0) := by by_cases h : x = 0 <;> simp [h]
  unfold or3
  by_cases hx : x = 0
  · by_cases hy : y = 0
    · by_cases hz : z = 0
      · subst hx hy hz
        go_enter Try.func96, Try.ntmps96
        go_wp2
        refine wp_loop_rounds 4 ?_
        rw [rounds_succ]; go_wp2
        rw [rounds_succ]; go_wp2
        rw [rounds_succ]; go_wp2
        rw [rounds_succ]; go_wp2
        go_ret
        exact ⟨by simp, rfl⟩
      · subst hx hy
        have hz' : (z != 0) = true := by simp [hz]
        go_enter Try.func96, Try.ntmps96
        go_wp2
        refine wp_loop_rounds 4 ?_
        rw [rounds_succ]; go_wp2
        rw [rounds_succ]; go_wp2
        rw [rounds_succ]; go_wp2
        go_ret
        exact ⟨by simp, rfl⟩
    · subst hx
      have hy' : (y != 0) = true := by simp [hy]
      go_enter Try.func96, Try.ntmps96
      go_wp2
      refine wp_loop_rounds 4 ?_
      rw [rounds_succ]; go_wp2
      rw [rounds_succ]; go_wp2
      go_ret
      exact ⟨by simp [hy], rfl⟩
  · have hx' : (x != 0) = true := by simp [hx]
    go_enter Try.func96, Try.ntmps96
    go_wp2
    refine wp_loop_rounds 4 ?_
    rw [rounds_succ]; go_wp2
    go_ret
    exact ⟨by simp [hx], rfl⟩

abbrev RpK := Int × Int × Int × Bool × Option Addr × Nat × Nat
def rpE (x : RpK) : List Value := [.int .i64 x.1, .int .i64 x.2.1, .int .i64 x.2.2.1, .bool x.2.2.2.1, .slice x.2.2.2.2.1 x.2.2.2.2.2.1 x.2.2.2.2.2.2]
def SoL (x y z : Int) (v : Value) (w : World) : Prop := ∃ b n, v = .slice (some ⟨b, 0, none⟩) 3 n ∧ w.cell? ⟨b, 0, none⟩ = some (.int .i64 x) ∧ w.cell? ⟨b, 1, none⟩ = some (.int .i64 y) ∧ w.cell? ⟨b, 2, none⟩ = some (.int .i64 z)
def rpC (x y : RpK) : Int := or3 (cmpI x.1 y.1) (cmpI y.2.2.1 x.2.2.1) (cmpI x.2.1 y.2.1)
set_option maxHeartbeats 4000000 in
theorem clo_any (x y : RpK) (W0 : World) : Calls Try.prog 95 #[.agg (rpE x).toArray, .agg (rpE y).toArray] W0 fun e w' => e = .returned (.int .i64 (rpC x y)) ∧ Ext W0 w' := by
  obtain ⟨x1, x2, x3, x4, x5, x6, x7⟩ := x
  obtain ⟨y1, y2, y3, y4, y5, y6, y7⟩ := y
  simp only [rpE, rpC]
  go_enter Try.func95, Try.ntmps95
  go_upto_region 1 with (fail)
  have hE0 : Ext W0 ((W0.alloc (.cells #[.int .i64 x1, .int .i64 x2, .int .i64 x3, .bool x4, .slice x5 x6 x7] 97)).alloc (.cells #[.int .i64 y1, .int .i64 y2, .int .i64 y3, .bool y4, .slice y5 y6 y7] 97)) := ((Ext.refl W0).alloc _).alloc _
  have c0 : ((W0.alloc (.cells #[.int .i64 x1, .int .i64 x2, .int .i64 x3, .bool x4, .slice x5 x6 x7] 97)).alloc (.cells #[.int .i64 y1, .int .i64 y2, .int .i64 y3, .bool y4, .slice y5 y6 y7] 97)).cell? ⟨W0.heap.size, 0, none⟩ = some (.int .i64 x1) := by simp
  have c1 : ((W0.alloc (.cells #[.int .i64 x1, .int .i64 x2, .int .i64 x3, .bool x4, .slice x5 x6 x7] 97)).alloc (.cells #[.int .i64 y1, .int .i64 y2, .int .i64 y3, .bool y4, .slice y5 y6 y7] 97)).cell? ⟨W0.heap.size, 1, none⟩ = some (.int .i64 x2) := by simp
  have c2 : ((W0.alloc (.cells #[.int .i64 x1, .int .i64 x2, .int .i64 x3, .bool x4, .slice x5 x6 x7] 97)).alloc (.cells #[.int .i64 y1, .int .i64 y2, .int .i64 y3, .bool y4, .slice y5 y6 y7] 97)).cell? ⟨W0.heap.size, 2, none⟩ = some (.int .i64 x3) := by simp
  have c3 : ((W0.alloc (.cells #[.int .i64 x1, .int .i64 x2, .int .i64 x3, .bool x4, .slice x5 x6 x7] 97)).alloc (.cells #[.int .i64 y1, .int .i64 y2, .int .i64 y3, .bool y4, .slice y5 y6 y7] 97)).cell? ⟨W0.heap.size + 1, 0, none⟩ = some (.int .i64 y1) := by simp
  have c4 : ((W0.alloc (.cells #[.int .i64 x1, .int .i64 x2, .int .i64 x3, .bool x4, .slice x5 x6 x7] 97)).alloc (.cells #[.int .i64 y1, .int .i64 y2, .int .i64 y3, .bool y4, .slice y5 y6 y7] 97)).cell? ⟨W0.heap.size + 1, 1, none⟩ = some (.int .i64 y2) := by simp
  have c5 : ((W0.alloc (.cells #[.int .i64 x1, .int .i64 x2, .int .i64 x3, .bool x4, .slice x5 x6 x7] 97)).alloc (.cells #[.int .i64 y1, .int .i64 y2, .int .i64 y3, .bool y4, .slice y5 y6 y7] 97)).cell? ⟨W0.heap.size + 1, 2, none⟩ = some (.int .i64 y3) := by simp
  generalize ((W0.alloc (.cells #[.int .i64 x1, .int .i64 x2, .int .i64 x3, .bool x4, .slice x5 x6 x7] 97)).alloc (.cells #[.int .i64 y1, .int .i64 y2, .int .i64 y3, .bool y4, .slice y5 y6 y7] 97)) = w1 at *
  apply wp_region_f (5 :: 6 :: 7 :: 8 :: 9 :: 10 :: 11 :: 12 :: 13 :: 14 :: 15 :: 16 :: 17 :: 18 :: 19 :: 20 :: 21 :: 4 :: [])
    (.is _ :: .is _ :: .is _ :: .is _ :: .is _ :: .is _ :: .is _ :: .is _ :: .is _ :: .is _ :: .is _ :: .is _ :: .is _ :: .is _ :: .is _ :: .so (SoL (cmpI x1 y1) (cmpI y3 x3) (cmpI x2 y2)) :: .is _ :: .is _ :: [])
    [(2, _), (3, _)]
  · kernel_rfl
  · decide
  · rfl
  · kernel_rfl
  · decide +kernel
  · kernel_rfl
  · kernel_rfl
  · kernel_rfl
  · kernel_rfl
  · rfl
  · exact ⟨trivial, trivial, trivial, trivial, trivial, trivial, trivial, trivial, trivial, trivial, trivial, trivial, trivial, trivial, trivial, fun v A B h k => by obtain ⟨b, n, h, h0, h1, h2⟩ := h; exact ⟨b, n, h, k.cell h0, k.cell h1, k.cell h2⟩, trivial, trivial, trivial⟩
  · refine ⟨?_, ?_, trivial⟩ <;> (simp; rfl)
  · repeat
      refine ⟨?_, ?_⟩
      · intro F W hF hd hR
        simp [fixedAt] at hF
        obtain ⟨t2, t3⟩ := hF
        simp [Region.binds, Ent.holds] at hd
        refine ⟨fun _ K hK => ?_, by intro g b h hn; first | (cases h; done) | (cases h; exact absurd (by simp [hd]) hn)⟩
        simp only [Ent.holds, List.getD_cons_zero, List.getD_cons_succ] at hK
        have q0 := hR.cell c0
        have q1 := hR.cell c1
        have q2 := hR.cell c2
        have q3 := hR.cell c3
        have q4 := hR.cell c4
        have q5 := hR.cell c5
        go_simp
        first
          | exact hK _ _ rfl (Ext.refl _)
          | (refine (cmp_any _ _ _).mono ?_
             rintro e w' ⟨rfl, rfl⟩
             exact hK _ _ rfl (Ext.refl _))
          | (exact hK _ _ ⟨_, _, rfl, by simp, by simp, by simp⟩ ((Ext.refl _).alloc _))
          | (obtain ⟨b', n', hs, k0, k1, k2⟩ := hd.1
             simp only [hs]
             refine (or_any _ _ _ _ _ _ k0 k1 k2).mono ?_
             rintro e w' ⟨rfl, rfl⟩
             exact hK _ _ rfl (Ext.refl _))
    exact trivial
  intro X W hx hR
  simp only [toldX] at hx
  simp only [fillX, List.setIfInBounds_toArray, List.set_cons_succ, List.set_cons_zero]
  clear hx
  go_wp2_with fail
  go_ret
  exact ⟨rfl, hE0.trans hR⟩
theorem ext_grow {w w' : World} (h : Ext w w') : ∃ q os', w' = Go.Sort.grow (w.drewN q) os' := by
  obtain ⟨hb, hd⟩ := h
  obtain ⟨⟨d, os⟩, e⟩ := Go.regrown_of_below hb
  have hd' : w'.drawn = d := by rw [e]; rfl
  refine ⟨d - w.drawn, os, ?_⟩
  rw [e]
  have : w.drawn + (d - w.drawn) = d := by omega
  show Go.Sort.grow (Go.redrawn w d) os = _
  unfold Go.redrawn World.drewN
  rw [this]
theorem cmpLays_rp (blk off size : Nat) (w : World) : CmpLays Try.prog 95 #[] rpE 5 rpC blk off size w := fun _ _ _ _ x y => (clo_any x y _).mono fun _ _ ⟨h1, h2⟩ => ⟨h1, ext_grow h2⟩

end Dd
open Go.Shelf in
shelf_lay_g SlLaysF0.n6 Slsf 6 at Try 94 as Try.sortRp
def rpLt (x y : FrReport) : Bool := decide (x.number < y.number) || (decide (x.number = y.number) && (decide (y.agree < x.agree) || (decide (x.agree = y.agree) && decide (x.from_ < y.from_))))
theorem rpLt_iff (x y : FrReport) : rpLt x y = true ↔ x.number < y.number ∨ (x.number = y.number ∧ (y.agree < x.agree ∨ (x.agree = y.agree ∧ x.from_ < y.from_))) := by simp [rpLt]
theorem rpLt_as : LtOk rpLt where
 asym x y h := by
  rw [rpLt_iff] at h
  cases h2 : rpLt y x with
  | false => rfl
  | true => rw [rpLt_iff] at h2; omega
 nt x y z h1 h2 := by
  cases h3 : rpLt x z with
  | false => rfl
  | true =>
   have h1 : ¬ rpLt x y = true := by rw [h1]; exact Bool.false_ne_true
   have h2 : ¬ rpLt y z = true := by rw [h2]; exact Bool.false_ne_true
   rw [rpLt_iff] at h1 h2 h3
   omega
theorem rpC_iff (a b : Dd.RpK) : Go.Proofs.ltOf Dd.rpC a b = true ↔ a.1 < b.1 ∨ (a.1 = b.1 ∧ (b.2.2.1 < a.2.2.1 ∨ (a.2.2.1 = b.2.2.1 ∧ a.2.1 < b.2.1))) := by
 unfold Go.Proofs.ltOf Dd.rpC Dd.or3 Dd.cmpI
 rw [decide_eq_true_iff]
 repeat' split
 all_goals omega
theorem rp_swo : Go.Sort.SWO (Go.Proofs.ltOf Dd.rpC) where
 irrefl x := by
  cases h : Go.Proofs.ltOf Dd.rpC x x with
  | false => rfl
  | true => rw [rpC_iff] at h; omega
 trans x y z h1 h2 := by rw [rpC_iff] at h1 h2 ⊢; omega
 ntrans x y z h1 h2 := by
  cases h3 : Go.Proofs.ltOf Dd.rpC x z with
  | false => rfl
  | true =>
   have h1 : ¬ Go.Proofs.ltOf Dd.rpC x y = true := by rw [h1]; exact Bool.false_ne_true
   have h2 : ¬ Go.Proofs.ltOf Dd.rpC y z = true := by rw [h2]; exact Bool.false_ne_true
   rw [rpC_iff] at h1 h2 h3
   omega
theorem rp_dec (g : G) (x : FrReport) (cs : List Value) (h : VTs g ((FrReport.d x).cells.map .d) cs) (hl : cs.length = 5) : ∃ a : Dd.RpK, Dd.rpE a = cs ∧ (a.1 = x.number ∧ a.2.1 = x.from_ ∧ a.2.2.1 = x.agree) := by
 match cs, hl with
 | [c0, c1, c2, c3, c4], _ =>
  have h0 := (h.2 0 _ c0 rfl rfl).v_eq
  have h1 := (h.2 1 _ c1 rfl rfl).v_eq
  have h2 := (h.2 2 _ c2 rfl rfl).v_eq
  have h3 := (h.2 3 _ c3 rfl rfl).v_eq
  have h4 : ∃ a n q, c4 = .slice a n q := by
   have := h.2 4 (.d (.arr 1 (x.words.map vI))) c4 rfl rfl
   cases this with | d h5 =>
   generalize hd : D.arr 1 (x.words.map vI) = dd at h5
   cases h5 with
   | arr0 s a cap => exact ⟨_, _, _, rfl⟩
   | arr s l b off cap f hc hK hs hw hv => exact ⟨_, _, _, rfl⟩
   | _ => cases hd
  obtain ⟨a, n, q, rfl⟩ := h4
  exact ⟨(x.number, x.from_, x.agree, x.marked, a, n, q), by rw [h0, h1, h2, h3]; rfl, rfl, rfl, rfl⟩
theorem frame_sort_scr {l r : List FrReport} (h : srtO rpLt l = some r) : SCR Try.prog 94 [.row 0 5 0 l.length, .d (.v (.func (.func 95) #[] #[]))] [some (lFrReportd l)] (.d (.tup [])) [some (lFrReportd r)] := by
 have := sort_row (P := Try.prog) Try.sortRp 5 (by decide) Try.isAgg97 Try.sizeOf97 Dd.rpE (fun _ => rfl) (fun x v hv => by simp [Dd.rpE] at hv; rcases hv with rfl | rfl | rfl | rfl | rfl <;> rfl) Dd.rpC rp_swo 95 (Go.Proofs.enters_of Try.func95 (by kernel_rfl) rfl) (fun _ _ _ _ => Dd.cmpLays_rp _ _ _ _) FrReport.d (fun x a => a.1 = x.number ∧ a.2.1 = x.from_ ∧ a.2.2.1 = x.agree) rp_dec (fun _ => rfl) (fun x y => rpLt x y = true) (fun x y a b ⟨h1, h2, h3⟩ ⟨k1, k2, k3⟩ hab hxy => by
  have : Go.Proofs.ltOf Dd.rpC a b = true := by rw [rpC_iff, h1, h2, h3, k1, k2, k3]; exact (rpLt_iff x y).1 hxy
  rw [hab] at this; cases this) l (srt_lt h)
 exact this.mono fun se X ⟨h1, r', hp, hw, hX⟩ => ⟨h1, by rw [hX, srt_one rpLt_as h hp hw]⟩
def frame_Merge_L1 (F : Nat) (x : Int) (rv3 : ((List FrFrame) × (List Int) × Int)) (K : Int → KL → Option ((List FrReport) × Int)) : Nat → Int → KL → Option ((List FrReport) × Int)
 | 0, _, _ => none
 | n + 1, x2, A2 => if x2 < (rv3.1.length : Int) then (Option.bind (ixO rv3.1 x2) fun e2 => Option.bind (ixO rv3.2.1 x2) fun e3 => if keyB 33 (keyF 32 e3 e2.words) = true then (Option.bind (appO (kget A2 (keyF 32 e3 e2.words)) [x]) fun q => frame_Merge_L1 F x rv3 K n (W (x2 + 1)) (kput A2 (keyF 32 e3 e2.words) q)) else none) else (K x2 A2)
def frame_Merge_L2 (F : Nat)  (K : (List FrReport) → Int → Int → Option ((List FrReport) × Int)) : Nat → (List FrReport) → Int → Int → Option ((List FrReport) × Int)
 | 0, _, _, _ => none
 | n + 1, rv5, x3, x4 => if x4 < x3 then (if (W (x4 + 1)) < (rv5.length : Int) then (Option.bind (ixO rv5 (W (x4 + 1))) fun e6 => Option.bind (ixO rv5 x4) fun e7 => Option.bind (setO rv5 x4 {e7 with marked := (decide (e6.number = e7.number))}) fun rv6 => frame_Merge_L2 F K n rv6 x3 (W (x4 + 1))) else (Option.bind (ixO rv5 x4) fun e8 => Option.bind (setO rv5 x4 {e8 with marked := false}) fun rv7 => frame_Merge_L2 F K n rv7 x3 (W (x4 + 1)))) else (K rv5 x3 x4)
def frame_Merge_B (F : Nat) (t : FrFormat) (kx lx : List Int) (rs : List FrReport) : Option (List FrReport) := if kx.length = 33 then (Option.bind (ixO kx 0) fun e4 => Option.bind (ixO lx 0) fun e5 => Option.bind (cutO kx 1 (W (1 + t.words))) fun q4 => Option.bind (slices_Clone_int F q4) fun rv4 => Option.bind (appO rs [(FrReport.mk e4 e5 (lx.length : Int) false rv4)]) fun q5 => some q5) else none
def frame_Merge_R (F : Nat) (t : FrFormat) (kx lx : List Int) : Option FrReport := if kx.length = 33 then (Option.bind (ixO kx 0) fun e4 => Option.bind (ixO lx 0) fun e5 => Option.bind (cutO kx 1 (W (1 + t.words))) fun q4 => Option.bind (slices_Clone_int F q4) fun rv4 => some (FrReport.mk e4 e5 (lx.length : Int) false rv4)) else none
theorem frame_Merge_of {F : Nat} {t : FrFormat} {kx lx : List Int} {rs : List FrReport} {b : FrReport} (h : frame_Merge_R F t kx lx = some b) (hl : rs.length + 1 ≤ 1000000000) : frame_Merge_B F t kx lx rs = some (rs ++ [b]) := by
 unfold frame_Merge_R at h; unfold frame_Merge_B
 split at h
 ·rename_i c
  rw [if_pos c]
  obtain ⟨x, hx, h⟩ := Option.bind_eq_some_iff.1 h; rw [hx]; simp only [Option.bind_some]; clear hx
  obtain ⟨x, hx, h⟩ := Option.bind_eq_some_iff.1 h; rw [hx]; simp only [Option.bind_some]; clear hx
  obtain ⟨x, hx, h⟩ := Option.bind_eq_some_iff.1 h; rw [hx]; simp only [Option.bind_some]; clear hx
  obtain ⟨x, hx, h⟩ := Option.bind_eq_some_iff.1 h; rw [hx]; simp only [Option.bind_some]; clear hx
  injection h with h; subst h
  simp [appO, hl]
 ·cases h
def frame_Merge_L3 (F : Nat) (t : FrFormat) (o : (List FrTape)) (K : Int → Int → KL → Option ((List FrReport) × Int)) : Nat → Int → Int → KL → Option ((List FrReport) × Int)
 | 0, _, _, _ => none
 | n + 1, a, x, A => if x < (o.length : Int) then (Option.bind (ixO o x) fun e => Option.bind (frame_tape F t e) fun rv2 => if rv2 = 0 then (Option.bind (frame_read F t e) fun rv3 => if rv3.2.2 = 0 then (frame_Merge_L1 F x rv3 (fun (x2 : Int) (A2 : KL) => frame_Merge_L3 F t o K n rv2 (W (x + 1)) A2) F 0 A) else (some (([] : List FrReport), rv3.2.2))) else (some (([] : List FrReport), rv2))) else (K a x A)
def frame_Merge (F : Nat) (t : FrFormat) (o : (List FrTape)) : Option ((List FrReport) × Int) := Option.bind (frame_Check F t) fun rv => if rv.2.2 = 0 then (if 4 < (o.length : Int) then (some (([] : List FrReport), 3)) else (frame_Merge_L3 F t o (fun (a : Int) (x : Int) (A : KL) => if A.length ≤ 1000000000 then (Option.bind (Option.bind (hrgO (frame_Merge_R F t) A) (srtO rpLt)) fun q3 => frame_Merge_L2 F (fun (rv5 : (List FrReport)) (x3 : Int) (x4 : Int) => Option.bind (slices_CompactFunc_FrReport_m_frame_Merge_2 F rv5) fun rv8 => Option.bind (lnO rv8.2.length rv5.length) fun u => Option.bind (preO rv8.1 rv8.2) fun q6 => some (q6, 0)) F q3 (q3.length : Int) 0) else none) F rv.2.2 0 ([] : KL))) else (some (([] : List FrReport), rv.2.2))
theorem frame_Merge_scr {F : Nat} {t : FrFormat} {o : (List FrTape)} {r : ((List FrReport) × Int)} (h : frame_Merge F t o = some r) : SCR Try.prog 47 (List.map T.d [FrFormat.d t, .arr 2 ((o).map FrTape.d)]) [] (.tup [.row 0 5 0 (r.1).length, .d (.v (.int .i64 r.2))]) (List.map some [(lFrReportd r.1)]) := by
 rw [frame_Merge] at h
 refine SC.of_sw Try.func47 R R R ?_
 dsimp only [argS, List.map]
 refine qG (q_box R (q_asgD R (q_asgD R (eN (sw_seq (qG (q_ldD (y := FrFormat.d t) tb R ?_)))))))
 obtain ⟨rv, hrv, h⟩ := bnd h
 refine r_call (frame_Check_pc hrv) (.of (by kernel_rfl)) R R R R (q_movD R (r_extD (t := vI rv.1) R R R R (r_extD (t := vI rv.2.1) R R R R (r_extD (t := vI rv.2.2) R R R R (q_asgD R (eN (qG (q_movD R ?_))))))))
 refine r_neq R R R R ?_ ?_
 ·intro c
  replace h := ifN c h
  refine eN (sw_condT R (qG (q_movD R (q_asgD R (q_asgD R (eN ?_))))))
  refine SW.own (ts' := [(4, .row 1 5 0 (([] : List FrReport)).length), (5, .d (vI rv.2.2))]) (L' := [some ⟨4, [.d (FrFormat.d t)]⟩]) 5 R R (.cons .nil (.cons (.same _) .nil)) (.same .nil) ?_
  simp only [List.cons_append, List.nil_append]
  refine sw_ret (then_ret ?_)
  obtain rfl := sI h
  exact f2 [1] (.row R .nil) R (.cons (.tmp 4) (.cons (.tmp 5) .nil)) R
 intro c
 replace h := ifP c h
 refine eN (sw_condF R (sw_skip (then_norm (sw_seq (qG (q_movD R (q_lenM tb R ?_)))))))
 refine r_gtr R R R R ?_ ?_
 ·intro c2
  replace h := ifP c2 h
  refine eN (sw_condT R (qG (q_asgD R (q_asgD R (eN ?_)))))
  refine SW.own (ts' := [(4, .row 1 5 0 (([] : List FrReport)).length), (5, .d (vI 3))]) (L' := [some ⟨4, [.d (FrFormat.d t)]⟩]) 5 R R (.cons .nil (.cons (.same _) .nil)) (.same .nil) ?_
  simp only [List.cons_append, List.nil_append]
  refine sw_ret (then_ret ?_)
  obtain rfl := sI h
  exact f2 [1] (.row R .nil) R (.cons (.tmp 4) (.cons (.tmp 5) .nil)) R
 intro c2
 replace h := ifN (Int.not_lt.2 c2) h
 refine eN (sw_condF R (sw_skip (then_norm ?_)))
 refine SW.hide 159 fun gs => ?_
 with_reducible apply swx_seq
 with_reducible apply swx_rg
 with_reducible apply rgx_ev
 refine ev_x ?_
 refine rgx_make R fun bm => ?_
 with_reducible apply rgx_ev
 refine q_asgD R (ev_endX ?_)
 with_reducible apply thenx_norm
 with_reducible apply swx_seq
 with_reducible apply swx_seq
 with_reducible apply swx_rg
 with_reducible apply rgx_ev
 refine q_movD R (q_lenM tb R (q_movD R (ev_endX ?_)))
 with_reducible apply thenx_norm
 with_reducible apply swx_block
 obtain ⟨K1, hK1, h⟩ : ∃ K, K = _ ∧ frame_Merge_L3 F t o K F rv.2.2 0 ([] : KL) = some r := ⟨_, rfl, h⟩
 refine swx_loopS (fun m gx st => ∃ (a : Int) (x : Int) (A : KL), frame_Merge_L3 F t o K1 m a x A = some r ∧ gx = Gh.mp bm A ∧ st = ⟨[(2, .ref 0 4 0 0), (4, .d (.v (.slice none 0 0))), (5, .d (vI a)), (6, .d (.v (.map (some bm)))), (31, .d (.arr 2 ((o).map FrTape.d))), (32, .d (vI (o.length : Int))), (33, .d (vI x))], [some ⟨4, [.d (FrFormat.d t)]⟩]⟩) (.prn [2, 4, 5, 6, 31, 32, 33] R) ⟨rv.2.2, 0, ([] : KL), h, R, R⟩ ?_
 clear h
 rintro m1 gx st ⟨a, x, A, h, rfl, rfl⟩
 cases m1 with
 | zero => cases (show (none : Option ((List FrReport) × Int)) = some r from h)
 | succ m1 =>
 rw [frame_Merge_L3] at h
 with_reducible apply swx_seq
 with_reducible apply swx_rg
 with_reducible apply rgx_ev
 refine r_lss R R R R ?_ ?_
 ·intro c3
  replace h := ifP c3 h
  refine ev_endX ?_
  with_reducible apply thenx_norm
  with_reducible apply swx_seq
  refine swx_condT R ?_
  with_reducible apply swx_skip
  with_reducible apply thenx_norm
  with_reducible apply swx_seq
  with_reducible apply swx_block
  with_reducible apply swx_seq
  with_reducible apply swx_rg
  with_reducible apply rgx_ev
  refine q_movD R ?_
  obtain ⟨e, ie, h⟩ := bnd h
  refine q_ixE tb (ix0 ie) (ix1m ie) R (q_ldE (y := FrTape.d e) tb (ix2 (g := FrTape.d) ie) R (r_alloc tb R R R R R (q_asgD R (q_stE _ _ tb R (ev_endX ?_)))))
  with_reducible apply thenx_norm
  with_reducible apply swx_seq
  with_reducible apply swx_seq
  with_reducible apply swx_rg
  with_reducible apply rgx_ev
  refine q_ldD (y := FrFormat.d t) tb R (q_ldD (y := FrTape.d e) tb R ?_)
  obtain ⟨rv2, hrv2, h⟩ := bnd h
  refine r_call (frame_tape_pc hrv2) (.of (by kernel_rfl)) R R R R (q_asgD R (ev_endX ?_))
  with_reducible apply thenx_norm
  with_reducible apply swx_seq
  with_reducible apply swx_rg
  with_reducible apply rgx_ev
  refine q_movD R ?_
  refine r_neq R R R R ?_ ?_
  ·intro c4
   replace h := ifN c4 h
   refine ev_endX ?_
   with_reducible apply thenx_norm
   refine swx_condT R ?_
   with_reducible apply swx_seq
   with_reducible apply swx_rg
   with_reducible apply rgx_ev
   refine q_movD R (q_asgD R (q_asgD R (ev_endX ?_)))
   with_reducible apply thenx_norm
   refine SWX.own (ts' := [(4, .row 2 5 0 (([] : List FrReport)).length), (5, .d (vI rv2))]) (L' := [some ⟨4, [.d (FrFormat.d t)]⟩, some ⟨2, [.d (FrTape.d e)]⟩]) 5 R R (.cons .nil (.cons (.same _) .nil)) (.same (.same .nil)) ?_
   simp only [List.cons_append, List.nil_append]
   with_reducible apply swx_ret
   with_reducible apply thenx_ret
   with_reducible apply blockx_ret
   with_reducible apply thenx_ret
   with_reducible apply thenx_ret
   with_reducible apply blockx_ret
   with_reducible apply thenx_ret
   obtain rfl := sI h
   exact f2 [2] (.row R .nil) R (.cons (.tmp 4) (.cons (.tmp 5) .nil)) R
  intro c4
  replace h := ifP c4 h
  refine ev_endX ?_
  with_reducible apply thenx_norm
  refine swx_condF R ?_
  with_reducible apply swx_skip
  with_reducible apply thenx_norm
  with_reducible apply swx_seq
  with_reducible apply swx_rg
  with_reducible apply rgx_ev
  refine q_ldD (y := FrFormat.d t) tb R (q_ldD (y := FrTape.d e) tb R ?_)
  obtain ⟨rv3, hrv3, h⟩ := bnd h
  refine r_callN (t' := .tup [.row 2 3 0 (rv3.1).length, .row 3 1 0 (rv3.2.1).length, .d (vI rv3.2.2)]) (news' := [(lFrFramed rv3.1), (lvI rv3.2.1)]) (frame_read_scr hrv3) (.of (by kernel_rfl)) R R R ((.row (.row .nil))) R R R (r_movT (.tup [.row 2 3 0 (rv3.1).length, .row 3 1 0 (rv3.2.1).length, .d (vI rv3.2.2)]) R R R (r_ext (t := .row 2 3 0 (rv3.1).length) R R R R (r_ext (t := .row 3 1 0 (rv3.2.1).length) R R R R (r_ext (t := .d (vI rv3.2.2)) R R R R (r_asgW R R R (r_asgW R R R ?_))))))
  refine q_asgD R (ev_endX ?_)
  with_reducible apply thenx_norm
  with_reducible apply swx_seq
  with_reducible apply swx_seq
  with_reducible apply swx_rg
  with_reducible apply rgx_ev
  refine q_movD R ?_
  refine r_neq R R R R ?_ ?_
  ·intro c5
   replace h := ifN c5 h
   refine ev_endX ?_
   with_reducible apply thenx_norm
   refine swx_condT R ?_
   with_reducible apply swx_seq
   with_reducible apply swx_rg
   with_reducible apply rgx_ev
   refine q_movD R (q_asgD R (q_asgD R (ev_endX ?_)))
   with_reducible apply thenx_norm
   refine SWX.own (ts' := [(4, .row 4 5 0 (([] : List FrReport)).length), (5, .d (vI rv3.2.2))]) (L' := [some ⟨4, [.d (FrFormat.d t)]⟩, some ⟨2, [.d (FrTape.d e)]⟩, some (lFrFramed rv3.1), some (lvI rv3.2.1)]) 5 R R (.cons .nil (.cons (.same _) .nil)) (.same (.same (.same (.same .nil)))) ?_
   simp only [List.cons_append, List.nil_append]
   with_reducible apply swx_ret
   with_reducible apply thenx_ret
   with_reducible apply blockx_ret
   with_reducible apply thenx_ret
   with_reducible apply thenx_ret
   with_reducible apply blockx_ret
   with_reducible apply thenx_ret
   obtain rfl := sI h
   exact f2 [4] (.row R .nil) R (.cons (.tmp 4) (.cons (.tmp 5) .nil)) R
  intro c5
  replace h := ifP c5 h
  refine ev_endX ?_
  with_reducible apply thenx_norm
  refine swx_condF R ?_
  with_reducible apply swx_skip
  with_reducible apply thenx_norm
  with_reducible apply swx_seq
  with_reducible apply swx_rg
  with_reducible apply rgx_ev
  refine r_movW R R R (r_lenR tb R R R R R (q_movD R (ev_endX ?_)))
  with_reducible apply thenx_norm
  with_reducible apply swx_block
  obtain ⟨K2, hK2, h⟩ : ∃ K, K = _ ∧ frame_Merge_L1 F x rv3 K F 0 A = some r := ⟨_, rfl, h⟩
  refine swx_loopS (st0 := ⟨[(2, .ref 0 4 0 0), (4, .d (.v (.slice none 0 0))), (5, .d (vI rv2)), (6, .d (.v (.map (some bm)))), (7, .d (vI x)), (10, .row 1 1 0 (rv3.2.1).length), (31, .d (.arr 2 ((o).map FrTape.d))), (32, .d (vI (o.length : Int))), (33, .d (vI x)), (54, .row 2 3 0 (rv3.1).length), (55, .d (vI (rv3.1.length : Int))), (56, .d (vI 0))], [some ⟨4, [.d (FrFormat.d t)]⟩, some (lvI rv3.2.1), some (lFrFramed rv3.1)]⟩) (fun m gx st => ∃ (x2 : Int) (A2 : KL), frame_Merge_L1 F x rv3 K2 m x2 A2 = some r ∧ gx = Gh.mp bm A2 ∧ st = ⟨[(2, .ref 0 4 0 0), (4, .d (.v (.slice none 0 0))), (5, .d (vI rv2)), (6, .d (.v (.map (some bm)))), (7, .d (vI x)), (10, .row 1 1 0 (rv3.2.1).length), (31, .d (.arr 2 ((o).map FrTape.d))), (32, .d (vI (o.length : Int))), (33, .d (vI x)), (54, .row 2 3 0 (rv3.1).length), (55, .d (vI (rv3.1.length : Int))), (56, .d (vI x2))], [some ⟨4, [.d (FrFormat.d t)]⟩, some (lvI rv3.2.1), some (lFrFramed rv3.1)]⟩) (.vw (κ := [0, 3, 2]) (vK (.cons R R (.row R (.row R .nil))) R)) ⟨0, A, h, R, R⟩ ?_
  clear h
  rintro m2 gx st ⟨x2, A2, h, rfl, rfl⟩
  cases m2 with
  | zero => cases (show (none : Option ((List FrReport) × Int)) = some r from h)
  | succ m2 =>
  rw [frame_Merge_L1] at h
  with_reducible apply swx_seq
  with_reducible apply swx_rg
  with_reducible apply rgx_ev
  refine r_lss R R R R ?_ ?_
  ·intro c6
   replace h := ifP c6 h
   refine ev_endX ?_
   with_reducible apply thenx_norm
   with_reducible apply swx_seq
   refine swx_condT R ?_
   with_reducible apply swx_skip
   with_reducible apply thenx_norm
   with_reducible apply swx_seq
   with_reducible apply swx_block
   with_reducible apply swx_seq
   with_reducible apply swx_rg
   with_reducible apply rgx_ev
   refine q_movD R ?_
   obtain ⟨e2, ie2, h⟩ := bnd h
   refine r_ixI tb R R R R R R (ix0 ie2) (ix1 ie2) R R ?_
   refine r_ldD (y := FrFrame.d e2) tb R R R R (ix2 (g := fun a => T.d (FrFrame.d a)) ie2) R R R R ?_
   refine r_alloc tb R R R R R (q_asgD R (q_stE _ _ tb R (ev_endX ?_)))
   with_reducible apply thenx_norm
   with_reducible apply swx_seq
   with_reducible apply swx_rg
   with_reducible apply rgx_ev
   refine r_movW R R R (q_movD R ?_)
   obtain ⟨e3, ie3, h⟩ := bnd h
   refine r_ixI tb R R R R R R (ix0 ie3) (ix1 ie3) R R ?_
   refine r_ldD (y := vI e3) tb R R R R (ix2 (g := fun a => T.d (vI a)) ie3) R R R R ?_
   refine r_buildA (v := .d (.agg [vI e3, vI 0, vI 0, vI 0, vI 0, vI 0, vI 0, vI 0, vI 0, vI 0, vI 0, vI 0, vI 0, vI 0, vI 0, vI 0, vI 0, vI 0, vI 0, vI 0, vI 0, vI 0, vI 0, vI 0, vI 0, vI 0, vI 0, vI 0, vI 0, vI 0, vI 0, vI 0, vI 0])) tb R R R R R R R R R ?_
   refine ev_x ?_
   refine rgx_kalloc (k0 := List.replicate 33 0) (tb.ok _ _ R) R R fun bk => ?_
   with_reducible apply rgx_ev
   refine ev_x (rgx_kstore (k' := (e3 :: List.replicate 32 0)) (tb.ok _ _ R) R R R R ?_)
   with_reducible apply rgx_ev
   refine ev_endX ?_
   with_reducible apply thenx_norm
   with_reducible apply swx_seq
   refine swx_drL (by kernel_rfl) (r_kslice tb R R R R R R R R R (q_fa tb R (q_ldD (y := .arr 1 ((e2.words).map vI)) tb R ?_)))
   (refine ev_dl (by kernel_rfl) (by kernel_rfl) ?_)
   refine rgx_kcopy (v := e2.words) (tb.ok _ _ R) R (by kernel_rfl) R R R R ?_
   with_reducible apply rgx_nil
   with_reducible apply thenx_norm
   with_reducible apply swx_rg
   with_reducible apply rgx_ev
   refine q_movD R (ev_x (rgx_kload (tb.ok _ _ R) R (keyF_len _ _ _) R R ?_))
   with_reducible apply rgx_ev
   refine q_movD R (r_bslice tb R R R R R R R R R R R R R ?_)
   by_cases c7 : keyB 33 (keyF 32 e3 e2.words) = true
   rotate_left
   ·cases (if_neg c7).symm.trans h
   replace h := ifP c7 h
   refine ev_x ?_
   with_reducible apply rgx_unkey
   refine rgx_entry (k := (keyF 32 e3 e2.words)) key_law R (fun _ => rfl) R R (key_ok c7) R R ?_
   with_reducible apply rgx_ev
   refine r_ext (t := .row 5 1 0 ((kget A2 (keyF 32 e3 e2.words))).length) R R R R ?_
   obtain ⟨q, iq, h⟩ := bnd h
   refine r_apM (g := vI) (w := (kget A2 (keyF 32 e3 e2.words))) (v := [x]) ([some ⟨4, [.d (FrFormat.d t)]⟩, some (lvI rv3.2.1), some (lFrFramed rv3.1), some ⟨3, [.d (FrFrame.d e2)]⟩, some (lvI [x]), none]) tb R R R R R R R R R R R iq R R R R R (r_ext (t := .d (vI (kidx A2 (keyF 32 e3 e2.words) : Int))) R R R R (ev_x ?_))
   refine rgx_estore (k := (keyF 32 e3 e2.words)) (lst := kget A2 (keyF 32 e3 e2.words)) (l' := q) [some ⟨4, [.d (FrFormat.d t)]⟩, some (lvI rv3.2.1), some (lFrFramed rv3.1), some ⟨3, [.d (FrFrame.d e2)]⟩, some (lvI [x]), none, none] R R R R R (kadd_self _ _) R ?_
   with_reducible apply rgx_ev
   refine ev_endX ?_
   with_reducible apply blockx_norm
   with_reducible apply thenx_norm
   with_reducible apply swx_rg
   with_reducible apply rgx_ev
   refine q_add R (q_movD R (ev_endX ?_))
   with_reducible apply thenx_norm
   exact ⟨m2, ⟨[(2, .ref 0 4 0 0), (4, .d (.v (.slice none 0 0))), (5, .d (vI rv2)), (6, .d (.v (.map (some bm)))), (7, .d (vI x)), (10, .row 1 1 0 (rv3.2.1).length), (31, .d (.arr 2 ((o).map FrTape.d))), (32, .d (vI (o.length : Int))), (33, .d (vI x)), (54, .row 2 3 0 (rv3.1).length), (55, .d (vI (rv3.1.length : Int))), (56, .d (vI (W (x2 + 1))))], [some ⟨4, [.d (FrFormat.d t)]⟩, some (lvI rv3.2.1), some (lFrFramed rv3.1)]⟩, Nat.lt_succ_self _, .vw (κ := [0, 1, 2]) (vK (.cons R R (.row R (.row R .nil))) R), (W (x2 + 1)), (kput A2 (keyF 32 e3 e2.words) q), h, R, R⟩
  intro c6
  replace h := ifN (Int.not_lt.2 c6) h
  refine ev_endX ?_
  with_reducible apply thenx_norm
  with_reducible apply swx_seq
  refine swx_condF R ?_
  with_reducible apply swx_exit
  with_reducible apply thenx_exit
  with_reducible apply thenx_exit
  subst hK2
  with_reducible apply blockx_exit
  with_reducible apply blockx_norm
  with_reducible apply thenx_norm
  with_reducible apply swx_rg
  with_reducible apply rgx_ev
  refine q_add R (q_movD R (ev_endX ?_))
  with_reducible apply thenx_norm
  exact ⟨m1, ⟨[(2, .ref 0 4 0 0), (4, .d (.v (.slice none 0 0))), (5, .d (vI rv2)), (6, .d (.v (.map (some bm)))), (31, .d (.arr 2 ((o).map FrTape.d))), (32, .d (vI (o.length : Int))), (33, .d (vI (W (x + 1))))], [some ⟨4, [.d (FrFormat.d t)]⟩]⟩, Nat.lt_succ_self _, .vw (κ := [0]) (vK (.cons R R .nil) R), rv2, (W (x + 1)), A2, h, R, R⟩
 intro c3
 replace h := ifN (Int.not_lt.2 c3) h
 refine ev_endX ?_
 with_reducible apply thenx_norm
 with_reducible apply swx_seq
 refine swx_condF R ?_
 with_reducible apply swx_exit
 with_reducible apply thenx_exit
 with_reducible apply thenx_exit
 subst hK1
 with_reducible apply blockx_exit
 with_reducible apply thenx_norm
 with_reducible apply swx_seq
 with_reducible apply swx_seq
 with_reducible apply swx_rg
 with_reducible apply rgx_ev
 refine q_movD R (ev_x ?_)
 refine rgx_range R R R fun it => ?_
 with_reducible apply rgx_ev
 refine ev_endX ?_
 with_reducible apply thenx_norm
 with_reducible apply swx_block
 by_cases hAl : A.length ≤ 1000000000
 rotate_left
 ·cases (if_neg hAl).symm.trans h
 replace h := ifP hAl h
 obtain ⟨q3, hq, h⟩ := bnd h
 obtain ⟨q2, hq0, hq1⟩ := Option.bind_eq_some_iff.1 hq
 refine SWX.own (ts' := [(2, .ref 0 4 0 0), (4, .row 1 5 0 (([] : List FrReport)).length), (5, .d (vI a)), (81, .d (.v (.pointer (some ⟨it, 0, none⟩))))]) (L' := [some ⟨4, [.d (FrFormat.d t)]⟩]) 5 R R (.cons (.same _) (.cons .nil (.cons (.same _) (.cons (.same _) .nil)))) (.same .nil) ?_
 simp only [List.cons_append, List.nil_append]
 refine swx_loopS (fun m gx st => ∃ (S : List Nat) (rs : List FrReport), gx = Gh.it bm it A S ∧ S.Nodup ∧ (∀ i ∈ S, i < A.length) ∧ HS (frame_Merge_R F t) A S rs ∧ m = A.length - S.length ∧ st = ⟨[(2, .ref 0 4 0 0), (4, .row 1 5 0 (rs).length), (5, .d (vI a)), (81, .d (.v (.pointer (some ⟨it, 0, none⟩))))], [some ⟨4, [.d (FrFormat.d t)]⟩, some (lFrReportd rs)]⟩) (.prn [2, 4, 5, 81] R) ⟨[], [], R, List.nodup_nil, (fun _ h => nomatch h), HS.nil, R, R⟩ ?_
 rintro m gx st ⟨S, rs, rfl, hnd, hSb, hHS, rfl, rfl⟩
 with_reducible apply swx_seq
 with_reducible apply swx_rg
 with_reducible apply rgx_ev
 refine ev_x ?_
 refine rgx_next R R (fun i hi hS => ?_) (fun hall => ?_)
 ·with_reducible apply rgx_ev
  obtain ⟨⟨kx, lx⟩, hp⟩ : ∃ p, A[i]? = some p := ⟨_, List.getElem?_eq_getElem hi⟩
  obtain ⟨b, hb⟩ := hrg_at hq0 hp
  have hlt := nodup_lt hnd hSb hi hS
  have h := frame_Merge_of hb (rs := rs) (by have := hHS.len; omega)
  refine r_ext (t := .d (.v (.bool true))) R R R R (ev_endX ?_)
  with_reducible apply thenx_norm
  with_reducible apply swx_seq
  refine swx_condT R ?_
  with_reducible apply swx_skip
  with_reducible apply thenx_norm
  with_reducible apply swx_block
  with_reducible apply swx_seq
  with_reducible apply swx_rg
  with_reducible apply rgx_ev
  refine ev_x (rgx_mentry (p := (kx, lx)) R hp R ?_)
  show RgX _ _ _ _ _ _ _ _ _ _ ⟨(84, .d (.tup [.agg (intsD kx), .arr 1 (lx.map vI)])) :: _, _⟩
  with_reducible apply rgx_ev
  refine r_extD (t := .agg (intsD kx)) R R R R (r_extD (t := .arr 1 ((lx).map vI)) R R R R ?_)
  by_cases c8 : kx.length = 33
  rotate_left
  ·cases (if_neg c8).symm.trans h
  replace h := ifP c8 h
  refine ev_x ?_
  refine rgx_keybox (k := kx) (k0 := List.replicate 33 0) (tb.ok _ _ R) R (by rw [c8]; rfl) (by rw [c8]) R R (fun e => by cases e) ?_
  with_reducible apply rgx_ev
  refine q_asgD R (ev_endX ?_)
  with_reducible apply thenx_norm
  with_reducible apply swx_of
  refine sw_dr (by kernel_rfl) (r_movW R R R (r_ixEl tb R R R R R R R R ?_))
  obtain ⟨e4, ie4, h⟩ := bnd h
  refine r_ldK tb R R R R ie4 R R (q_movD R ?_)
  obtain ⟨e5, ie5, h⟩ := bnd h
  refine q_ixE tb (ix0 ie5) (ix1m ie5) R (q_ldE (y := vI e5) tb (ix2 (g := vI) ie5) R (q_movD R (q_lenM tb R (q_fa tb R (q_ldD (y := vI t.words) tb R (q_add R ?_))))))
  obtain ⟨q4, iq4, h⟩ := bnd h
  refine r_slEl (w := q4) tb R R R R R R R R iq4 R R ?_
  show EvK _ _ _ _ ⟨(98, .d (.arr 1 (q4.map vI))) :: _, _⟩ _ _
  obtain ⟨rv4, hrv4, h⟩ := bnd h
  refine r_call (slices_Clone_int_pc hrv4) (.of (by kernel_rfl)) R R R R (r_build (v := .d (.agg [vI e4, vI e5, vI (lx.length : Int), .v (.bool false), .arr 1 ((rv4).map vI)])) tb R R (List.cons_ne_nil _ _) R R R R R R (r_bslice tb R R R R R R R R R R R R R ?_))
  obtain ⟨q5, iq5, h⟩ := bnd h
  refine r_apM (g := FrReport.d) (w := rs) (v := [(FrReport.mk e4 e5 (lx.length : Int) false rv4)]) ([some ⟨4, [.d (FrFormat.d t)]⟩, none, some (lFrReportd [(FrReport.mk e4 e5 (lx.length : Int) false rv4)])]) tb R R R R R R R R R R R iq5 R R R R R (r_asgW R R R (ev_endD (by kernel_rfl) ?_))
  with_reducible apply blockx_norm
  with_reducible apply thenx_norm
  have hqe := Option.some.inj h
  exact ⟨_, ⟨[(2, .ref 0 4 0 0), (4, .row 1 5 0 (q5).length), (5, .d (vI a)), (81, .d (.v (.pointer (some ⟨it, 0, none⟩))))], [some ⟨4, [.d (FrFormat.d t)]⟩, some (lFrReportd q5)]⟩, (by simp only [List.length_append, List.length_singleton]; omega : _ < _), .vw (κ := [0, 3]) (vK (.cons R R (.row R .nil)) R), S ++ [i], _, R, nodup_add hnd hS, (fun j hj => (List.mem_append.1 hj).elim (hSb j) fun e => by rw [List.mem_singleton.1 e]; exact hi), (by rw [hqe]; exact hHS.add hp hb), R, R⟩
 with_reducible apply rgx_ev
 have hsrt := srt_perm rpLt_as hq1 (hHS.perm hnd hSb hall hq0)
 refine r_extD (t := .v (.bool false)) R R R R (ev_endX ?_)
 with_reducible apply thenx_norm
 with_reducible apply swx_seq
 refine swx_condF R ?_
 with_reducible apply swx_exit
 with_reducible apply thenx_exit
 with_reducible apply thenx_exit
 with_reducible apply blockx_exit
 with_reducible apply thenx_norm
 with_reducible apply swx_seq
 with_reducible apply swx_rg
 with_reducible apply rgx_ev
 refine r_movW R R R ?_
 have hlen : rs.length = q3.length := srt_len hsrt
 refine r_callO (t' := .d (.tup [])) (ls := [some (lFrReportd q3)]) (news := []) ([1]) ([some ⟨4, [.d (FrFormat.d t)]⟩, some (lFrReportd q3)]) (frame_sort_scr hsrt) (.of (by kernel_rfl)) R (.inl ⟨R, R, R⟩) R R R R ((.row R .nil)) R R R ((.row .nil)) .nil R R R R ?_
 first | rw [hlen] | skip
 refine ev_endX ?_
 with_reducible apply thenx_norm
 with_reducible apply swx_seq
 with_reducible apply swx_seq
 with_reducible apply swx_rg
 with_reducible apply rgx_ev
 refine r_movW R R R (r_lenR tb R R R R R (q_movD R (ev_endX ?_)))
 with_reducible apply thenx_norm
 with_reducible apply swx_block
 obtain ⟨K3, hK3, h⟩ : ∃ K, K = _ ∧ frame_Merge_L2 F K F q3 (q3.length : Int) 0 = some r := ⟨_, rfl, h⟩
 refine swx_loopS (st0 := ⟨[(4, .row 0 5 0 (q3).length), (5, .d (vI a)), (106, .d (vI (q3.length : Int))), (107, .d (vI 0))], [some (lFrReportd q3)]⟩) (fun m gx st => ∃ (rv5 : (List FrReport)) (x3 : Int) (x4 : Int), frame_Merge_L2 F K3 m rv5 x3 x4 = some r ∧ gx = Gh.it bm it A S ∧ st = ⟨[(4, .row 0 5 0 (rv5).length), (5, .d (vI a)), (106, .d (vI x3)), (107, .d (vI x4))], [some (lFrReportd rv5)]⟩) (.vw (κ := [1]) (vK (.row R .nil) R)) ⟨q3, (q3.length : Int), 0, h, R, R⟩ ?_
 clear h
 rintro m3 gx st ⟨rv5, x3, x4, h, rfl, rfl⟩
 cases m3 with
 | zero => cases (show (none : Option ((List FrReport) × Int)) = some r from h)
 | succ m3 =>
 rw [frame_Merge_L2] at h
 with_reducible apply swx_seq
 with_reducible apply swx_rg
 with_reducible apply rgx_ev
 refine r_lss R R R R ?_ ?_
 ·intro c9
  replace h := ifP c9 h
  refine ev_endX ?_
  with_reducible apply thenx_norm
  with_reducible apply swx_seq
  refine swx_condT R ?_
  with_reducible apply swx_skip
  with_reducible apply thenx_norm
  with_reducible apply swx_seq
  with_reducible apply swx_block
  with_reducible apply swx_seq
  with_reducible apply swx_rg
  with_reducible apply rgx_ev
  refine q_movD R (q_asgD R (ev_endX ?_))
  with_reducible apply thenx_norm
  with_reducible apply swx_of
  refine sw_dr (by kernel_rfl) (r_movW R R R (q_movD R (q_movD R (q_add R (r_movW R R R (r_lenR tb R R R R R ?_))))))
  refine r_lss R R R R ?_ ?_
  ·intro c10
   replace h := ifP c10 h
   refine q_movD R (r_movW R R R (q_movD R (q_add R ?_)))
   obtain ⟨e6, ie6, h⟩ := bnd h
   refine r_ixI tb R R R R R R (ix0 ie6) (ix1 ie6) R R (q_fa tb R ?_)
   refine r_ldD (y := vI e6.number) tb R R R R (ix2 (g := fun a => T.d (FrReport.d a)) ie6) R R R R ?_
   refine r_movW R R R (q_movD R ?_)
   obtain ⟨e7, ie7, h⟩ := bnd h
   refine r_ixI tb R R R R R R (ix0 ie7) (ix1 ie7) R R (q_fa tb R ?_)
   refine r_ldD (y := vI e7.number) tb R R R R (ix2 (g := fun a => T.d (FrReport.d a)) ie7) R R R R ?_
   refine r_eqlV R R R R (q_pickT R (r_ixI tb R R R R R R (ix0 ie7) (ix1 ie7) R R (q_fa tb R ?_)))
   obtain ⟨rv6, irv6, h⟩ := bnd h
   refine r_stQ (a' := ({e7 with marked := (decide (e6.number = e7.number))} : FrReport)) tb R R R R ie7 R R R R irv6 R R ?_
   dsimp only [List.set_cons_zero, List.set_cons_succ]
   first | rw [set_len irv6] | skip
   refine ev_endD (by kernel_rfl) ?_
   with_reducible apply blockx_norm
   with_reducible apply thenx_norm
   with_reducible apply swx_rg
   with_reducible apply rgx_ev
   refine q_add R (q_movD R (ev_endX ?_))
   with_reducible apply thenx_norm
   exact ⟨m3, _, Nat.lt_succ_self _, .prn [4, 5, 106, 107] R, rv6, x3, (W (x4 + 1)), h, R, R⟩
  intro c10
  replace h := ifN (Int.not_lt.2 c10) h
  refine q_movD R (q_sk 12 R (q_pickF R ?_))
  obtain ⟨e8, ie8, h⟩ := bnd h
  refine r_ixI tb R R R R R R (ix0 ie8) (ix1 ie8) R R (q_fa tb R ?_)
  obtain ⟨rv7, irv7, h⟩ := bnd h
  refine r_stQ (a' := ({e8 with marked := false} : FrReport)) tb R R R R ie8 R R R R irv7 R R ?_
  dsimp only [List.set_cons_zero, List.set_cons_succ]
  first | rw [set_len irv7] | skip
  refine ev_endD (by kernel_rfl) ?_
  with_reducible apply blockx_norm
  with_reducible apply thenx_norm
  with_reducible apply swx_rg
  with_reducible apply rgx_ev
  refine q_add R (q_movD R (ev_endX ?_))
  with_reducible apply thenx_norm
  exact ⟨m3, _, Nat.lt_succ_self _, .prn [4, 5, 106, 107] R, rv7, x3, (W (x4 + 1)), h, R, R⟩
 intro c9
 replace h := ifN (Int.not_lt.2 c9) h
 refine ev_endX ?_
 with_reducible apply thenx_norm
 with_reducible apply swx_seq
 refine swx_condF R ?_
 with_reducible apply swx_exit
 with_reducible apply thenx_exit
 with_reducible apply thenx_exit
 subst hK3
 with_reducible apply blockx_exit
 with_reducible apply thenx_norm
 with_reducible apply swx_seq
 with_reducible apply swx_rg
 with_reducible apply rgx_ev
 refine r_movW R R R ?_
 obtain ⟨rv8, hrv8, h⟩ := bnd h
 obtain ⟨u, hu, h⟩ := bnd h
 refine r_callO (t' := .row 0 5 0 (rv8.1).length) (ls := [some (lFrReportd rv8.2)]) (news := []) ([0]) ([some (lFrReportd rv8.2)]) (slices_CompactFunc_FrReport_m_frame_Merge_2_scr hrv8) (.of (by kernel_rfl)) R (.inl ⟨R, R, R⟩) R R R R ((.row R .nil)) R R R ((.row .nil)) .nil R R R R ?_
 first | rw [← lnO_eq hu] | skip
 refine r_asgW R R R (q_asgD R (ev_endX ?_))
 with_reducible apply thenx_norm
 obtain ⟨q6, hq6, h⟩ := bnd h
 refine SWX.trim (w := rv8.2) (q := q6) (a := rv8.1) 0 5 R R hq6 R ?_
 first | rw [pre_len hq6] | skip
 with_reducible apply swx_ret
 obtain rfl := sI h
 exact f2 [0] (.row R .nil) R (.cons (.tmp 4) (.cons (.tmp 5) .nil)) R
theorem frame_Merge_pc {F : Nat} {t : FrFormat} {o : (List FrTape)} {r : ((List FrReport) × Int)} (h : frame_Merge F t o = some r) : PC Try.prog 47 [FrFormat.d t, .arr 2 ((o).map FrTape.d)] (.tup [.arr 5 ((r.1).map FrReport.d), .v (.int .i64 r.2)]) := (frame_Merge_scr h).toPC (.tupL (.cons (.row rfl rfl) (.cons (.d _) .nil)))
def frame_CheckSky_1_1 (F : Nat) (nv : Int) (c : Int) : Option Bool := Option.bind (frame_out_int F nv (W (0 - c)) c) fun rv => some rv
theorem frame_CheckSky_1_1_pc {F : Nat} {nv : Int} {c : Int} {r : Bool} (h : frame_CheckSky_1_1 F nv c = some r) : PC Try.prog 82 [.v (.int .i64 nv), .el 1 (([c]).map vI) ((0 : Int)).toNat 0] (.v (.bool r)) := by
 rw [frame_CheckSky_1_1] at h
 refine SC.of_sw Try.func82 R R R ?_
 dsimp only [argS, List.map]
 refine qG (q_asgD R (eN (qG (q_movD R (q_ldE (y := vI c) tb (ix2 (g := vI) (R : ixO [c] 0 = some c)) R (r_neg R R R (q_ldE (y := vI c) tb (ix2 (g := vI) (R : ixO [c] 0 = some c)) R ?_)))))))
 obtain ⟨rv, hrv, h⟩ := bnd h
 refine r_call (frame_out_int_pc hrv) (.of (by kernel_rfl)) R R R R (q_asgD R (eN (sw_ret ?_)))
 obtain rfl := sI h
 exact f1 3 R
def frame_CheckSky_1 (F : Nat) (most : Int) (lv : (List Int)) : Option Bool := Option.bind (slices_ContainsFunc_int F lv (fun a0 => frame_CheckSky_1_1 F a0 most)) fun rv => some rv
theorem frame_CheckSky_1_pc {F : Nat} {most : Int} {lv : (List Int)} {r : Bool} (h : frame_CheckSky_1 F most lv = some r) : PC Try.prog 80 [.v (.int .i64 most), .arr 1 ((lv).map vI)] (.v (.bool r)) := by
 rw [frame_CheckSky_1] at h
 refine SC.of_sw Try.func80 R R R ?_
 dsimp only [argS, List.map]
 refine qG (q_box R (q_asgD R (eN (qG (q_movD R (r_func R R R R ?_))))))
 obtain ⟨rv, hrv, h⟩ := bnd h
 refine r_callX (t' := .d (.v (.bool rv))) (news' := []) (slices_ContainsFunc_int_scr (f := (fun a0 => frame_CheckSky_1_1 F a0 most)) (fc := [.el 1 [vI most] 0 0]) (fh := fun hr => frame_CheckSky_1_1_pc hr) (fe := .of (by kernel_rfl)) hrv) R .nil (.of (by kernel_rfl)) R R ((.cons (.d (.d _)) (.cons (.fnC (.cons (.d (.ref R (.d _))) .nil)) .nil))) R .nil R R R ?_
 simp only [List.map_nil, List.append_nil]
 refine q_asgD R (eN (sw_ret ?_))
 obtain rfl := sI h
 exact f1 4 R
def frame_axis_times (F : Nat) (a : FlDir) (b : FlDir) : Option Int := some (W ((W ((W (a.x * b.x)) + (W (a.y * b.y)))) + (W (a.z * b.z))))
theorem frame_axis_times_pc {F : Nat} {a : FlDir} {b : FlDir} {r : Int} (h : frame_axis_times F a b = some r) : PC Try.prog 83 [FlDir.d a, FlDir.d b] (.v (.int .i64 r)) := by
 rw [frame_axis_times] at h
 refine SC.of_sw Try.func83 R R R ?_
 dsimp only [argS, List.map]
 refine qG (q_box R (q_box R (q_asgD R (eN (qG (q_fa tb R (q_ldD (y := vI a.x) tb R (q_fa tb R (q_ldD (y := vI b.x) tb R (r_mul R R R R (q_fa tb R (q_ldD (y := vI a.y) tb R (q_fa tb R (q_ldD (y := vI b.y) tb R (r_mul R R R R (q_add R (q_fa tb R (q_ldD (y := vI a.z) tb R (q_fa tb R (q_ldD (y := vI b.z) tb R (r_mul R R R R (q_add R (q_asgD R (eN (sw_ret ?_)))))))))))))))))))))))))
 obtain rfl := sI h
 exact f1 4 R
def frame_CheckSky_L1 (F : Nat) (t : FrFormat) (o : FrSky) (K : Int → Option (Int × Int)) : Nat → Int → Option (Int × Int)
 | 0, _ => none
 | n + 1, x2 => if x2 < (o.sensors.length : Int) then (Option.bind (ixO o.sensors x2) fun e2 => Option.bind (frame_out_int F e2.channel 0 (W ((t.channels.length : Int) - 1))) fun rv6 => if rv6 = true then (some (x2, 4)) else (Option.bind (frame_CheckSky_1 F 1000000 [e2.x, e2.y, e2.z]) fun rv7 => if rv7 = true then (some (x2, 7)) else (Option.bind (frame_out_int F e2.scale 1 1000) fun rv8 => if rv8 = true then (some (x2, 7)) else (Option.bind (frame_out_int F e2.error 0 1000000) fun rv9 => if rv9 = true then (some (x2, 7)) else (frame_CheckSky_L1 F t o K n (W (x2 + 1))))))) else (K x2)
def frame_CheckSky_L2 (F : Nat) (o : FrSky) (K : Int → Option (Int × Int)) : Nat → Int → Option (Int × Int)
 | 0, _ => none
 | n + 1, x => if x < (o.dirs.length : Int) then (Option.bind (ixO o.dirs x) fun e => Option.bind (frame_CheckSky_1 F 10000 [e.x, e.y, e.z]) fun rv4 => if rv4 = true then (some (x, 7)) else (Option.bind (frame_axis_times F e e) fun rv5 => if rv5 < o.turn then (some (x, 2)) else (frame_CheckSky_L2 F o K n (W (x + 1))))) else (K x)
def frame_CheckSky (F : Nat) (t : FrFormat) (o : FrSky) : Option (Int × Int) := Option.bind (frame_Check F t) fun rv => if rv.2.2 = 0 then (Option.bind (frame_out_int F (o.dirs.length : Int) 1 30) fun rv2 => if rv2 = true then (some (0, 3)) else (if 6 < (o.sensors.length : Int) then (some (0, 3)) else (Option.bind (frame_out_int F o.turn (W (0 - 100000000)) 100000000) fun rv3 => if rv3 = true then (some (0, 7)) else (frame_CheckSky_L2 F o (fun (x : Int) => frame_CheckSky_L1 F t o (fun (x2 : Int) => some (0, 0)) F 0) F 0)))) else (some (0, rv.2.2))
theorem frame_CheckSky_pc {F : Nat} {t : FrFormat} {o : FrSky} {r : (Int × Int)} (h : frame_CheckSky F t o = some r) : PC Try.prog 40 [FrFormat.d t, FrSky.d o] (.tup [.v (.int .i64 r.1), .v (.int .i64 r.2)]) := by
 rw [frame_CheckSky] at h
 refine SC.of_sw Try.func40 R R R ?_
 dsimp only [argS, List.map]
 refine qG (q_box R (q_box R (q_asgD R (q_asgD R (eN (sw_seq (qG (q_ldD (y := FrFormat.d t) tb R ?_))))))))
 obtain ⟨rv, hrv, h⟩ := bnd h
 refine r_call (frame_Check_pc hrv) (.of (by kernel_rfl)) R R R R (q_movD R (r_extD (t := vI rv.1) R R R R (r_extD (t := vI rv.2.1) R R R R (r_extD (t := vI rv.2.2) R R R R (q_asgD R (eN (qG (q_movD R ?_))))))))
 refine r_neq R R R R ?_ ?_
 ·intro c
  replace h := ifN c h
  refine eN (sw_condT R (qG (q_movD R (q_asgD R (q_asgD R (eN (sw_ret (then_ret ?_))))))))
  obtain rfl := sI h
  exact fin_0 (t := .d (.tup [vI 0, vI rv.2.2])) R R R (.cons (.tmp 4) (.cons (.tmp 5) .nil))
 intro c
 replace h := ifP c h
 refine eN (sw_condF R (sw_skip (then_norm (qG (q_asgD R (eN (sw_seq (sw_block (qG (q_fa tb R (q_ldD (y := .arr 3 ((o.dirs).map FlDir.d)) tb R (q_lenM tb R ?_))))))))))))
 obtain ⟨rv2, hrv2, h⟩ := bnd h
 refine r_callB (frame_out_int_pc hrv2) (.of (by kernel_rfl)) R R R R ?_ ?_
 ·intro c2
  replace h := ifP c2 h
  refine q_movD R (q_sk 4 R (q_pickT R (q_asgD R (eN (sw_condT R (qG (q_asgD R (q_asgD R (eN (sw_ret (block_ret (then_ret ?_))))))))))))
  obtain rfl := sI h
  exact fin_0 (t := .d (.tup [vI 0, vI 3])) R R R (.cons (.tmp 4) (.cons (.tmp 5) .nil))
 intro c2
 replace h := ifF c2 h
 refine q_movD R (q_fa tb R (q_ldD (y := .arr 7 ((o.sensors).map FrSensor.d)) tb R (q_lenM tb R ?_)))
 refine r_gtr R R R R ?_ ?_
 ·intro c3
  replace h := ifP c3 h
  refine q_pickF R (q_asgD R (eN (sw_condT R (qG (q_asgD R (q_asgD R (eN (sw_ret (block_ret (then_ret ?_))))))))))
  obtain rfl := sI h
  exact fin_0 (t := .d (.tup [vI 0, vI 3])) R R R (.cons (.tmp 4) (.cons (.tmp 5) .nil))
 intro c3
 replace h := ifN (Int.not_lt.2 c3) h
 refine q_pickF R (q_asgD R (eN (sw_condF R (qG (q_fa tb R (q_ldD (y := vI o.turn) tb R (q_movD R (r_neg R R R (q_movD R ?_)))))))))
 obtain ⟨rv3, hrv3, h⟩ := bnd h
 refine r_callB (frame_out_int_pc hrv3) (.of (by kernel_rfl)) R R R R ?_ ?_
 ·intro c4
  replace h := ifP c4 h
  refine q_asgD R (eN (sw_condT R (qG (q_asgD R (q_asgD R (eN (sw_ret (block_ret (then_ret ?_)))))))))
  obtain rfl := sI h
  exact fin_0 (t := .d (.tup [vI 0, vI 7])) R R R (.cons (.tmp 4) (.cons (.tmp 5) .nil))
 intro c4
 replace h := ifF c4 h
 refine q_asgD R (eN (sw_condF R (sw_skip (block_norm (then_norm (qG (q_asgD R (eN (sw_seq (qG (q_fa tb R (q_ldD (y := .arr 3 ((o.dirs).map FlDir.d)) tb R (q_lenM tb R (q_movD R (eN (sw_block ?_))))))))))))))))
 obtain ⟨K2, hK2, h⟩ : ∃ K, K = _ ∧ frame_CheckSky_L2 F o K F 0 = some r := ⟨_, rfl, h⟩
 refine sw_loopS (fun m st => ∃ (x : Int), frame_CheckSky_L2 F o K2 m x = some r ∧ st = ⟨[(2, .ref 0 4 0 0), (3, .ref 1 3 0 0), (4, .d (vI 0)), (5, .d (vI rv.2.2)), (7, .d (.v (.func (.func 80) #[] #[]))), (40, .d (.arr 3 ((o.dirs).map FlDir.d))), (41, .d (vI (o.dirs.length : Int))), (42, .d (vI x))], [some ⟨4, [.d (FrFormat.d t)]⟩, some ⟨3, [.d (FrSky.d o)]⟩]⟩) (.prn [2, 3, 4, 5, 7, 40, 41, 42] R) ⟨0, h, R⟩ ?_
 clear h
 rintro m2 st ⟨x, h, rfl⟩
 cases m2 with
 | zero => cases (show (none : Option (Int × Int)) = some r from h)
 | succ m2 =>
 rw [frame_CheckSky_L2] at h
 refine qG ?_
 refine r_lss R R R R ?_ ?_
 ·intro c5
  replace h := ifP c5 h
  refine eN (sw_seq (sw_condT R (sw_skip (then_norm (sw_seq (sw_block (qG (q_movD R ?_))))))))
  obtain ⟨e, ie, h⟩ := bnd h
  refine q_ixE tb (ix0 ie) (ix1m ie) R (q_ldE (y := FlDir.d e) tb (ix2 (g := FlDir.d) ie) R (r_alloc tb R R R R R (q_asgD R (q_stE _ _ tb R (eN (sw_block (qG (q_movD R (q_fa tb R (q_ldD (y := vI e.x) tb R (q_fa tb R (q_ldD (y := vI e.y) tb R (q_fa tb R (q_ldD (y := vI e.z) tb R (r_bslice tb R R R R R R R R R R R R R ?_)))))))))))))))
  obtain ⟨rv4, hrv4, h⟩ := bnd h
  refine r_callLB (frame_CheckSky_1_pc hrv4) (.of (by kernel_rfl)) R R ((.cons (.d _) (.cons (.row R R) .nil))) R R ?_ ?_
  ·intro c6
   replace h := ifP c6 h
   refine q_asgD R (eN (sw_condT R (qG (q_movD R (q_asgD R (q_asgD R (eN (sw_ret (block_ret (block_ret (then_ret (then_ret (block_ret (then_ret ?_))))))))))))))
   obtain rfl := sI h
   exact fin_0 (t := .d (.tup [vI x, vI 7])) R R R (.cons (.tmp 4) (.cons (.tmp 5) .nil))
  intro c6
  replace h := ifF c6 h
  refine q_asgD R (eN (sw_condF R (sw_seq (sw_dr (by kernel_rfl) (q_ldD (y := FlDir.d e) tb R (q_ldD (y := FlDir.d e) tb R ?_))))))
  obtain ⟨rv5, hrv5, h⟩ := bnd h
  refine r_call (frame_axis_times_pc hrv5) (.of (by kernel_rfl)) R R R R (q_fa tb R (q_ldD (y := vI o.turn) tb R ?_))
  refine r_lss R R R R ?_ ?_
  ·intro c7
   replace h := ifP c7 h
   refine q_asgD R (ev_endD (by kernel_rfl) (then_norm (sw_condT R (qG (q_movD R (q_asgD R (q_asgD R (eN (sw_ret (block_ret (block_ret (then_ret (then_ret (block_ret (then_ret ?_)))))))))))))))
   obtain rfl := sI h
   exact fin_0 (t := .d (.tup [vI x, vI 2])) R R R (.cons (.tmp 4) (.cons (.tmp 5) .nil))
  intro c7
  replace h := ifN (Int.not_lt.2 c7) h
  refine q_asgD R (ev_endD (by kernel_rfl) (then_norm (sw_condF R (sw_skip (block_norm (block_norm (then_norm (sw_rg (q_add R (q_movD R (eN ?_)))))))))))
  exact ⟨m2, ⟨[(2, .ref 0 4 0 0), (3, .ref 1 3 0 0), (4, .d (vI 0)), (5, .d (vI rv.2.2)), (7, .d (.v (.func (.func 80) #[] #[]))), (40, .d (.arr 3 ((o.dirs).map FlDir.d))), (41, .d (vI (o.dirs.length : Int))), (42, .d (vI (W (x + 1))))], [some ⟨4, [.d (FrFormat.d t)]⟩, some ⟨3, [.d (FrSky.d o)]⟩]⟩, Nat.lt_succ_self _, .vw (κ := [0, 1]) (vK (.cons R R (.cons R R .nil)) R), (W (x + 1)), h, R⟩
 intro c5
 replace h := ifN (Int.not_lt.2 c5) h
 refine eN (sw_seq (sw_condF R (sw_exit (then_exit (then_exit ?_)))))
 subst hK2
 refine block_exit (then_norm (sw_seq (qG (q_fa tb R (q_ldD (y := .arr 7 ((o.sensors).map FrSensor.d)) tb R (q_lenM tb R (q_movD R (eN (sw_block ?_)))))))))
 obtain ⟨K4, hK4, h⟩ : ∃ K, K = _ ∧ frame_CheckSky_L1 F t o K F 0 = some r := ⟨_, rfl, h⟩
 refine sw_loopS (st0 := ⟨[(2, .ref 0 4 0 0), (4, .d (vI 0)), (5, .d (vI rv.2.2)), (7, .d (.v (.func (.func 80) #[] #[]))), (68, .d (.arr 7 ((o.sensors).map FrSensor.d))), (69, .d (vI (o.sensors.length : Int))), (70, .d (vI 0))], [some ⟨4, [.d (FrFormat.d t)]⟩]⟩) (fun m st => ∃ (x2 : Int), frame_CheckSky_L1 F t o K4 m x2 = some r ∧ st = ⟨[(2, .ref 0 4 0 0), (4, .d (vI 0)), (5, .d (vI rv.2.2)), (7, .d (.v (.func (.func 80) #[] #[]))), (68, .d (.arr 7 ((o.sensors).map FrSensor.d))), (69, .d (vI (o.sensors.length : Int))), (70, .d (vI x2))], [some ⟨4, [.d (FrFormat.d t)]⟩]⟩) (.vw (κ := [0]) (vK (.cons R R .nil) R)) ⟨0, h, R⟩ ?_
 clear h
 rintro m4 st ⟨x2, h, rfl⟩
 cases m4 with
 | zero => cases (show (none : Option (Int × Int)) = some r from h)
 | succ m4 =>
 rw [frame_CheckSky_L1] at h
 refine qG ?_
 refine r_lss R R R R ?_ ?_
 ·intro c8
  replace h := ifP c8 h
  refine eN (sw_seq (sw_condT R (sw_skip (then_norm (sw_seq (sw_block (qG (q_movD R ?_))))))))
  obtain ⟨e2, ie2, h⟩ := bnd h
  refine q_ixE tb (ix0 ie2) (ix1m ie2) R (q_ldE (y := FrSensor.d e2) tb (ix2 (g := FrSensor.d) ie2) R (r_alloc tb R R R R R (q_asgD R (q_stE _ _ tb R (eN (sw_block (qG (q_fa tb R (q_ldD (y := vI e2.channel) tb R (q_fa tb R (q_ldD (y := .arr 4 ((t.channels).map FrChannel.d)) tb R (q_lenM tb R (r_sub R R R R ?_)))))))))))))
  obtain ⟨rv6, hrv6, h⟩ := bnd h
  refine r_callB (frame_out_int_pc hrv6) (.of (by kernel_rfl)) R R R R ?_ ?_
  ·intro c9
   replace h := ifP c9 h
   refine q_asgD R (eN (sw_condT R (qG (q_movD R (q_asgD R (q_asgD R (eN (sw_ret (block_ret (block_ret (then_ret (then_ret (block_ret (then_ret ?_))))))))))))))
   obtain rfl := sI h
   exact fin_0 (t := .d (.tup [vI x2, vI 4])) R R R (.cons (.tmp 4) (.cons (.tmp 5) .nil))
  intro c9
  replace h := ifF c9 h
  refine q_asgD R (eN (sw_condF R (qG (q_movD R (q_fa tb R (q_ldD (y := vI e2.x) tb R (q_fa tb R (q_ldD (y := vI e2.y) tb R (q_fa tb R (q_ldD (y := vI e2.z) tb R (r_bslice tb R R R R R R R R R R R R R ?_)))))))))))
  obtain ⟨rv7, hrv7, h⟩ := bnd h
  refine r_callLB (frame_CheckSky_1_pc hrv7) (.of (by kernel_rfl)) R R ((.cons (.d _) (.cons (.row R R) .nil))) R R ?_ ?_
  ·intro c10
   replace h := ifP c10 h
   refine q_movD R (q_sk 3 R (q_pickT R (q_movD R (q_sk 3 R (q_pickT R (q_asgD R (eN (sw_condT R (qG (q_movD R (q_asgD R (q_asgD R (eN (sw_ret (block_ret (block_ret (then_ret (then_ret (block_ret (then_ret ?_))))))))))))))))))))
   obtain rfl := sI h
   exact fin_0 (t := .d (.tup [vI x2, vI 7])) R R R (.cons (.tmp 4) (.cons (.tmp 5) .nil))
  intro c10
  replace h := ifF c10 h
  refine q_movD R (q_fa tb R (q_ldD (y := vI e2.scale) tb R ?_))
  obtain ⟨rv8, hrv8, h⟩ := bnd h
  refine r_callB (frame_out_int_pc hrv8) (.of (by kernel_rfl)) R R R R ?_ ?_
  ·intro c11
   replace h := ifP c11 h
   refine q_pickF R (q_movD R (q_sk 3 R (q_pickT R (q_asgD R (eN (sw_condT R (qG (q_movD R (q_asgD R (q_asgD R (eN (sw_ret (block_ret (block_ret (then_ret (then_ret (block_ret (then_ret ?_))))))))))))))))))
   obtain rfl := sI h
   exact fin_0 (t := .d (.tup [vI x2, vI 7])) R R R (.cons (.tmp 4) (.cons (.tmp 5) .nil))
  intro c11
  replace h := ifF c11 h
  refine q_pickF R (q_movD R (q_fa tb R (q_ldD (y := vI e2.error) tb R ?_)))
  obtain ⟨rv9, hrv9, h⟩ := bnd h
  refine r_callB (frame_out_int_pc hrv9) (.of (by kernel_rfl)) R R R R ?_ ?_
  ·intro c12
   replace h := ifP c12 h
   refine q_pickF R (q_asgD R (eN (sw_condT R (qG (q_movD R (q_asgD R (q_asgD R (eN (sw_ret (block_ret (block_ret (then_ret (then_ret (block_ret (then_ret ?_)))))))))))))))
   obtain rfl := sI h
   exact fin_0 (t := .d (.tup [vI x2, vI 7])) R R R (.cons (.tmp 4) (.cons (.tmp 5) .nil))
  intro c12
  replace h := ifF c12 h
  refine q_pickF R (q_asgD R (eN (sw_condF R (sw_skip (block_norm (block_norm (then_norm (sw_rg (q_add R (q_movD R (eN ?_)))))))))))
  exact ⟨m4, ⟨[(2, .ref 0 4 0 0), (4, .d (vI 0)), (5, .d (vI rv.2.2)), (7, .d (.v (.func (.func 80) #[] #[]))), (68, .d (.arr 7 ((o.sensors).map FrSensor.d))), (69, .d (vI (o.sensors.length : Int))), (70, .d (vI (W (x2 + 1))))], [some ⟨4, [.d (FrFormat.d t)]⟩]⟩, Nat.lt_succ_self _, .vw (κ := [0]) (vK (.cons R R .nil) R), (W (x2 + 1)), h, R⟩
 intro c8
 replace h := ifN (Int.not_lt.2 c8) h
 refine eN (sw_seq (sw_condF R (sw_exit (then_exit (then_exit ?_)))))
 subst hK4
 refine block_exit (then_norm (qG (q_asgD R (q_asgD R (eN (sw_ret ?_))))))
 obtain rfl := sI h
 exact fin_0 (t := .d (.tup [vI 0, vI 0])) R R R (.cons (.tmp 4) (.cons (.tmp 5) .nil))
def frame_reports_L1 (F : Nat) (o : (List FrReport)) (K : Int → Option Int) : Nat → Int → Option Int
 | 0, _ => none
 | n + 1, x2 => if x2 < (o.length : Int) then (Option.bind (ixO o x2) fun e3 => Option.bind (frame_out_int F e3.number 0 1000000) fun rv => if rv = true then (some 7) else (Option.bind (frame_bad F e3.words) fun rv2 => if rv2 = true then (some 7) else (frame_reports_L1 F o K n (W (x2 + 1))))) else (K x2)
def frame_reports_L2 (F : Nat) (t : FrFormat) (o : (List FrReport)) (K : Int → Option Int) : Nat → Int → Option Int
 | 0, _ => none
 | n + 1, x => if x < (o.length : Int) then (Option.bind (ixO o x) fun e => if (e.words.length : Int) = t.words then (if 0 < x then (Option.bind (ixO o (W (x - 1))) fun e2 => if e.number ≤ e2.number then (some 2) else (frame_reports_L2 F t o K n (W (x + 1)))) else (frame_reports_L2 F t o K n (W (x + 1)))) else (some 2)) else (K x)
def frame_reports (F : Nat) (t : FrFormat) (o : (List FrReport)) : Option Int := frame_reports_L2 F t o (fun (x : Int) => frame_reports_L1 F o (fun (x2 : Int) => if 0 < (o.length : Int) then (Option.bind (ixO o (W ((o.length : Int) - 1))) fun e4 => Option.bind (ixO o 0) fun e5 => if 300 < (W (e4.number - e5.number)) then (some 3) else (some 0)) else (some 0)) F 0) F 0
theorem frame_reports_pc {F : Nat} {t : FrFormat} {o : (List FrReport)} {r : Int} (h : frame_reports F t o = some r) : PC Try.prog 87 [FrFormat.d t, .arr 5 ((o).map FrReport.d)] (.v (.int .i64 r)) := by
 rw [frame_reports] at h
 refine SC.of_sw Try.func87 R R R ?_
 dsimp only [argS, List.map]
 refine qG (q_box R (q_asgD R (eN (sw_seq (qG (q_movD R (q_lenM tb R (q_movD R (eN (sw_block ?_))))))))))
 obtain ⟨K2, hK2, h⟩ : ∃ K, K = _ ∧ frame_reports_L2 F t o K F 0 = some r := ⟨_, rfl, h⟩
 refine sw_loopS (fun m st => ∃ (x : Int), frame_reports_L2 F t o K2 m x = some r ∧ st = ⟨[(1, .d (.arr 5 ((o).map FrReport.d))), (2, .ref 0 4 0 0), (4, .d (vI 0)), (10, .d (.arr 5 ((o).map FrReport.d))), (11, .d (vI (o.length : Int))), (12, .d (vI x))], [some ⟨4, [.d (FrFormat.d t)]⟩]⟩) (.prn [1, 2, 4, 10, 11, 12] R) ⟨0, h, R⟩ ?_
 clear h
 rintro m2 st ⟨x, h, rfl⟩
 cases m2 with
 | zero => cases (show (none : Option Int) = some r from h)
 | succ m2 =>
 rw [frame_reports_L2] at h
 refine qG ?_
 refine r_lss R R R R ?_ ?_
 ·intro c
  replace h := ifP c h
  refine eN (sw_seq (sw_condT R (sw_skip (then_norm (sw_seq (sw_block (qG (q_movD R ?_))))))))
  obtain ⟨e, ie, h⟩ := bnd h
  refine q_ixE tb (ix0 ie) (ix1m ie) R (q_ldE (y := FrReport.d e) tb (ix2 (g := FrReport.d) ie) R (r_alloc tb R R R R R (q_asgD R (q_stE _ _ tb R (eN (sw_seq (sw_dr (by kernel_rfl) (q_fa tb R (q_ldD (y := .arr 1 ((e.words).map vI)) tb R (q_lenM tb R (q_fa tb R (q_ldD (y := vI t.words) tb R ?_))))))))))))
  refine r_neq R R R R ?_ ?_
  ·intro c2
   replace h := ifN c2 h
   refine q_movD R (q_sk 13 R (q_pickT R (ev_endD (by kernel_rfl) (then_norm (sw_condT R (qG (q_asgD R (eN (sw_ret (block_ret (then_ret (then_ret (block_ret (then_ret ?_))))))))))))))
   obtain rfl := sI h
   exact f1 4 R
  intro c2
  replace h := ifP c2 h
  refine q_movD R (q_movD R ?_)
  refine r_gtr R R R R ?_ ?_
  ·intro c3
   replace h := ifP c3 h
   refine q_movD R (q_fa tb R (q_ldD (y := vI e.number) tb R (q_movD R (q_movD R (r_sub R R R R ?_)))))
   obtain ⟨e2, ie2, h⟩ := bnd h
   refine q_ixE tb (ix0 ie2) (ix1m ie2) R (q_faE tb R (q_ldE (y := vI e2.number) tb (ix2 (g := FrReport.d) ie2) R ?_))
   refine r_leq R R R R ?_ ?_
   ·intro c4
    replace h := ifP c4 h
    refine q_pickT R (q_pickF R (ev_endD (by kernel_rfl) (then_norm (sw_condT R (qG (q_asgD R (eN (sw_ret (block_ret (then_ret (then_ret (block_ret (then_ret ?_)))))))))))))
    obtain rfl := sI h
    exact f1 4 R
   intro c4
   replace h := ifN (Int.not_le.2 c4) h
   refine q_pickT R (q_pickF R (ev_endD (by kernel_rfl) (then_norm (sw_condF R (sw_skip (block_norm (then_norm (sw_rg (q_add R (q_movD R (eN ?_)))))))))))
   exact ⟨m2, ⟨[(1, .d (.arr 5 ((o).map FrReport.d))), (2, .ref 0 4 0 0), (4, .d (vI 0)), (10, .d (.arr 5 ((o).map FrReport.d))), (11, .d (vI (o.length : Int))), (12, .d (vI (W (x + 1))))], [some ⟨4, [.d (FrFormat.d t)]⟩]⟩, Nat.lt_succ_self _, .vw (κ := [0]) (vK (.cons R R .nil) R), (W (x + 1)), h, R⟩
  intro c3
  replace h := ifN (Int.not_lt.2 c3) h
  refine q_movD R (q_sk 9 R (q_pickF R (q_pickF R (ev_endD (by kernel_rfl) (then_norm (sw_condF R (sw_skip (block_norm (then_norm (sw_rg (q_add R (q_movD R (eN ?_)))))))))))))
  exact ⟨m2, ⟨[(1, .d (.arr 5 ((o).map FrReport.d))), (2, .ref 0 4 0 0), (4, .d (vI 0)), (10, .d (.arr 5 ((o).map FrReport.d))), (11, .d (vI (o.length : Int))), (12, .d (vI (W (x + 1))))], [some ⟨4, [.d (FrFormat.d t)]⟩]⟩, Nat.lt_succ_self _, .vw (κ := [0]) (vK (.cons R R .nil) R), (W (x + 1)), h, R⟩
 intro c
 replace h := ifN (Int.not_lt.2 c) h
 refine eN (sw_seq (sw_condF R (sw_exit (then_exit (then_exit ?_)))))
 subst hK2
 refine block_exit (then_norm (sw_seq (qG (q_movD R (q_lenM tb R (q_movD R (eN (sw_block ?_))))))))
 obtain ⟨K4, hK4, h⟩ : ∃ K, K = _ ∧ frame_reports_L1 F o K F 0 = some r := ⟨_, rfl, h⟩
 refine sw_loopS (st0 := ⟨[(1, .d (.arr 5 ((o).map FrReport.d))), (4, .d (vI 0)), (39, .d (.arr 5 ((o).map FrReport.d))), (40, .d (vI (o.length : Int))), (41, .d (vI 0))], []⟩) (fun m st => ∃ (x2 : Int), frame_reports_L1 F o K4 m x2 = some r ∧ st = ⟨[(1, .d (.arr 5 ((o).map FrReport.d))), (4, .d (vI 0)), (39, .d (.arr 5 ((o).map FrReport.d))), (40, .d (vI (o.length : Int))), (41, .d (vI x2))], []⟩) (.vw (κ := []) (v0 R)) ⟨0, h, R⟩ ?_
 clear h
 rintro m4 st ⟨x2, h, rfl⟩
 cases m4 with
 | zero => cases (show (none : Option Int) = some r from h)
 | succ m4 =>
 rw [frame_reports_L1] at h
 refine qG ?_
 refine r_lss R R R R ?_ ?_
 ·intro c5
  replace h := ifP c5 h
  refine eN (sw_seq (sw_condT R (sw_skip (then_norm (sw_seq (sw_block (qG ?_)))))))
  obtain ⟨e3, ie3, h⟩ := bnd h
  refine q_ixE tb (ix0 ie3) (ix1m ie3) R (q_ldE (y := FrReport.d e3) tb (ix2 (g := FrReport.d) ie3) R (r_alloc tb R R R R R (q_stE _ _ tb R (eN (qG (q_fa tb R (q_ldD (y := vI e3.number) tb R ?_)))))))
  obtain ⟨rv, hrv, h⟩ := bnd h
  refine r_callB (frame_out_int_pc hrv) (.of (by kernel_rfl)) R R R R ?_ ?_
  ·intro c6
   replace h := ifP c6 h
   refine q_movD R (q_sk 3 R (q_pickT R (eN (sw_condT R (qG (q_asgD R (eN (sw_ret (block_ret (then_ret (then_ret (block_ret (then_ret ?_)))))))))))))
   obtain rfl := sI h
   exact f1 4 R
  intro c6
  replace h := ifF c6 h
  refine q_movD R (q_fa tb R (q_ldD (y := .arr 1 ((e3.words).map vI)) tb R ?_))
  obtain ⟨rv2, hrv2, h⟩ := bnd h
  refine r_callB (frame_bad_pc hrv2) (.of (by kernel_rfl)) R R R R ?_ ?_
  ·intro c7
   replace h := ifP c7 h
   refine q_pickF R (eN (sw_condT R (qG (q_asgD R (eN (sw_ret (block_ret (then_ret (then_ret (block_ret (then_ret ?_)))))))))))
   obtain rfl := sI h
   exact f1 4 R
  intro c7
  replace h := ifF c7 h
  refine q_pickF R (eN (sw_condF R (sw_skip (block_norm (then_norm (sw_rg (q_add R (q_movD R (eN ?_)))))))))
  exact ⟨m4, ⟨[(1, .d (.arr 5 ((o).map FrReport.d))), (4, .d (vI 0)), (39, .d (.arr 5 ((o).map FrReport.d))), (40, .d (vI (o.length : Int))), (41, .d (vI (W (x2 + 1))))], []⟩, Nat.lt_succ_self _, .vw (κ := []) (v0 R), (W (x2 + 1)), h, R⟩
 intro c5
 replace h := ifN (Int.not_lt.2 c5) h
 refine eN (sw_seq (sw_condF R (sw_exit (then_exit (then_exit ?_)))))
 subst hK4
 refine block_exit (then_norm (sw_seq (qG (q_movD R (q_lenM tb R (q_asgD R (eN (sw_seq (sw_dr (by kernel_rfl) (q_movD R ?_))))))))))
 refine r_gtr R R R R ?_ ?_
 ·intro c8
  replace h := ifP c8 h
  refine q_movD R (q_movD R (q_movD R (r_sub R R R R ?_)))
  obtain ⟨e4, ie4, h⟩ := bnd h
  refine q_ixE tb (ix0 ie4) (ix1m ie4) R (q_faE tb R (q_ldE (y := vI e4.number) tb (ix2 (g := FrReport.d) ie4) R (q_movD R ?_)))
  obtain ⟨e5, ie5, h⟩ := bnd h
  refine q_ixE tb (ix0 ie5) (ix1m ie5) R (q_faE tb R (q_ldE (y := vI e5.number) tb (ix2 (g := FrReport.d) ie5) R (r_sub R R R R ?_)))
  refine r_gtr R R R R ?_ ?_
  ·intro c9
   replace h := ifP c9 h
   refine q_pickT R (ev_endD (by kernel_rfl) (then_norm (sw_condT R (qG (q_asgD R (eN (sw_ret (then_ret ?_))))))))
   obtain rfl := sI h
   exact f1 4 R
  intro c9
  replace h := ifN (Int.not_lt.2 c9) h
  refine q_pickT R (ev_endD (by kernel_rfl) (then_norm (sw_condF R (sw_skip (then_norm (qG (q_asgD R (eN (sw_ret ?_)))))))))
  obtain rfl := sI h
  exact f1 4 R
 intro c8
 replace h := ifN (Int.not_lt.2 c8) h
 refine q_movD R (q_sk 12 R (q_pickF R (ev_endD (by kernel_rfl) (then_norm (sw_condF R (sw_skip (then_norm (qG (q_asgD R (eN (sw_ret ?_)))))))))))
 obtain rfl := sI h
 exact f1 4 R
def frame_turned_L1 (F : Nat) (s : FrSky) (fromv : Int) (x : Int) (e : FlDir) (K : Int → Int → Option Int) : Nat → Int → Int → Option Int
 | 0, _, _ => none
 | n + 1, tov2, x2 => if x2 < (s.dirs.length : Int) then (Option.bind (ixO s.dirs x2) fun e2 => if x2 < 0 then none else (if 0 < (iand .u32 (ishr .u32 fromv x2) 1) then (Option.bind (frame_axis_times F e2 e) fun rv => if s.turn ≤ rv then (if x < 0 then none else (K (ior .u32 tov2 (ishl .u32 1 x)) x2)) else (frame_turned_L1 F s fromv x e K n tov2 (W (x2 + 1)))) else (frame_turned_L1 F s fromv x e K n tov2 (W (x2 + 1))))) else (K tov2 x2)
def frame_turned_L2 (F : Nat) (s : FrSky) (fromv : Int) (K : Int → Int → Option Int) : Nat → Int → Int → Option Int
 | 0, _, _ => none
 | n + 1, tov, x => if x < (s.dirs.length : Int) then (Option.bind (ixO s.dirs x) fun e => frame_turned_L1 F s fromv x e (fun (tov2 : Int) (x2 : Int) => frame_turned_L2 F s fromv K n tov2 (W (x + 1))) F tov 0) else (K tov x)
def frame_turned (F : Nat) (s : FrSky) (fromv : Int) : Option Int := frame_turned_L2 F s fromv (fun (tov : Int) (x : Int) => some tov) F 0 0
theorem frame_turned_pc {F : Nat} {s : FrSky} {fromv : Int} {r : Int} (h : frame_turned F s fromv = some r) : PC Try.prog 88 [FrSky.d s, .v (.int .u32 fromv)] (.v (.int .u32 r)) := by
 rw [frame_turned] at h
 refine SC.of_sw Try.func88 R R R ?_
 dsimp only [argS, List.map]
 refine qG (q_box R (q_asgD R (eN (sw_scope (sw_seq (sw_label (then_norm (sw_seq (qG (q_fa tb R (q_ldD (y := .arr 3 ((s.dirs).map FlDir.d)) tb R (q_lenM tb R (q_movD R (eN (sw_block ?_)))))))))))))))
 obtain ⟨K5, hK5, h⟩ : ∃ K, K = _ ∧ frame_turned_L2 F s fromv K F 0 0 = some r := ⟨_, rfl, h⟩
 refine sw_loopS (fun m st => ∃ (tov : Int) (x : Int), frame_turned_L2 F s fromv K5 m tov x = some r ∧ st = ⟨[(1, .d (.v (.int .u32 fromv))), (2, .ref 0 3 0 0), (4, .d (.v (.int .u32 tov))), (10, .d (.arr 3 ((s.dirs).map FlDir.d))), (11, .d (vI (s.dirs.length : Int))), (12, .d (vI x))], [some ⟨3, [.d (FrSky.d s)]⟩]⟩) (.prn [1, 2, 4, 10, 11, 12] R) ⟨0, 0, h, R⟩ ?_
 clear h
 rintro m5 st ⟨tov, x, h, rfl⟩
 cases m5 with
 | zero => cases (show (none : Option Int) = some r from h)
 | succ m5 =>
 rw [frame_turned_L2] at h
 refine qG ?_
 refine r_lss R R R R ?_ ?_
 ·intro c
  replace h := ifP c h
  refine eN (sw_seq (sw_condT R (sw_skip (then_norm (sw_seq (sw_block (qG (q_movD R ?_))))))))
  obtain ⟨e, ie, h⟩ := bnd h
  refine q_ixE tb (ix0 ie) (ix1m ie) R (q_ldE (y := FlDir.d e) tb (ix2 (g := FlDir.d) ie) R (r_alloc tb R R R R R (q_asgD R (q_stE _ _ tb R (eN (qG (q_fa tb R (q_ldD (y := .arr 3 ((s.dirs).map FlDir.d)) tb R (q_lenM tb R (q_movD R (eN (sw_block ?_))))))))))))
  obtain ⟨K6, hK6, h⟩ : ∃ K, K = _ ∧ frame_turned_L1 F s fromv x e K F tov 0 = some r := ⟨_, rfl, h⟩
  refine sw_loopS (fun m st => ∃ (tov2 : Int) (x2 : Int), frame_turned_L1 F s fromv x e K6 m tov2 x2 = some r ∧ st = ⟨[(1, .d (.v (.int .u32 fromv))), (2, .ref 0 3 0 0), (4, .d (.v (.int .u32 tov2))), (5, .d (vI x)), (6, .ref 1 3 0 0), (10, .d (.arr 3 ((s.dirs).map FlDir.d))), (11, .d (vI (s.dirs.length : Int))), (12, .d (vI x)), (18, .d (.arr 3 ((s.dirs).map FlDir.d))), (19, .d (vI (s.dirs.length : Int))), (20, .d (vI x2))], [some ⟨3, [.d (FrSky.d s)]⟩, some ⟨3, [.d (FlDir.d e)]⟩]⟩) (.prn [1, 2, 4, 5, 6, 10, 11, 12, 18, 19, 20] R) ⟨tov, 0, h, R⟩ ?_
  clear h
  rintro m6 st ⟨tov2, x2, h, rfl⟩
  cases m6 with
  | zero => cases (show (none : Option Int) = some r from h)
  | succ m6 =>
  rw [frame_turned_L1] at h
  refine qG ?_
  refine r_lss R R R R ?_ ?_
  ·intro c2
   replace h := ifP c2 h
   refine eN (sw_seq (sw_condT R (sw_skip (then_norm (sw_seq (sw_block (qG (q_movD R ?_))))))))
   obtain ⟨e2, ie2, h⟩ := bnd h
   refine q_ixE tb (ix0 ie2) (ix1m ie2) R (q_ldE (y := FlDir.d e2) tb (ix2 (g := FlDir.d) ie2) R (r_alloc tb R R R R R (q_asgD R (q_stE _ _ tb R (eN (sw_seq (sw_dr (by kernel_rfl) (q_movD R (q_movD R ?_)))))))))
   by_cases c3 : x2 < 0
   ·cases (if_pos c3).symm.trans h
   replace h := ifN c3 h
   refine r_shr R R c3 R R (r_and R R R R ?_)
   refine r_gtr R R R R ?_ ?_
   ·intro c4
    replace h := ifP c4 h
    refine q_movD R (q_ldD (y := FlDir.d e2) tb R (q_ldD (y := FlDir.d e) tb R ?_))
    obtain ⟨rv, hrv, h⟩ := bnd h
    refine r_call (frame_axis_times_pc hrv) (.of (by kernel_rfl)) R R R R (q_fa tb R (q_ldD (y := vI s.turn) tb R ?_))
    refine r_geq R R R R ?_ ?_
    ·intro c5
     replace h := ifP c5 h
     refine q_pickT R (ev_endD (by kernel_rfl) (then_norm (sw_condT R (qG (q_movD R (q_movD R ?_))))))
     by_cases c6 : x < 0
     ·cases (if_pos c6).symm.trans h
     replace h := ifN c6 h
     refine r_shl R R c6 R R (r_or R R R R (q_asgD R (eN (sw_exit (block_other R (then_exit (then_exit ?_)))))))
     dsimp only [W] at h ⊢
     generalize (ior .u32 tov2 (ishl .u32 1 x)) = tov2 at h ⊢
     subst hK6
     refine block_other R (block_exit (then_norm (sw_rg (q_add R (q_movD R (eN ?_))))))
     exact ⟨m5, ⟨[(1, .d (.v (.int .u32 fromv))), (2, .ref 0 3 0 0), (4, .d (.v (.int .u32 tov2))), (10, .d (.arr 3 ((s.dirs).map FlDir.d))), (11, .d (vI (s.dirs.length : Int))), (12, .d (vI (W (x + 1))))], [some ⟨3, [.d (FrSky.d s)]⟩]⟩, Nat.lt_succ_self _, .vw (κ := [0]) (vK (.cons R R .nil) R), tov2, (W (x + 1)), h, R⟩
    intro c5
    replace h := ifN (Int.not_le.2 c5) h
    refine q_pickT R (ev_endD (by kernel_rfl) (then_norm (sw_condF R (sw_skip (block_norm (then_norm (sw_rg (q_add R (q_movD R (eN ?_))))))))))
    exact ⟨m6, ⟨[(1, .d (.v (.int .u32 fromv))), (2, .ref 0 3 0 0), (4, .d (.v (.int .u32 tov2))), (5, .d (vI x)), (6, .ref 1 3 0 0), (10, .d (.arr 3 ((s.dirs).map FlDir.d))), (11, .d (vI (s.dirs.length : Int))), (12, .d (vI x)), (18, .d (.arr 3 ((s.dirs).map FlDir.d))), (19, .d (vI (s.dirs.length : Int))), (20, .d (vI (W (x2 + 1))))], [some ⟨3, [.d (FrSky.d s)]⟩, some ⟨3, [.d (FlDir.d e)]⟩]⟩, Nat.lt_succ_self _, .vw (κ := [0, 1]) (vK (.cons R R (.cons R R .nil)) R), tov2, (W (x2 + 1)), h, R⟩
   intro c4
   replace h := ifN (Int.not_lt.2 c4) h
   refine q_movD R (q_sk 6 R (q_pickF R (ev_endD (by kernel_rfl) (then_norm (sw_condF R (sw_skip (block_norm (then_norm (sw_rg (q_add R (q_movD R (eN ?_))))))))))))
   exact ⟨m6, ⟨[(1, .d (.v (.int .u32 fromv))), (2, .ref 0 3 0 0), (4, .d (.v (.int .u32 tov2))), (5, .d (vI x)), (6, .ref 1 3 0 0), (10, .d (.arr 3 ((s.dirs).map FlDir.d))), (11, .d (vI (s.dirs.length : Int))), (12, .d (vI x)), (18, .d (.arr 3 ((s.dirs).map FlDir.d))), (19, .d (vI (s.dirs.length : Int))), (20, .d (vI (W (x2 + 1))))], [some ⟨3, [.d (FrSky.d s)]⟩, some ⟨3, [.d (FlDir.d e)]⟩]⟩, Nat.lt_succ_self _, .vw (κ := [0, 1]) (vK (.cons R R (.cons R R .nil)) R), tov2, (W (x2 + 1)), h, R⟩
  intro c2
  replace h := ifN (Int.not_lt.2 c2) h
  refine eN (sw_seq (sw_condF R (sw_exit (then_exit (then_exit ?_)))))
  subst hK6
  refine block_exit (block_norm (then_norm (sw_rg (q_add R (q_movD R (eN ?_))))))
  exact ⟨m5, ⟨[(1, .d (.v (.int .u32 fromv))), (2, .ref 0 3 0 0), (4, .d (.v (.int .u32 tov2))), (10, .d (.arr 3 ((s.dirs).map FlDir.d))), (11, .d (vI (s.dirs.length : Int))), (12, .d (vI (W (x + 1))))], [some ⟨3, [.d (FrSky.d s)]⟩]⟩, Nat.lt_succ_self _, .vw (κ := [0]) (vK (.cons R R .nil) R), tov2, (W (x + 1)), h, R⟩
 intro c
 replace h := ifN (Int.not_lt.2 c) h
 refine eN (sw_seq (sw_condF R (sw_exit (then_exit (then_exit ?_)))))
 subst hK5
 refine block_exit (then_norm (qG (q_movD R (q_asgD R (eN (sw_ret ?_))))))
 obtain rfl := sI h
 exact f1 4 R
def frame_fits_L1 (F : Nat) (t : FrFormat) (o : FrSky) (a : FlDir) (rv : FrReport) (K : Int → Option Bool) : Nat → Int → Option Bool
 | 0, _ => none
 | n + 1, x => if x < (o.sensors.length : Int) then (Option.bind (ixO o.sensors x) fun e => Option.bind (ixO t.channels e.channel) fun e2 => Option.bind (frame_in F e2 rv.number) fun rv2 => if rv2 = true then (Option.bind (frame_axis_times F a (FlDir.mk e.x e.y e.z)) fun rv3 => if e.sun = true then (Option.bind (ixO rv.words e2.word) fun e3 => Option.bind (frame_out_int F (W ((max rv3 0) - (W ((W (10000 * e.scale)) * (W (e3 - 32768)))))) (W ((-10000) * e.error)) (W (10000 * e.error))) fun rv4 => if rv4 = true then (some false) else (frame_fits_L1 F t o a rv K n (W (x + 1)))) else (Option.bind (ixO rv.words e2.word) fun e4 => Option.bind (frame_out_int F (W (rv3 - (W ((W (10000 * e.scale)) * (W (e4 - 32768)))))) (W ((-10000) * e.error)) (W (10000 * e.error))) fun rv5 => if rv5 = true then (some false) else (frame_fits_L1 F t o a rv K n (W (x + 1))))) else (frame_fits_L1 F t o a rv K n (W (x + 1)))) else (K x)
def frame_fits (F : Nat) (t : FrFormat) (o : FrSky) (a : FlDir) (rv : FrReport) : Option Bool := frame_fits_L1 F t o a rv (fun (x : Int) => some true) F 0
theorem frame_fits_pc {F : Nat} {t : FrFormat} {o : FrSky} {a : FlDir} {rv : FrReport} {r : Bool} (h : frame_fits F t o a rv = some r) : PC Try.prog 89 [FrFormat.d t, FrSky.d o, FlDir.d a, FrReport.d rv] (.v (.bool r)) := by
 rw [frame_fits] at h
 refine SC.of_sw Try.func89 R R R ?_
 dsimp only [argS, List.map]
 refine qG (q_box R (q_box R (q_box R (q_box R (q_asgD R (eN (sw_seq (qG (q_fa tb R (q_ldD (y := .arr 7 ((o.sensors).map FrSensor.d)) tb R (q_lenM tb R (q_movD R (eN (sw_block ?_))))))))))))))
 obtain ⟨K2, hK2, h⟩ : ∃ K, K = _ ∧ frame_fits_L1 F t o a rv K F 0 = some r := ⟨_, rfl, h⟩
 refine sw_loopS (st0 := ⟨[(4, .ref 0 4 0 0), (6, .ref 1 3 0 0), (7, .ref 2 5 0 0), (8, .d (.v (.bool false))), (14, .d (.arr 7 ((o.sensors).map FrSensor.d))), (15, .d (vI (o.sensors.length : Int))), (16, .d (vI 0))], [some ⟨4, [.d (FrFormat.d t)]⟩, some ⟨3, [.d (FlDir.d a)]⟩, some ⟨5, [.d (FrReport.d rv)]⟩]⟩) (fun m st => ∃ (x : Int), frame_fits_L1 F t o a rv K2 m x = some r ∧ st = ⟨[(4, .ref 0 4 0 0), (6, .ref 1 3 0 0), (7, .ref 2 5 0 0), (8, .d (.v (.bool false))), (14, .d (.arr 7 ((o.sensors).map FrSensor.d))), (15, .d (vI (o.sensors.length : Int))), (16, .d (vI x))], [some ⟨4, [.d (FrFormat.d t)]⟩, some ⟨3, [.d (FlDir.d a)]⟩, some ⟨5, [.d (FrReport.d rv)]⟩]⟩) (.vw (κ := [0, 2, 3]) (vK (.cons R R (.cons R R (.cons R R .nil))) R)) ⟨0, h, R⟩ ?_
 clear h
 rintro m2 st ⟨x, h, rfl⟩
 cases m2 with
 | zero => cases (show (none : Option Bool) = some r from h)
 | succ m2 =>
 rw [frame_fits_L1] at h
 refine qG ?_
 refine r_lss R R R R ?_ ?_
 ·intro c
  replace h := ifP c h
  refine eN (sw_seq (sw_condT R (sw_skip (then_norm (sw_seq (sw_block (qG ?_)))))))
  obtain ⟨e, ie, h⟩ := bnd h
  refine q_ixE tb (ix0 ie) (ix1m ie) R (q_ldE (y := FrSensor.d e) tb (ix2 (g := FrSensor.d) ie) R (r_alloc tb R R R R R (q_stE _ _ tb R (eN (qG (q_fa tb R (q_ldD (y := .arr 4 ((t.channels).map FrChannel.d)) tb R (q_fa tb R (q_ldD (y := vI e.channel) tb R ?_)))))))))
  obtain ⟨e2, ie2, h⟩ := bnd h
  refine q_ixE tb (ix0 ie2) (ix1m ie2) R (q_ldE (y := FrChannel.d e2) tb (ix2 (g := FrChannel.d) ie2) R (r_alloc tb R R R R R (q_stE _ _ tb R (eN (sw_seq (qG (q_ldD (y := FrChannel.d e2) tb R (q_fa tb R (q_ldD (y := vI rv.number) tb R ?_)))))))))
  obtain ⟨rv2, hrv2, h⟩ := bnd h
  refine r_callB (frame_in_pc hrv2) (.of (by kernel_rfl)) R R R R ?_ ?_
  ·intro c2
   replace h := ifP c2 h
   refine r_notT R R R (eN (sw_condF R (sw_skip (then_norm (qG (q_ldD (y := FlDir.d a) tb R (q_fa tb R (q_ldD (y := vI e.x) tb R (q_fa tb R (q_ldD (y := vI e.y) tb R (q_fa tb R (q_ldD (y := vI e.z) tb R (r_build (v := .d (.agg [vI e.x, vI e.y, vI e.z])) tb R R (List.cons_ne_nil _ _) R R R R R R ?_)))))))))))))
   obtain ⟨rv3, hrv3, h⟩ := bnd h
   refine r_call (frame_axis_times_pc hrv3) (.of (by kernel_rfl)) R R R R (q_asgD R (eN (sw_seq (qG (q_fa tb R (q_ldD (y := .v (.bool e.sun)) tb R ?_))))))
   with_reducible apply ev_lit
   ·intro c3
    replace h := ifP c3 h
    refine eN (sw_condT R (sw_rg (q_movD R (r_max2 R R R R (q_asgD R (eN (sw_seq (sw_dr (by kernel_rfl) (q_movD R (q_fa tb R (q_ldD (y := vI e.scale) tb R (r_mul R R R R (q_fa tb R (q_ldD (y := .arr 1 ((rv.words).map vI)) tb R (q_fa tb R (q_ldD (y := vI e2.word) tb R ?_))))))))))))))))
    obtain ⟨e3, ie3, h⟩ := bnd h
    refine q_ixE tb (ix0 ie3) (ix1m ie3) R (q_ldE (y := vI e3) tb (ix2 (g := vI) ie3) R (r_sub R R R R (r_mul R R R R (r_sub R R R R (q_asgD R (ev_endD (by kernel_rfl) (then_norm (qG (q_movD R (q_fa tb R (q_ldD (y := vI e.error) tb R (r_mul R R R R (q_fa tb R (q_ldD (y := vI e.error) tb R (r_mul R R R R ?_)))))))))))))))
    obtain ⟨rv4, hrv4, h⟩ := bnd h
    refine r_callB (frame_out_int_pc hrv4) (.of (by kernel_rfl)) R R R R ?_ ?_
    ·intro c4
     replace h := ifP c4 h
     refine eN (sw_condT R (qG (q_asgD R (eN (sw_ret (block_ret (then_ret (then_ret (block_ret (then_ret ?_))))))))))
     obtain rfl := sI h
     exact f1 8 R
    intro c4
    replace h := ifF c4 h
    refine eN (sw_condF R (sw_skip (block_norm (then_norm (sw_rg (q_add R (q_movD R (eN ?_))))))))
    exact ⟨m2, ⟨[(4, .ref 0 4 0 0), (6, .ref 1 3 0 0), (7, .ref 2 5 0 0), (8, .d (.v (.bool false))), (14, .d (.arr 7 ((o.sensors).map FrSensor.d))), (15, .d (vI (o.sensors.length : Int))), (16, .d (vI (W (x + 1))))], [some ⟨4, [.d (FrFormat.d t)]⟩, some ⟨3, [.d (FlDir.d a)]⟩, some ⟨5, [.d (FrReport.d rv)]⟩]⟩, Nat.lt_succ_self _, .vw (κ := [0, 1, 2]) (vK (.cons R R (.cons R R (.cons R R .nil))) R), (W (x + 1)), h, R⟩
   intro c3
   replace h := ifF c3 h
   refine eN (sw_condF R (sw_skip (then_norm (sw_seq (sw_dr (by kernel_rfl) (q_movD R (q_fa tb R (q_ldD (y := vI e.scale) tb R (r_mul R R R R (q_fa tb R (q_ldD (y := .arr 1 ((rv.words).map vI)) tb R (q_fa tb R (q_ldD (y := vI e2.word) tb R ?_)))))))))))))
   obtain ⟨e4, ie4, h⟩ := bnd h
   refine q_ixE tb (ix0 ie4) (ix1m ie4) R (q_ldE (y := vI e4) tb (ix2 (g := vI) ie4) R (r_sub R R R R (r_mul R R R R (r_sub R R R R (q_asgD R (ev_endD (by kernel_rfl) (then_norm (qG (q_movD R (q_fa tb R (q_ldD (y := vI e.error) tb R (r_mul R R R R (q_fa tb R (q_ldD (y := vI e.error) tb R (r_mul R R R R ?_)))))))))))))))
   obtain ⟨rv5, hrv5, h⟩ := bnd h
   refine r_callB (frame_out_int_pc hrv5) (.of (by kernel_rfl)) R R R R ?_ ?_
   ·intro c5
    replace h := ifP c5 h
    refine eN (sw_condT R (qG (q_asgD R (eN (sw_ret (block_ret (then_ret (then_ret (block_ret (then_ret ?_))))))))))
    obtain rfl := sI h
    exact f1 8 R
   intro c5
   replace h := ifF c5 h
   refine eN (sw_condF R (sw_skip (block_norm (then_norm (sw_rg (q_add R (q_movD R (eN ?_))))))))
   exact ⟨m2, ⟨[(4, .ref 0 4 0 0), (6, .ref 1 3 0 0), (7, .ref 2 5 0 0), (8, .d (.v (.bool false))), (14, .d (.arr 7 ((o.sensors).map FrSensor.d))), (15, .d (vI (o.sensors.length : Int))), (16, .d (vI (W (x + 1))))], [some ⟨4, [.d (FrFormat.d t)]⟩, some ⟨3, [.d (FlDir.d a)]⟩, some ⟨5, [.d (FrReport.d rv)]⟩]⟩, Nat.lt_succ_self _, .vw (κ := [0, 1, 2]) (vK (.cons R R (.cons R R (.cons R R .nil))) R), (W (x + 1)), h, R⟩
  intro c2
  replace h := ifF c2 h
  refine r_notF R R R (eN (sw_condT R (sw_exit (then_exit (block_exit (then_norm (sw_rg (q_add R (q_movD R (eN ?_))))))))))
  exact ⟨m2, ⟨[(4, .ref 0 4 0 0), (6, .ref 1 3 0 0), (7, .ref 2 5 0 0), (8, .d (.v (.bool false))), (14, .d (.arr 7 ((o.sensors).map FrSensor.d))), (15, .d (vI (o.sensors.length : Int))), (16, .d (vI (W (x + 1))))], [some ⟨4, [.d (FrFormat.d t)]⟩, some ⟨3, [.d (FlDir.d a)]⟩, some ⟨5, [.d (FrReport.d rv)]⟩]⟩, Nat.lt_succ_self _, .vw (κ := [0, 1, 2]) (vK (.cons R R (.cons R R (.cons R R .nil))) R), (W (x + 1)), h, R⟩
 intro c
 replace h := ifN (Int.not_lt.2 c) h
 refine eN (sw_seq (sw_condF R (sw_exit (then_exit (then_exit ?_)))))
 subst hK2
 refine block_exit (then_norm (qG (q_asgD R (eN (sw_ret ?_)))))
 obtain rfl := sI h
 exact f1 8 R
def frame_Axes_J1 (F : Nat) (B22 : Int → (List Int) → Int → Option ((List FrAxes) × Int)) (lv : (List Int)) (x8 : Int) (x9 : Int) : Option ((List FrAxes) × Int) := if x8 < 0 then none else (if 0 < (iand .u32 (ishr .u32 x9 x8) 1) then (Option.bind (appO lv [x8]) fun q => B22 x9 q (W (x8 + 1))) else (B22 x9 lv (W (x8 + 1))))
def frame_Axes_L1 (F : Nat) (t : FrFormat) (o : FrSky) (e : FrReport) (x5 : Int) (K : Int → (List Int) → Int → Option ((List FrAxes) × Int)) : Nat → Int → (List Int) → Int → Option ((List FrAxes) × Int)
 | 0, _, _, _ => none
 | n + 1, x7, lv, x8 => if x8 < (o.dirs.length : Int) then (Option.bind (ixO o.dirs x8) fun e3 => if x5 = e.number then (if e.marked = true then (frame_Axes_J1 F (frame_Axes_L1 F t o e x5 K n) lv x8 x7) else (Option.bind (frame_fits F t o e3 e) fun rv4 => if rv4 = true then (frame_Axes_J1 F (frame_Axes_L1 F t o e x5 K n) lv x8 x7) else (if x8 < 0 then none else (frame_Axes_J1 F (frame_Axes_L1 F t o e x5 K n) lv x8 (iandN .u32 x7 (ishl .u32 1 x8)))))) else (frame_Axes_J1 F (frame_Axes_L1 F t o e x5 K n) lv x8 x7)) else (K x7 lv x8)
def frame_Axes_J2 (F : Nat) (B18 : (List FrAxes) → Int → Int → Option ((List FrAxes) × Int)) (t : FrFormat) (o : FrSky) (e : FrReport) (y2 : (List FrAxes)) (x5 : Int) (x6 : Int) : Option ((List FrAxes) × Int) := frame_Axes_L1 F t o e x5 (fun (x7 : Int) (lv : (List Int)) (x8 : Int) => Option.bind (appO y2 [(FrAxes.mk x5 lv)]) fun q2 => B18 q2 x7 (W (x5 + 1))) F x6 ([] : List Int) 0
def frame_Axes_L2 (F : Nat) (t : FrFormat) (o : FrSky) (e : FrReport) (K : (List FrAxes) → Int → Int → Option ((List FrAxes) × Int)) : Nat → (List FrAxes) → Int → Int → Option ((List FrAxes) × Int)
 | 0, _, _, _ => none
 | n + 1, y2, x4, x5 => if x5 ≤ e.number then (if 0 < (y2.length : Int) then (Option.bind (frame_turned F o x4) fun rv3 => frame_Axes_J2 F (frame_Axes_L2 F t o e K n) t o e y2 x5 rv3) else (frame_Axes_J2 F (frame_Axes_L2 F t o e K n) t o e y2 x5 x4)) else (K y2 x4 x5)
def frame_Axes_J3 (F : Nat) (B12 : (List FrAxes) → Int → Int → Option ((List FrAxes) × Int)) (t : FrFormat) (o : FrSky) (y : (List FrAxes)) (x : Int) (x2 : Int) (e : FrReport) (x3 : Int) : Option ((List FrAxes) × Int) := frame_Axes_L2 F t o e (fun (y2 : (List FrAxes)) (x4 : Int) (x5 : Int) => B12 y2 x4 (W (x2 + 1))) F y x x3
def frame_Axes_L3 (F : Nat) (t : FrFormat) (o : FrSky) (a : (List FrReport)) (K : (List FrAxes) → Int → Int → Option ((List FrAxes) × Int)) : Nat → (List FrAxes) → Int → Int → Option ((List FrAxes) × Int)
 | 0, _, _, _ => none
 | n + 1, y, x, x2 => if x2 < (a.length : Int) then (Option.bind (ixO a x2) fun e => if 0 < x2 then (Option.bind (ixO a (W (x2 - 1))) fun e2 => frame_Axes_J3 F (frame_Axes_L3 F t o a K n) t o y x x2 e (W (e2.number + 1))) else (frame_Axes_J3 F (frame_Axes_L3 F t o a K n) t o y x x2 e e.number)) else (K y x x2)
def frame_Axes (F : Nat) (t : FrFormat) (o : FrSky) (a : (List FrReport)) : Option ((List FrAxes) × Int) := Option.bind (frame_CheckSky F t o) fun rv => if rv.2 = 0 then (Option.bind (frame_reports F t a) fun rv2 => if rv2 = 0 then (if (o.dirs.length : Int) < 0 then none else (frame_Axes_L3 F t o a (fun (y : (List FrAxes)) (x : Int) (x2 : Int) => some (y, 0)) F ([] : List FrAxes) (IntKind.u32.wrap ((ishl .u32 1 (o.dirs.length : Int)) - 1)) 0)) else (some (([] : List FrAxes), rv2))) else (some (([] : List FrAxes), rv.2))
theorem frame_Axes_scr {F : Nat} {t : FrFormat} {o : FrSky} {a : (List FrReport)} {r : ((List FrAxes) × Int)} (h : frame_Axes F t o a = some r) : SCR Try.prog 43 (List.map T.d [FrFormat.d t, FrSky.d o, .arr 5 ((a).map FrReport.d)]) [] (.tup [.row 0 2 0 (r.1).length, .d (.v (.int .i64 r.2))]) (List.map some [(lFrAxesd r.1)]) := by
 rw [frame_Axes] at h
 refine SC.of_sw Try.func43 R R R ?_
 dsimp only [argS, List.map]
 refine qG (q_box R (q_box R (q_asgD R (q_asgD R (eN (sw_seq (qG (q_ldD (y := FrFormat.d t) tb R (q_ldD (y := FrSky.d o) tb R ?_)))))))))
 obtain ⟨rv, hrv, h⟩ := bnd h
 refine r_call (frame_CheckSky_pc hrv) (.of (by kernel_rfl)) R R R R (q_movD R (r_extD (t := vI rv.1) R R R R (r_extD (t := vI rv.2) R R R R (q_asgD R (eN (qG (q_movD R ?_)))))))
 refine r_neq R R R R ?_ ?_
 ·intro c
  replace h := ifN c h
  refine eN (sw_condT R (qG (q_movD R (q_asgD R (q_asgD R (eN ?_))))))
  refine SW.own (ts' := [(6, .row 2 2 0 (([] : List FrAxes)).length), (7, .d (vI rv.2))]) (L' := [some ⟨4, [.d (FrFormat.d t)]⟩, some ⟨3, [.d (FrSky.d o)]⟩]) 2 R R (.cons .nil (.cons (.same _) .nil)) (.same (.same .nil)) ?_
  simp only [List.cons_append, List.nil_append]
  refine sw_ret (then_ret ?_)
  obtain rfl := sI h
  exact f2 [2] (.row R .nil) R (.cons (.tmp 6) (.cons (.tmp 7) .nil)) R
 intro c
 replace h := ifP c h
 refine eN (sw_condF R (sw_skip (then_norm (sw_seq (qG (q_ldD (y := FrFormat.d t) tb R (q_movD R ?_)))))))
 obtain ⟨rv2, hrv2, h⟩ := bnd h
 refine r_call (frame_reports_pc hrv2) (.of (by kernel_rfl)) R R R R (q_asgD R (eN (qG (q_movD R ?_))))
 refine r_neq R R R R ?_ ?_
 ·intro c2
  replace h := ifN c2 h
  refine eN (sw_condT R (qG (q_movD R (q_asgD R (q_asgD R (eN ?_))))))
  refine SW.own (ts' := [(6, .row 2 2 0 (([] : List FrAxes)).length), (7, .d (vI rv2))]) (L' := [some ⟨4, [.d (FrFormat.d t)]⟩, some ⟨3, [.d (FrSky.d o)]⟩]) 2 R R (.cons .nil (.cons (.same _) .nil)) (.same (.same .nil)) ?_
  simp only [List.cons_append, List.nil_append]
  refine sw_ret (then_ret ?_)
  obtain rfl := sI h
  exact f2 [2] (.row R .nil) R (.cons (.tmp 6) (.cons (.tmp 7) .nil)) R
 intro c2
 replace h := ifP c2 h
 refine eN (sw_condF R (sw_skip (then_norm (qG (q_fa tb R (q_ldD (y := .arr 3 ((o.dirs).map FlDir.d)) tb R (q_lenM tb R ?_)))))))
 by_cases c3 : (o.dirs.length : Int) < 0
 ·cases (if_pos c3).symm.trans h
 replace h := ifN c3 h
 refine r_shl R R c3 R R (r_sub R R R R (q_asgD R (eN (sw_seq (qG (q_movD R (q_lenM tb R (q_movD R (eN (sw_block ?_))))))))))
 refine SW.own (ts' := [(2, .d (.arr 5 ((a).map FrReport.d))), (3, .ref 0 4 0 0), (4, .ref 1 3 0 0), (6, .row 2 2 0 (([] : List FrAxes)).length), (7, .d (vI rv2)), (8, .d (.v (.int .u32 (IntKind.u32.wrap ((ishl .u32 1 (o.dirs.length : Int)) - 1))))), (35, .d (.arr 5 ((a).map FrReport.d))), (36, .d (vI (a.length : Int))), (37, .d (vI 0))]) (L' := [some ⟨4, [.d (FrFormat.d t)]⟩, some ⟨3, [.d (FrSky.d o)]⟩]) 2 R R (.cons (.same _) (.cons (.same _) (.cons (.same _) (.cons .nil (.cons (.same _) (.cons (.same _) (.cons (.same _) (.cons (.same _) (.cons (.same _) .nil))))))))) (.same (.same .nil)) ?_
 simp only [List.cons_append, List.nil_append]
 obtain ⟨K12, hK12, h⟩ : ∃ K, K = _ ∧ frame_Axes_L3 F t o a K F ([] : List FrAxes) (IntKind.u32.wrap ((ishl .u32 1 (o.dirs.length : Int)) - 1)) 0 = some r := ⟨_, rfl, h⟩
 refine sw_loopS (fun m st => ∃ (y : (List FrAxes)) (x : Int) (x2 : Int), frame_Axes_L3 F t o a K12 m y x x2 = some r ∧ st = ⟨[(2, .d (.arr 5 ((a).map FrReport.d))), (3, .ref 0 4 0 0), (4, .ref 1 3 0 0), (6, .row 2 2 0 (y).length), (7, .d (vI rv2)), (8, .d (.v (.int .u32 x))), (35, .d (.arr 5 ((a).map FrReport.d))), (36, .d (vI (a.length : Int))), (37, .d (vI x2))], [some ⟨4, [.d (FrFormat.d t)]⟩, some ⟨3, [.d (FrSky.d o)]⟩, some (lFrAxesd y)]⟩) (.prn [2, 3, 4, 6, 7, 8, 35, 36, 37] R) ⟨([] : List FrAxes), (IntKind.u32.wrap ((ishl .u32 1 (o.dirs.length : Int)) - 1)), 0, h, R⟩ ?_
 clear h
 rintro m12 st ⟨y, x, x2, h, rfl⟩
 cases m12 with
 | zero => cases (show (none : Option ((List FrAxes) × Int)) = some r from h)
 | succ m12 =>
 rw [frame_Axes_L3] at h
 refine qG ?_
 refine r_lss R R R R ?_ ?_
 ·intro c4
  replace h := ifP c4 h
  refine eN (sw_seq (sw_condT R (sw_skip (then_norm (sw_seq (sw_block (qG (q_movD R ?_))))))))
  obtain ⟨e, ie, h⟩ := bnd h
  refine q_ixE tb (ix0 ie) (ix1m ie) R (q_ldE (y := FrReport.d e) tb (ix2 (g := FrReport.d) ie) R (r_alloc tb R R R R R (q_asgD R (q_stE _ _ tb R (eN (qG (q_fa tb R (q_ldD (y := vI e.number) tb R (q_asgD R (eN (sw_seq ?_)))))))))))
  refine sw_join (fun zz : Int => frame_Axes_J3 F (frame_Axes_L3 F t o a K12 m12) t o y x x2 e zz = some r) (fun zz : Int => ⟨[(2, .d (.arr 5 ((a).map FrReport.d))), (3, .ref 0 4 0 0), (4, .ref 1 3 0 0), (6, .row 2 2 0 (y).length), (7, .d (vI rv2)), (8, .d (.v (.int .u32 x))), (10, .ref 3 5 0 0), (11, .d (vI zz)), (35, .d (.arr 5 ((a).map FrReport.d))), (36, .d (vI (a.length : Int))), (37, .d (vI x2))], [some ⟨4, [.d (FrFormat.d t)]⟩, some ⟨3, [.d (FrSky.d o)]⟩, some (lFrAxesd y), some ⟨5, [.d (FrReport.d e)]⟩]⟩) ?_ ?_
  ·clear h
   rintro x3 h
   rw [frame_Axes_J3] at h
   refine sw_block ?_
   obtain ⟨K18, hK18, h⟩ : ∃ K, K = _ ∧ frame_Axes_L2 F t o e K F y x x3 = some r := ⟨_, rfl, h⟩
   refine sw_loopS (fun m st => ∃ (y2 : (List FrAxes)) (x4 : Int) (x5 : Int), frame_Axes_L2 F t o e K18 m y2 x4 x5 = some r ∧ st = ⟨[(2, .d (.arr 5 ((a).map FrReport.d))), (3, .ref 0 4 0 0), (4, .ref 1 3 0 0), (6, .row 2 2 0 (y2).length), (7, .d (vI rv2)), (8, .d (.v (.int .u32 x4))), (10, .ref 3 5 0 0), (11, .d (vI x5)), (35, .d (.arr 5 ((a).map FrReport.d))), (36, .d (vI (a.length : Int))), (37, .d (vI x2))], [some ⟨4, [.d (FrFormat.d t)]⟩, some ⟨3, [.d (FrSky.d o)]⟩, some (lFrAxesd y2), some ⟨5, [.d (FrReport.d e)]⟩]⟩) (.prn [2, 3, 4, 6, 7, 8, 10, 11, 35, 36, 37] R) ⟨y, x, x3, h, R⟩ ?_
   clear h
   rintro m18 st ⟨y2, x4, x5, h, rfl⟩
   cases m18 with
   | zero => cases (show (none : Option ((List FrAxes) × Int)) = some r from h)
   | succ m18 =>
   rw [frame_Axes_L2] at h
   refine sw_seq (qG (q_movD R (q_fa tb R (q_ldD (y := vI e.number) tb R ?_))))
   refine r_leq R R R R ?_ ?_
   ·intro c6
    replace h := ifP c6 h
    refine eN (sw_condT R (sw_skip (then_norm (sw_seq (sw_block (sw_seq ?_))))))
    refine sw_join (fun zz : Int => frame_Axes_J2 F (frame_Axes_L2 F t o e K18 m18) t o e y2 x5 zz = some r) (fun zz : Int => ⟨[(2, .d (.arr 5 ((a).map FrReport.d))), (3, .ref 0 4 0 0), (4, .ref 1 3 0 0), (6, .row 2 2 0 (y2).length), (7, .d (vI rv2)), (8, .d (.v (.int .u32 zz))), (10, .ref 3 5 0 0), (11, .d (vI x5)), (35, .d (.arr 5 ((a).map FrReport.d))), (36, .d (vI (a.length : Int))), (37, .d (vI x2))], [some ⟨4, [.d (FrFormat.d t)]⟩, some ⟨3, [.d (FrSky.d o)]⟩, some (lFrAxesd y2), some ⟨5, [.d (FrReport.d e)]⟩]⟩) ?_ ?_
    ·clear h
     rintro x6 h
     rw [frame_Axes_J2] at h
     refine qG (q_movD R (r_build (v := .d (.agg [vI x5, .v (.slice none 0 0)])) tb R R (List.cons_ne_nil _ _) R R R R R R (r_alloc tb R R R R R (q_stE _ _ tb R (eN (sw_seq (qG (q_fa tb R (q_ldD (y := .arr 3 ((o.dirs).map FlDir.d)) tb R (q_lenM tb R (q_movD R (eN (sw_block ?_)))))))))))))
     refine SW.own (ts' := [(2, .d (.arr 5 ((a).map FrReport.d))), (3, .ref 0 4 0 0), (4, .ref 1 3 0 0), (6, .row 2 2 0 (y2).length), (7, .d (vI rv2)), (8, .d (.v (.int .u32 x6))), (10, .ref 3 5 0 0), (11, .d (vI x5)), (12, .ref 4 2 0 0), (35, .d (.arr 5 ((a).map FrReport.d))), (36, .d (vI (a.length : Int))), (37, .d (vI x2)), (68, .d (.arr 3 ((o.dirs).map FlDir.d))), (69, .d (vI (o.dirs.length : Int))), (70, .d (vI 0))]) (L' := [some ⟨4, [.d (FrFormat.d t)]⟩, some ⟨3, [.d (FrSky.d o)]⟩, some (lFrAxesd y2), some ⟨5, [.d (FrReport.d e)]⟩, some ⟨2, [.agg [.d (vI x5), .row 5 1 0 (([] : List Int)).length]]⟩]) 1 R R (.cons (.same _) (.cons (.same _) (.cons (.same _) (.cons (.same _) (.cons (.same _) (.cons (.same _) (.cons (.same _) (.cons (.same _) (.cons (.same _) (.cons (.same _) (.cons (.same _) (.cons (.same _) (.cons (.same _) (.cons (.same _) (.cons (.same _) .nil))))))))))))))) (.same (.same (.same (.same (.cons R (.cons (.aggDL (.cons (.same _) (.cons .nil .nil))) .nil) .nil))))) ?_
     simp only [List.cons_append, List.nil_append]
     obtain ⟨K22, hK22, h⟩ : ∃ K, K = _ ∧ frame_Axes_L1 F t o e x5 K F x6 ([] : List Int) 0 = some r := ⟨_, rfl, h⟩
     refine sw_loopS (fun m st => ∃ (x7 : Int) (lv : (List Int)) (x8 : Int), frame_Axes_L1 F t o e x5 K22 m x7 lv x8 = some r ∧ st = ⟨[(2, .d (.arr 5 ((a).map FrReport.d))), (3, .ref 0 4 0 0), (4, .ref 1 3 0 0), (6, .row 2 2 0 (y2).length), (7, .d (vI rv2)), (8, .d (.v (.int .u32 x7))), (10, .ref 3 5 0 0), (11, .d (vI x5)), (12, .ref 4 2 0 0), (35, .d (.arr 5 ((a).map FrReport.d))), (36, .d (vI (a.length : Int))), (37, .d (vI x2)), (68, .d (.arr 3 ((o.dirs).map FlDir.d))), (69, .d (vI (o.dirs.length : Int))), (70, .d (vI x8))], [some ⟨4, [.d (FrFormat.d t)]⟩, some ⟨3, [.d (FrSky.d o)]⟩, some (lFrAxesd y2), some ⟨5, [.d (FrReport.d e)]⟩, some ⟨2, [.agg [.d (vI x5), .row 5 1 0 (lv).length]]⟩, some (lvI lv)]⟩) (.prn [2, 3, 4, 6, 7, 8, 10, 11, 12, 35, 36, 37, 68, 69, 70] R) ⟨x6, ([] : List Int), 0, h, R⟩ ?_
     clear h
     rintro m22 st ⟨x7, lv, x8, h, rfl⟩
     cases m22 with
     | zero => cases (show (none : Option ((List FrAxes) × Int)) = some r from h)
     | succ m22 =>
     rw [frame_Axes_L1] at h
     refine qG ?_
     refine r_lss R R R R ?_ ?_
     ·intro c8
      replace h := ifP c8 h
      refine eN (sw_seq (sw_condT R (sw_skip (then_norm (sw_seq (sw_block (qG (q_movD R ?_))))))))
      obtain ⟨e3, ie3, h⟩ := bnd h
      refine q_ixE tb (ix0 ie3) (ix1m ie3) R (q_ldE (y := FlDir.d e3) tb (ix2 (g := FlDir.d) ie3) R (r_alloc tb R R R R R (q_asgD R (q_stE _ _ tb R (eN (sw_seq ?_))))))
      refine sw_join (fun zz : Int => frame_Axes_J1 F (frame_Axes_L1 F t o e x5 K22 m22) lv x8 zz = some r) (fun zz : Int => ⟨[(2, .d (.arr 5 ((a).map FrReport.d))), (3, .ref 0 4 0 0), (4, .ref 1 3 0 0), (6, .row 2 2 0 (y2).length), (7, .d (vI rv2)), (8, .d (.v (.int .u32 zz))), (10, .ref 3 5 0 0), (11, .d (vI x5)), (12, .ref 4 2 0 0), (13, .d (vI x8)), (35, .d (.arr 5 ((a).map FrReport.d))), (36, .d (vI (a.length : Int))), (37, .d (vI x2)), (68, .d (.arr 3 ((o.dirs).map FlDir.d))), (69, .d (vI (o.dirs.length : Int))), (70, .d (vI x8))], [some ⟨4, [.d (FrFormat.d t)]⟩, some ⟨3, [.d (FrSky.d o)]⟩, some (lFrAxesd y2), some ⟨5, [.d (FrReport.d e)]⟩, some ⟨2, [.agg [.d (vI x5), .row 5 1 0 (lv).length]]⟩, some (lvI lv)]⟩) ?_ ?_
      ·clear h
       rintro x9 h
       rw [frame_Axes_J1] at h
       refine qG (q_movD R (q_movD R ?_))
       by_cases c13 : x8 < 0
       ·cases (if_pos c13).symm.trans h
       replace h := ifN c13 h
       refine r_shr R R c13 R R (r_and R R R R ?_)
       refine r_gtr R R R R ?_ ?_
       ·intro c14
        replace h := ifP c14 h
        refine eN (sw_condT R (sw_rg (q_fa tb R (r_ldW tb R R R R R R R R R (q_movD R (r_bslice tb R R R R R R R R R R R R R ?_))))))
        obtain ⟨q, iq, h⟩ := bnd h
        refine r_apM (g := vI) (w := lv) (v := [x8]) ([some ⟨4, [.d (FrFormat.d t)]⟩, some ⟨3, [.d (FrSky.d o)]⟩, some (lFrAxesd y2), some ⟨5, [.d (FrReport.d e)]⟩, some ⟨2, [.agg [.d (vI x5), .row 5 1 0 (lv).length]]⟩, none, some (lvI [x8])]) tb R R R R R R R R R R R iq R R R R R (q_fa tb R (q_stE _ _ tb R (ev_end (block_norm (then_norm (sw_rg (q_add R (q_movD R (eN ?_)))))))))
        exact ⟨m22, ⟨[(2, .d (.arr 5 ((a).map FrReport.d))), (3, .ref 0 4 0 0), (4, .ref 1 3 0 0), (6, .row 2 2 0 (y2).length), (7, .d (vI rv2)), (8, .d (.v (.int .u32 x9))), (10, .ref 3 5 0 0), (11, .d (vI x5)), (12, .ref 4 2 0 0), (35, .d (.arr 5 ((a).map FrReport.d))), (36, .d (vI (a.length : Int))), (37, .d (vI x2)), (68, .d (.arr 3 ((o.dirs).map FlDir.d))), (69, .d (vI (o.dirs.length : Int))), (70, .d (vI (W (x8 + 1))))], [some ⟨4, [.d (FrFormat.d t)]⟩, some ⟨3, [.d (FrSky.d o)]⟩, some (lFrAxesd y2), some ⟨5, [.d (FrReport.d e)]⟩, some ⟨2, [.agg [.d (vI x5), .row 5 1 0 (q).length]]⟩, some (lvI q)]⟩, Nat.lt_succ_self _, .vw (κ := [0, 1, 2, 3, 4, 7]) (vK (.cons R R (.cons R R (.row R (.cons R R (.cons R R (.row R .nil)))))) R), x9, q, (W (x8 + 1)), h, R⟩
       intro c14
       replace h := ifN (Int.not_lt.2 c14) h
       refine eN (sw_condF R (sw_skip (block_norm (then_norm (sw_rg (q_add R (q_movD R (eN ?_))))))))
       exact ⟨m22, _, Nat.lt_succ_self _, .prn [2, 3, 4, 6, 7, 8, 10, 11, 12, 35, 36, 37, 68, 69, 70] R, x9, lv, (W (x8 + 1)), h, R⟩
      refine qG (q_movD R (q_fa tb R (q_ldD (y := vI e.number) tb R ?_)))
      refine r_eql R R R R ?_ ?_
      ·intro c9
       replace h := ifP c9 h
       refine q_movD R (q_fa tb R (q_ldD (y := .v (.bool e.marked)) tb R ?_))
       with_reducible apply ev_lit
       ·intro c10
        replace h := ifP c10 h
        refine r_notT R R R (q_pickT R (q_movD R (q_sk 6 R (q_pickF R (eN (sw_condF R (sw_skip (then_norm ?_))))))))
        exact .inl ⟨x7, h, .vw (κ := [0, 1, 2, 3, 4, 5]) (vK (.cons R R (.cons R R (.row R (.cons R R (.cons R R (.row R .nil)))))) R)⟩
       intro c10
       replace h := ifF c10 h
       refine r_notF R R R (q_pickT R (q_movD R (q_ldD (y := FrFormat.d t) tb R (q_ldD (y := FrSky.d o) tb R (q_ldD (y := FlDir.d e3) tb R (q_ldD (y := FrReport.d e) tb R ?_))))))
       obtain ⟨rv4, hrv4, h⟩ := bnd h
       refine r_callB (frame_fits_pc hrv4) (.of (by kernel_rfl)) R R R R ?_ ?_
       ·intro c11
        replace h := ifP c11 h
        refine r_notT R R R (q_pickT R (eN (sw_condF R (sw_skip (then_norm ?_)))))
        exact .inl ⟨x7, h, .vw (κ := [0, 1, 2, 3, 4, 5]) (vK (.cons R R (.cons R R (.row R (.cons R R (.cons R R (.row R .nil)))))) R)⟩
       intro c11
       replace h := ifF c11 h
       refine r_notF R R R (q_pickT R (eN (sw_condT R (sw_rg (q_movD R (q_movD R ?_))))))
       by_cases c12 : x8 < 0
       ·cases (if_pos c12).symm.trans h
       replace h := ifN c12 h
       refine r_shl R R c12 R R (r_andN R R R R (q_asgD R (eN ?_)))
       exact .inl ⟨(iandN .u32 x7 (ishl .u32 1 x8)), h, .vw (κ := [0, 1, 2, 3, 4, 5]) (vK (.cons R R (.cons R R (.row R (.cons R R (.cons R R (.row R .nil)))))) R)⟩
      intro c9
      replace h := ifN c9 h
      refine q_movD R (q_sk 3 R (q_pickF R (q_movD R (q_sk 6 R (q_pickF R (eN (sw_condF R (sw_skip (then_norm ?_)))))))))
      exact .inl ⟨x7, h, .vw (κ := [0, 1, 2, 3, 4, 5]) (vK (.cons R R (.cons R R (.row R (.cons R R (.cons R R (.row R .nil)))))) R)⟩
     intro c8
     replace h := ifN (Int.not_lt.2 c8) h
     refine eN (sw_seq (sw_condF R (sw_exit (then_exit (then_exit ?_)))))
     subst hK22
     refine block_exit (then_norm ?_)
     refine SW.fz (ts' := [(2, .d (.arr 5 ((a).map FrReport.d))), (3, .ref 0 4 0 0), (4, .ref 1 3 0 0), (6, .row 2 2 0 (y2).length), (7, .d (vI rv2)), (8, .d (.v (.int .u32 x7))), (10, .ref 3 5 0 0), (11, .d (vI x5)), (12, .ref 4 2 0 0), (35, .d (.arr 5 ((a).map FrReport.d))), (36, .d (vI (a.length : Int))), (37, .d (vI x2)), (68, .d (.arr 3 ((o.dirs).map FlDir.d))), (69, .d (vI (o.dirs.length : Int))), (70, .d (vI x8)), (71, .d (.v (.bool false)))]) (L' := [some ⟨4, [.d (FrFormat.d t)]⟩, some ⟨3, [.d (FrSky.d o)]⟩, some (lFrAxesd y2), some ⟨5, [.d (FrReport.d e)]⟩, some ⟨2, [.d (.agg [vI x5, .arr 1 ((lv).map vI)])]⟩, none]) (w := lv) (f := vI) 5 1 R (.cons (.same _) (.cons (.same _) (.cons (.same _) (.cons (.same _) (.cons (.same _) (.cons (.same _) (.cons (.same _) (.cons (.same _) (.cons (.same _) (.cons (.same _) (.cons (.same _) (.cons (.same _) (.cons (.same _) (.cons (.same _) (.cons (.same _) (.cons (.same _) .nil)))))))))))))))) (.same (.same (.same (.same (.cons R (.cons (.aggDL (.cons (.same _) (.cons (.all (List.length_map _)) .nil))) .nil) (.same .nil)))))) ?_
     refine sw_rg (r_movW R R R (q_ldD (y := .agg [vI x5, .arr 1 ((lv).map vI)]) tb R (r_bslice tb R R R R R R R R R R R R R ?_)))
     obtain ⟨q2, iq2, h⟩ := bnd h
     refine r_apM (g := FrAxes.d) (w := y2) (v := [(FrAxes.mk x5 lv)]) ([some ⟨4, [.d (FrFormat.d t)]⟩, some ⟨3, [.d (FrSky.d o)]⟩, none, some ⟨5, [.d (FrReport.d e)]⟩, some ⟨2, [.d (.agg [vI x5, .arr 1 ((lv).map vI)])]⟩, none, some (lFrAxesd [(FrAxes.mk x5 lv)])]) tb R R R R R R R R R R R iq2 R R R R R (r_asgW R R R (ev_end (block_norm (then_norm (sw_rg (q_movD R (q_add R (q_asgD R (eN ?_)))))))))
     exact ⟨m18, ⟨[(2, .d (.arr 5 ((a).map FrReport.d))), (3, .ref 0 4 0 0), (4, .ref 1 3 0 0), (6, .row 2 2 0 (q2).length), (7, .d (vI rv2)), (8, .d (.v (.int .u32 x7))), (10, .ref 3 5 0 0), (11, .d (vI (W (x5 + 1)))), (35, .d (.arr 5 ((a).map FrReport.d))), (36, .d (vI (a.length : Int))), (37, .d (vI x2))], [some ⟨4, [.d (FrFormat.d t)]⟩, some ⟨3, [.d (FrSky.d o)]⟩, some (lFrAxesd q2), some ⟨5, [.d (FrReport.d e)]⟩]⟩, Nat.lt_succ_self _, .vw (κ := [0, 1, 7, 3]) (vK (.cons R R (.cons R R (.row R (.cons R R .nil)))) R), q2, x7, (W (x5 + 1)), h, R⟩
    refine qG (r_movW R R R (r_lenR tb R R R R R ?_))
    refine r_gtr R R R R ?_ ?_
    ·intro c7
     replace h := ifP c7 h
     refine eN (sw_condT R (sw_rg (q_ldD (y := FrSky.d o) tb R (q_movD R ?_))))
     obtain ⟨rv3, hrv3, h⟩ := bnd h
     refine r_call (frame_turned_pc hrv3) (.of (by kernel_rfl)) R R R R (q_asgD R (eN ?_))
     exact .inl ⟨rv3, h, .prn [2, 3, 4, 6, 7, 8, 10, 11, 35, 36, 37] R⟩
    intro c7
    replace h := ifN (Int.not_lt.2 c7) h
    refine eN (sw_condF R (sw_skip (then_norm ?_)))
    exact .inl ⟨x4, h, .prn [2, 3, 4, 6, 7, 8, 10, 11, 35, 36, 37] R⟩
   intro c6
   replace h := ifN (Int.not_le.2 c6) h
   refine eN (sw_condF R (sw_exit (then_exit (then_exit ?_))))
   subst hK18
   refine block_exit (block_norm (then_norm (sw_rg (q_add R (q_movD R (eN ?_))))))
   exact ⟨m12, ⟨[(2, .d (.arr 5 ((a).map FrReport.d))), (3, .ref 0 4 0 0), (4, .ref 1 3 0 0), (6, .row 2 2 0 (y2).length), (7, .d (vI rv2)), (8, .d (.v (.int .u32 x4))), (35, .d (.arr 5 ((a).map FrReport.d))), (36, .d (vI (a.length : Int))), (37, .d (vI (W (x2 + 1))))], [some ⟨4, [.d (FrFormat.d t)]⟩, some ⟨3, [.d (FrSky.d o)]⟩, some (lFrAxesd y2)]⟩, Nat.lt_succ_self _, .vw (κ := [0, 1, 2]) (vK (.cons R R (.cons R R (.row R .nil))) R), y2, x4, (W (x2 + 1)), h, R⟩
  refine qG (q_movD R ?_)
  refine r_gtr R R R R ?_ ?_
  ·intro c5
   replace h := ifP c5 h
   refine eN (sw_condT R (sw_rg (q_movD R (q_movD R (r_sub R R R R ?_)))))
   obtain ⟨e2, ie2, h⟩ := bnd h
   refine q_ixE tb (ix0 ie2) (ix1m ie2) R (q_faE tb R (q_ldE (y := vI e2.number) tb (ix2 (g := FrReport.d) ie2) R (q_add R (q_asgD R (eN ?_)))))
   exact .inl ⟨(W (e2.number + 1)), h, .prn [2, 3, 4, 6, 7, 8, 10, 11, 35, 36, 37] R⟩
  intro c5
  replace h := ifN (Int.not_lt.2 c5) h
  refine eN (sw_condF R (sw_skip (then_norm ?_)))
  exact .inl ⟨e.number, h, .prn [2, 3, 4, 6, 7, 8, 10, 11, 35, 36, 37] R⟩
 intro c4
 replace h := ifN (Int.not_lt.2 c4) h
 refine eN (sw_seq (sw_condF R (sw_exit (then_exit (then_exit ?_)))))
 subst hK12
 refine block_exit (then_norm (qG (r_movW R R R (r_asgW R R R (q_asgD R (eN (sw_ret ?_)))))))
 obtain rfl := sI h
 exact f2 [2] (.row R .nil) R (.cons (.tmp 6) (.cons (.tmp 7) .nil)) R
theorem frame_Axes_pc {F : Nat} {t : FrFormat} {o : FrSky} {a : (List FrReport)} {r : ((List FrAxes) × Int)} (h : frame_Axes F t o a = some r) : PC Try.prog 43 [FrFormat.d t, FrSky.d o, .arr 5 ((a).map FrReport.d)] (.tup [.arr 2 ((r.1).map FrAxes.d), .v (.int .i64 r.2)]) := (frame_Axes_scr h).toPC (.tupL (.cons (.row rfl rfl) (.cons (.d _) .nil)))
def hangfirelaw09_gaps_L1 (F : Nat) (a : (List FrGap)) (b : (List FrGap)) (K : Int → Option Bool) : Nat → Int → Option Bool
 | 0, _ => none
 | n + 1, i => if i < (a.length : Int) then (Option.bind (ixO a i) fun e => Option.bind (ixO b i) fun e2 => if (!(FrGap.beq e e2)) = true then (some false) else (hangfirelaw09_gaps_L1 F a b K n (W (i + 1)))) else (K i)
def hangfirelaw09_gaps (F : Nat) (a : (List FrGap)) (b : (List FrGap)) : Option Bool := if (a.length : Int) = (b.length : Int) then (hangfirelaw09_gaps_L1 F a b (fun (i : Int) => some true) F 0) else (some false)
theorem hangfirelaw09_gaps_pc {F : Nat} {a : (List FrGap)} {b : (List FrGap)} {r : Bool} (h : hangfirelaw09_gaps F a b = some r) : PC Try.prog 34 [.arr 2 ((a).map FrGap.d), .arr 2 ((b).map FrGap.d)] (.v (.bool r)) := by
 rw [hangfirelaw09_gaps] at h
 refine SC.of_sw Try.func34 R R R ?_
 dsimp only [argS, List.map]
 refine qG (q_asgD R (eN (sw_seq (qG (q_movD R (q_lenM tb R (q_movD R (q_lenM tb R ?_))))))))
 refine r_neq R R R R ?_ ?_
 ·intro c
  replace h := ifN c h
  refine eN (sw_condT R (qG (q_asgD R (eN (sw_ret (then_ret ?_))))))
  obtain rfl := sI h
  exact f1 4 R
 intro c
 replace h := ifP c h
 refine eN (sw_condF R (sw_skip (then_norm (sw_seq (qG (q_asgD R (eN (sw_block ?_))))))))
 obtain ⟨K2, hK2, h⟩ : ∃ K, K = _ ∧ hangfirelaw09_gaps_L1 F a b K F 0 = some r := ⟨_, rfl, h⟩
 refine sw_loopS (fun m st => ∃ (i : Int), hangfirelaw09_gaps_L1 F a b K2 m i = some r ∧ st = ⟨[(0, .d (.arr 2 ((a).map FrGap.d))), (1, .d (.arr 2 ((b).map FrGap.d))), (4, .d (.v (.bool false))), (5, .d (vI i))], []⟩) (.prn [0, 1, 4, 5] R) ⟨0, h, R⟩ ?_
 clear h
 rintro m2 st ⟨i, h, rfl⟩
 cases m2 with
 | zero => cases (show (none : Option Bool) = some r from h)
 | succ m2 =>
 rw [hangfirelaw09_gaps_L1] at h
 refine sw_seq (qG (q_movD R (q_movD R (q_lenM tb R ?_))))
 refine r_lss R R R R ?_ ?_
 ·intro c2
  replace h := ifP c2 h
  refine eN (sw_condT R (sw_skip (then_norm (sw_seq (sw_block (sw_seq (sw_dr (by kernel_rfl) (q_movD R (q_movD R ?_)))))))))
  obtain ⟨e, ie, h⟩ := bnd h
  refine q_ixE tb (ix0 ie) (ix1m ie) R (q_ldE (y := FrGap.d e) tb (ix2 (g := FrGap.d) ie) R (q_movD R (q_movD R ?_)))
  obtain ⟨e2, ie2, h⟩ := bnd h
  refine q_ixE tb (ix0 ie2) (ix1m ie2) R (q_ldE (y := FrGap.d e2) tb (ix2 (g := FrGap.d) ie2) R ?_)
  refine r_neqA (p := [.int .i64 e.from_, .int .i64 e.until_]) (q := [.int .i64 e2.from_, .int .i64 e2.until_]) R R (fun o1 o2 w => ne64 e e2 o1 o2 w) R R ?_
  with_reducible apply ev_lit
  ·intro c3
   replace h := ifP c3 h
   refine ev_endD (by kernel_rfl) (then_norm (sw_condT R (qG (q_asgD R (eN (sw_ret (block_ret (then_ret (then_ret (block_ret (then_ret ?_)))))))))))
   obtain rfl := sI h
   exact f1 4 R
  intro c3
  replace h := ifF c3 h
  refine ev_endD (by kernel_rfl) (then_norm (sw_condF R (sw_skip (block_norm (then_norm (sw_rg (q_movD R (q_add R (q_asgD R (eN ?_))))))))))
  exact ⟨m2, _, Nat.lt_succ_self _, .prn [0, 1, 4, 5] R, (W (i + 1)), h, R⟩
 intro c2
 replace h := ifN (Int.not_lt.2 c2) h
 refine eN (sw_condF R (sw_exit (then_exit (then_exit ?_))))
 subst hK2
 refine block_exit (then_norm (qG (q_asgD R (eN (sw_ret ?_)))))
 obtain rfl := sI h
 exact f1 4 R
def hangfirelaw09_Example (F : Nat)  : Option FrFormat := some (FrFormat.mk (ByteArray.mk #[65]) 1 2 [(FrChannel.mk (ByteArray.mk #[97]) 0 2 0), (FrChannel.mk (ByteArray.mk #[98]) 0 2 1)])
theorem hangfirelaw09_Example_scr {F : Nat}  {r : FrFormat} (h : hangfirelaw09_Example F  = some r) : SCR Try.prog 50 (List.map T.d []) [] (FrFormat_T1 r 0) (List.map some [(lFrChanneld r.channels)]) := by
 rw [hangfirelaw09_Example] at h
 refine SC.of_sw Try.func50 R R R ?_
 dsimp only [argS, List.map]
 refine qG (r_alloc tb R R R R R (eN (qG (r_build (v := .d (.agg [.v (.string (ByteArray.mk #[97])), vI 0, vI 2, vI 0])) tb R R (List.cons_ne_nil _ _) R R R R R R (r_build (v := .d (.agg [.v (.string (ByteArray.mk #[98])), vI 0, vI 2, vI 1])) tb R R (List.cons_ne_nil _ _) R R R R R R (r_bslice tb R R R R R R R R R R R R R ?_))))))
 refine r_build (v := FrFormat_T1 (FrFormat.mk (ByteArray.mk #[65]) 1 2 [(FrChannel.mk (ByteArray.mk #[97]) 0 2 0), (FrChannel.mk (ByteArray.mk #[98]) 0 2 1)]) 1) tb R R (List.cons_ne_nil _ _) R R R R R R (q_stE _ _ tb R (eN (sw_ret ?_)))
 obtain rfl := sI h
 exact f2 [1] (.row R .nil) R (.cons (rc tb R) .nil) R
theorem hangfirelaw09_Example_pc {F : Nat}  {r : FrFormat} (h : hangfirelaw09_Example F  = some r) : PC Try.prog 50 [] (FrFormat.d r) := (hangfirelaw09_Example_scr h).toPC (.aggL (.cons (.d _) (.cons (.d _) (.cons (.d _) (.cons (.row rfl rfl) .nil)))))
def hangfirelaw09_Sky (F : Nat)  : Option FrSky := some (FrSky.mk [(FlDir.mk 0 0 10000), (FlDir.mk 6000 0 8000), (FlDir.mk 0 6000 8000)] 70000000 [(FrSensor.mk 0 0 0 20000 10 500 false), (FrSensor.mk 1 5000 0 0 1 100 true)])
theorem hangfirelaw09_Sky_scr {F : Nat}  {r : FrSky} (h : hangfirelaw09_Sky F  = some r) : SCR Try.prog 54 (List.map T.d []) [] (.agg [.row 0 3 0 (r.dirs).length, .d (.v (.int .i64 r.turn)), .row 1 7 0 (r.sensors).length]) (List.map some [(lFlDird r.dirs), (lFrSensord r.sensors)]) := by
 rw [hangfirelaw09_Sky] at h
 refine SC.of_sw Try.func54 R R R ?_
 dsimp only [argS, List.map]
 refine qG (r_alloc tb R R R R R (eN (qG (r_build (v := .d (.agg [vI 0, vI 0, vI 10000])) tb R R (List.cons_ne_nil _ _) R R R R R R (r_build (v := .d (.agg [vI 6000, vI 0, vI 8000])) tb R R (List.cons_ne_nil _ _) R R R R R R (r_build (v := .d (.agg [vI 0, vI 6000, vI 8000])) tb R R (List.cons_ne_nil _ _) R R R R R R (r_bslice tb R R R R R R R R R R R R R ?_)))))))
 refine r_build (v := .d (.agg [vI 0, vI 0, vI 0, vI 20000, vI 10, vI 500, .v (.bool false)])) tb R R (List.cons_ne_nil _ _) R R R R R R (r_build (v := .d (.agg [vI 1, vI 5000, vI 0, vI 0, vI 1, vI 100, .v (.bool true)])) tb R R (List.cons_ne_nil _ _) R R R R R R (r_bslice tb R R R R R R R R R R R R R ?_))
 refine r_build (v := .agg [.row 1 3 0 ([(FlDir.mk 0 0 10000), (FlDir.mk 6000 0 8000), (FlDir.mk 0 6000 8000)]).length, .d (vI 70000000), .row 2 7 0 ([(FrSensor.mk 0 0 0 20000 10 500 false), (FrSensor.mk 1 5000 0 0 1 100 true)]).length]) tb R R (List.cons_ne_nil _ _) R R R R R R (q_stE _ _ tb R (eN (sw_ret ?_)))
 obtain rfl := sI h
 exact f2 [1, 2] (.row R (.row R .nil)) R (.cons (rc tb R) .nil) R
theorem hangfirelaw09_Sky_pc {F : Nat}  {r : FrSky} (h : hangfirelaw09_Sky F  = some r) : PC Try.prog 54 [] (FrSky.d r) := (hangfirelaw09_Sky_scr h).toPC (.aggL (.cons (.row rfl rfl) (.cons (.d _) (.cons (.row rfl rfl) .nil))))
def hangfirelaw09_first (F : Nat)  : Option (List Int) := some [65, 0, 0, 0, 156, 232]
theorem hangfirelaw09_first_scr {F : Nat}  {r : (List Int)} (h : hangfirelaw09_first F  = some r) : SCR Try.prog 51 (List.map T.d []) [] (.row 0 1 0 (r).length) (List.map some [(lv8 r)]) := by
 rw [hangfirelaw09_first] at h
 refine SC.of_sw Try.func51 R R R ?_
 dsimp only [argS, List.map]
 refine qG (q_asgD R (eN (qG (r_bslice tb R R R R R R R R R R R R R (r_asgW R R R (eN (sw_ret ?_)))))))
 obtain rfl := sI h
 exact f2 [0] (.row R .nil) R (.cons (.tmp 0) .nil) R
theorem hangfirelaw09_first_pc {F : Nat}  {r : (List Int)} (h : hangfirelaw09_first F  = some r) : PC Try.prog 51 [] (.arr 1 ((r).map v8)) := (hangfirelaw09_first_scr h).toPC (.row rfl rfl)
def hangfirelaw09_second (F : Nat)  : Option (List Int) := some [65, 1, 1, 2, 184, 171]
theorem hangfirelaw09_second_scr {F : Nat}  {r : (List Int)} (h : hangfirelaw09_second F  = some r) : SCR Try.prog 52 (List.map T.d []) [] (.row 0 1 0 (r).length) (List.map some [(lv8 r)]) := by
 rw [hangfirelaw09_second] at h
 refine SC.of_sw Try.func52 R R R ?_
 dsimp only [argS, List.map]
 refine qG (q_asgD R (eN (qG (r_bslice tb R R R R R R R R R R R R R (r_asgW R R R (eN (sw_ret ?_)))))))
 obtain rfl := sI h
 exact f2 [0] (.row R .nil) R (.cons (.tmp 0) .nil) R
theorem hangfirelaw09_second_pc {F : Nat}  {r : (List Int)} (h : hangfirelaw09_second F  = some r) : PC Try.prog 52 [] (.arr 1 ((r).map v8)) := (hangfirelaw09_second_scr h).toPC (.row rfl rfl)
def hangfirelaw09_third (F : Nat)  : Option (List Int) := some [65, 1, 0, 0, 171, 216]
theorem hangfirelaw09_third_scr {F : Nat}  {r : (List Int)} (h : hangfirelaw09_third F  = some r) : SCR Try.prog 53 (List.map T.d []) [] (.row 0 1 0 (r).length) (List.map some [(lv8 r)]) := by
 rw [hangfirelaw09_third] at h
 refine SC.of_sw Try.func53 R R R ?_
 dsimp only [argS, List.map]
 refine qG (q_asgD R (eN (qG (r_bslice tb R R R R R R R R R R R R R (r_asgW R R R (eN (sw_ret ?_)))))))
 obtain rfl := sI h
 exact f2 [0] (.row R .nil) R (.cons (.tmp 0) .nil) R
theorem hangfirelaw09_third_pc {F : Nat}  {r : (List Int)} (h : hangfirelaw09_third F  = some r) : PC Try.prog 53 [] (.arr 1 ((r).map v8)) := (hangfirelaw09_third_scr h).toPC (.row rfl rfl)
def hangfirelaw09_Awake (F : Nat)  : Option Bool := Option.bind (hangfirelaw09_Example F ) fun rv => Option.bind (frame_Encode F rv 1 [258]) fun rv2 => Option.bind (hangfirelaw09_Example F ) fun rv3 => Option.bind (hangfirelaw09_second F ) fun rv4 => Option.bind (frame_Numbers F rv3 (FrTape.mk rv4 0)) fun rv5 => Option.bind (hangfirelaw09_Example F ) fun rv6 => Option.bind (frame_Encode F rv6 (-1) []) fun rv7 => if rv2.2 = 0 then (if rv5.2 = 0 then (if rv7.2 = 7 then (Option.bind (strO rv2.1) fun q => Option.bind (hangfirelaw09_second F ) fun rv8 => Option.bind (strO rv8) fun q2 => if q.toList = q2.toList then (Option.bind (r9_Ints F rv5.1 [1]) fun rv9 => if rv9 = true then (Option.bind (frame_Sum F [49, 50, 51, 52, 53, 54, 55, 56, 57]) fun rv10 => some (decide (rv10 = 10673))) else (some false)) else (some false)) else (some false)) else (some false)) else (some false)
theorem hangfirelaw09_Awake_pc {F : Nat}  {r : Bool} (h : hangfirelaw09_Awake F  = some r) : PC Try.prog 21 [] (.v (.bool r)) := by
 rw [hangfirelaw09_Awake] at h
 refine SC.of_sw Try.func21 R R R ?_
 dsimp only [argS, List.map]
 refine qG (q_asgD R (eN (qG ?_)))
 obtain ⟨rv, hrv, h⟩ := bnd h
 refine r_callN (t' := FrFormat_T1 rv 0) (news' := [(lFrChanneld rv.channels)]) (hangfirelaw09_Example_scr hrv) (.of (by kernel_rfl)) R R R ((.row .nil)) R R R (r_bslice tb R R R R R R R R R R R R R ?_)
 obtain ⟨rv2, hrv2, h⟩ := bnd h
 refine r_callLN (t' := .tup [.row 2 1 0 (rv2.1).length, .d (vI rv2.2)]) (news' := [(lv8 rv2.1)]) (frame_Encode_scr hrv2) R ((.row (fun _ => rfl) .nil)) (.of (by kernel_rfl)) R R ((.cons (.aggL (.cons (.d _) (.cons (.d _) (.cons (.d _) (.cons (.row R R) .nil))))) (.cons (.d _) (.cons (.row R R) .nil)))) R ((.row .nil)) R R R ?_
 refine r_movT (.tup [.row 2 1 0 (rv2.1).length, .d (vI rv2.2)]) R R R (r_ext (t := .row 2 1 0 (rv2.1).length) R R R R (r_ext (t := .d (vI rv2.2)) R R R R (r_asgW R R R (q_asgD R (eN (qG ?_))))))
 obtain ⟨rv3, hrv3, h⟩ := bnd h
 refine r_callN (t' := FrFormat_T1 rv3 3) (news' := [(lFrChanneld rv3.channels)]) (hangfirelaw09_Example_scr hrv3) (.of (by kernel_rfl)) R R R ((.row .nil)) R R R ?_
 obtain ⟨rv4, hrv4, h⟩ := bnd h
 refine r_callN (t' := .row 4 1 0 (rv4).length) (news' := [(lv8 rv4)]) (hangfirelaw09_second_scr hrv4) (.of (by kernel_rfl)) R R R ((.row .nil)) R R R (r_build (v := .agg [.row 4 1 0 (rv4).length, .d (vI 0)]) tb R R (List.cons_ne_nil _ _) R R R R R R ?_)
 obtain ⟨rv5, hrv5, h⟩ := bnd h
 refine r_callLN (t' := .tup [.row 5 1 0 (rv5.1).length, .d (vI rv5.2)]) (news' := [(lvI rv5.1)]) (frame_Numbers_scr hrv5) R ((.row (fun _ => rfl) .nil)) (.of (by kernel_rfl)) R R ((.cons (.aggL (.cons (.d _) (.cons (.d _) (.cons (.d _) (.cons (.row R R) .nil))))) (.cons (.aggL (.cons (.row R R) (.cons (.d _) .nil))) .nil))) R ((.row .nil)) R R R ?_
 refine r_movT (.tup [.row 5 1 0 (rv5.1).length, .d (vI rv5.2)]) R R R (r_ext (t := .row 5 1 0 (rv5.1).length) R R R R (r_ext (t := .d (vI rv5.2)) R R R R (r_asgW R R R (q_asgD R (eN (qG ?_))))))
 obtain ⟨rv6, hrv6, h⟩ := bnd h
 refine r_callN (t' := FrFormat_T1 rv6 6) (news' := [(lFrChanneld rv6.channels)]) (hangfirelaw09_Example_scr hrv6) (.of (by kernel_rfl)) R R R ((.row .nil)) R R R ?_
 obtain ⟨rv7, hrv7, h⟩ := bnd h
 refine r_callLN (t' := .tup [.row 7 1 0 (rv7.1).length, .d (vI rv7.2)]) (news' := [(lv8 rv7.1)]) (frame_Encode_scr hrv7) R ((.row (fun _ => rfl) .nil)) (.of (by kernel_rfl)) R R ((.cons (.aggL (.cons (.d _) (.cons (.d _) (.cons (.d _) (.cons (.row R R) .nil))))) (.cons (.d _) (.cons .nilA .nil)))) R ((.row .nil)) R R R ?_
 refine r_movT (.tup [.row 7 1 0 (rv7.1).length, .d (vI rv7.2)]) R R R (r_ext (t := .row 7 1 0 (rv7.1).length) R R R R (r_ext (t := .d (vI rv7.2)) R R R R (r_asgW R R R (q_asgD R (eN (sw_seq (sw_dr (by kernel_rfl) (q_movD R ?_))))))))
 refine r_eql R R R R ?_ ?_
 ·intro c
  replace h := ifP c h
  refine q_movD R (q_movD R ?_)
  refine r_eql R R R R ?_ ?_
  ·intro c2
   replace h := ifP c2 h
   refine q_pickT R (q_movD R (q_movD R ?_))
   refine r_eql R R R R ?_ ?_
   ·intro c3
    replace h := ifP c3 h
    refine q_pickT R (q_movD R (r_movW R R R ?_))
    obtain ⟨q, iq, h⟩ := bnd h
    refine r_strR (ns := rv2.1) R R R R R R iq R R ?_
    obtain ⟨rv8, hrv8, h⟩ := bnd h
    refine r_callN (t' := .row 8 1 0 (rv8).length) (news' := [(lv8 rv8)]) (hangfirelaw09_second_scr hrv8) (.of (by kernel_rfl)) R R R ((.row .nil)) R R R ?_
    obtain ⟨q2, iq2, h⟩ := bnd h
    refine r_strR (ns := rv8) R R R R R R iq2 R R ?_
    refine r_streql R R R R ?_ ?_
    ·intro c4
     replace h := ifP c4 h
     refine q_pickT R (q_movD R (r_movW R R R (r_bslice tb R R R R R R R R R R R R R ?_)))
     obtain ⟨rv9, hrv9, h⟩ := bnd h
     refine r_callLB (r9_Ints_pc hrv9) (.of (by kernel_rfl)) R R ((.cons (.row R R) (.cons (.row R R) .nil))) R R ?_ ?_
     ·intro c5
      replace h := ifP c5 h
      refine q_pickT R (q_movD R (r_bslice tb R R R R R R R R R R R R R (r_cvS R R R R R R R R ?_)))
      obtain ⟨rv10, hrv10, h⟩ := bnd h
      refine r_callL (frame_Sum_pc hrv10) R (.of (by kernel_rfl)) R R ((.cons (.row R R) .nil)) R R (r_eqlV R R R R (q_pickT R (q_asgD R (ev_endD (by kernel_rfl) (then_norm (sw_ret ?_))))))
      obtain rfl := sI h
      exact f1 0 R
     intro c5
     replace h := ifF c5 h
     refine q_pickT R (q_movD R (q_sk 4 R (q_pickF R (q_asgD R (ev_endD (by kernel_rfl) (then_norm (sw_ret ?_)))))))
     obtain rfl := sI h
     exact f1 0 R
    intro c4
    replace h := ifN c4 h
    refine q_pickT R (q_movD R (q_sk 3 R (q_pickF R (q_movD R (q_sk 4 R (q_pickF R (q_asgD R (ev_endD (by kernel_rfl) (then_norm (sw_ret ?_))))))))))
    obtain rfl := sI h
    exact f1 0 R
   intro c3
   replace h := ifN c3 h
   refine q_pickT R (q_movD R (q_sk 5 R (q_pickF R (q_movD R (q_sk 3 R (q_pickF R (q_movD R (q_sk 4 R (q_pickF R (q_asgD R (ev_endD (by kernel_rfl) (then_norm (sw_ret ?_)))))))))))))
   obtain rfl := sI h
   exact f1 0 R
  intro c2
  replace h := ifN c2 h
  refine q_pickT R (q_movD R (q_sk 2 R (q_pickF R (q_movD R (q_sk 5 R (q_pickF R (q_movD R (q_sk 3 R (q_pickF R (q_movD R (q_sk 4 R (q_pickF R (q_asgD R (ev_endD (by kernel_rfl) (then_norm (sw_ret ?_))))))))))))))))
  obtain rfl := sI h
  exact f1 0 R
 intro c
 replace h := ifN c h
 refine q_movD R (q_sk 2 R (q_pickF R (q_movD R (q_sk 2 R (q_pickF R (q_movD R (q_sk 5 R (q_pickF R (q_movD R (q_sk 3 R (q_pickF R (q_movD R (q_sk 4 R (q_pickF R (q_asgD R (ev_endD (by kernel_rfl) (then_norm (sw_ret ?_))))))))))))))))))
 obtain rfl := sI h
 exact f1 0 R
def hangfirelaw09_FrameKnown_L1 (F : Nat) (rv : FrFormat) (K : Int → Option Bool) : Nat → Int → Option Bool
 | 0, _ => none
 | n + 1, x2 => if x2 < 3 then (Option.bind (hangfirelaw09_Sky F ) fun rv23 => Option.bind (ixO [[(FrReport.mk 0 0 0 false [34368]), (FrReport.mk 1 0 0 false [35768])], [(FrReport.mk 0 0 0 false [34368]), (FrReport.mk 2 0 0 false [34768])], [(FrReport.mk 1 0 0 true [35768]), (FrReport.mk 2 0 0 false [34368])]] x2) fun e6 => Option.bind (frame_Axes F rv rv23 e6) fun rv24 => if rv24.2 = 0 then (Option.bind (ixO [[(FrAxes.mk 0 [1, 2]), (FrAxes.mk 1 [1])], [(FrAxes.mk 0 [1, 2]), (FrAxes.mk 1 [0, 1, 2]), (FrAxes.mk 2 [0])], [(FrAxes.mk 1 [0, 1, 2]), (FrAxes.mk 2 [1, 2])]] x2) fun e7 => Option.bind (r9_SameAxes F rv24.1 e7) fun rv25 => if rv25 = true then (hangfirelaw09_FrameKnown_L1 F rv K n (W (x2 + 1))) else (some false)) else (some false)) else (K x2)
def hangfirelaw09_FrameKnown_L2 (F : Nat) (rv : FrFormat) (q5 : (List Int)) (K : Int → Option Bool) : Nat → Int → Option Bool
 | 0, _ => none
 | n + 1, x => if x < 2 then (Option.bind (frame_Values F rv (FrTape.mk q5 0) x) fun rv18 => if rv18.2 = 0 then (if (rv18.1.length : Int) = 1 then (Option.bind (ixO rv18.1 0) fun e5 => if (!(FrValue.beq e5 (FrValue.mk x (W (258 * x))))) = true then (some false) else (hangfirelaw09_FrameKnown_L2 F rv q5 K n (W (x + 1)))) else (some false)) else (some false)) else (K x)
def hangfirelaw09_FrameKnown_L3 (F : Nat) (rv : FrFormat) (rv4 : (List Int)) (rv5 : (List Int)) (rv6 : (List Int)) (K : Int → Option Bool) : Nat → Int → Option Bool
 | 0, _ => none
 | n + 1, a => if a < 3 then (Option.bind (frame_Commute F rv (Int.tmod a 2) [7, 258]) fun rv7 => Option.bind (ixO [0, 1, 257] a) fun e => Option.bind (cutO [0, 258, 0] a (W (a + 1))) fun q => Option.bind (frame_Encode F rv e q) fun rv8 => if rv7.2 = 0 then (if rv8.2 = 0 then (if (rv7.1.length : Int) = 1 then (Option.bind (ixO rv7.1 0) fun e2 => Option.bind (ixO [7, 258] (Int.tmod a 2)) fun e3 => if e2 = e3 then (Option.bind (strO rv8.1) fun q2 => Option.bind (ixO [rv4, rv5, rv6] a) fun e4 => Option.bind (strO e4) fun q3 => if q2.toList = q3.toList then (hangfirelaw09_FrameKnown_L3 F rv rv4 rv5 rv6 K n (W (a + 1))) else (some false)) else (some false)) else (some false)) else (some false)) else (some false)) else (K a)
def hangfirelaw09_FrameKnown (F : Nat)  : Option Bool := Option.bind (hangfirelaw09_Example F ) fun rv => Option.bind (frame_Sum F []) fun rv2 => if rv2 = 65535 then (Option.bind (frame_Sum F ([65] : List Int)) fun rv3 => if rv3 = 47381 then (Option.bind (hangfirelaw09_first F ) fun rv4 => Option.bind (hangfirelaw09_second F ) fun rv5 => Option.bind (hangfirelaw09_third F ) fun rv6 => hangfirelaw09_FrameKnown_L3 F rv rv4 rv5 rv6 (fun (a : Int) => Option.bind (hangfirelaw09_first F ) fun rv9 => Option.bind (appO rv9 ([7] : List Int)) fun q4 => Option.bind (hangfirelaw09_second F ) fun rv10 => Option.bind (appO q4 rv10) fun q5 => Option.bind (frame_Decode F rv q5) fun rv11 => if rv11.2.2 = 0 then (Option.bind (r9_SameFrames F rv11.1 [(FrFrame.mk 0 0 [0]), (FrFrame.mk 7 1 [258])]) fun rv12 => if rv12 = true then (Option.bind (hangfirelaw09_gaps F rv11.2.1 [(FrGap.mk 6 7)]) fun rv13 => if rv13 = true then (Option.bind (frame_Numbers F rv (FrTape.mk q5 0)) fun rv14 => Option.bind (frame_Numbers F rv (FrTape.mk q5 1)) fun rv15 => if rv14.2 = 0 then (if rv15.2 = 0 then (Option.bind (r9_Ints F rv14.1 [0, 1]) fun rv16 => if rv16 = true then (Option.bind (r9_Ints F rv15.1 [256, 257]) fun rv17 => if rv17 = true then (hangfirelaw09_FrameKnown_L2 F rv q5 (fun (x : Int) => Option.bind (hangfirelaw09_second F ) fun rv19 => Option.bind (hangfirelaw09_third F ) fun rv20 => Option.bind (frame_Merge F rv [(FrTape.mk q5 0), (FrTape.mk rv19 0), (FrTape.mk rv20 0)]) fun rv21 => if rv21.2 = 0 then (Option.bind (r9_SameReports F rv21.1 [(FrReport.mk 0 0 1 false [0]), (FrReport.mk 1 0 2 true [258])]) fun rv22 => if rv22 = true then (hangfirelaw09_FrameKnown_L1 F rv (fun (x2 : Int) => Option.bind (hangfirelaw09_Awake F ) fun rv26 => some rv26) F 0) else (some false)) else (some false)) F 0) else (some false)) else (some false)) else (some false)) else (some false)) else (some false)) else (some false)) else (some false)) F 0) else (some false)) else (some false)
theorem hangfirelaw09_FrameKnown_pc {F : Nat}  {r : Bool} (h : hangfirelaw09_FrameKnown F  = some r) : PC Try.prog 18 [] (.v (.bool r)) := by
 rw [hangfirelaw09_FrameKnown] at h
 refine SC.of_sw Try.func18 R R R ?_
 dsimp only [argS, List.map]
 refine qG (q_asgD R (eN (qG ?_)))
 obtain ⟨rv, hrv, h⟩ := bnd h
 refine r_callN (t' := FrFormat_T1 rv 0) (news' := [(lFrChanneld rv.channels)]) (hangfirelaw09_Example_scr hrv) (.of (by kernel_rfl)) R R R ((.row .nil)) R R R (r_alloc tb R R R R R (q_stE _ _ tb R (eN (sw_seq (qG ?_)))))
 obtain ⟨rv2, hrv2, h⟩ := bnd h
 refine r_callC ((.cons (.nil _) .nil)) (frame_Sum_pc hrv2) (.of (by kernel_rfl)) R R R R ?_
 refine r_neq R R R R ?_ ?_
 ·intro c
  replace h := ifN c h
  refine q_movD R (q_sk 4 R (q_pickT R (eN (sw_condT R (qG (q_asgD R (eN (sw_ret (then_ret ?_)))))))))
  obtain rfl := sI h
  exact f1 0 R
 intro c
 replace h := ifP c h
 refine q_movD R (r_bslice tb R R R R R R R R R R R R R (r_cvS R R R R R R R R ?_))
 obtain ⟨rv3, hrv3, h⟩ := bnd h
 refine r_callL (frame_Sum_pc hrv3) R (.of (by kernel_rfl)) R R ((.cons (.row R R) .nil)) R R ?_
 refine r_neq R R R R ?_ ?_
 ·intro c2
  replace h := ifN c2 h
  refine q_pickF R (eN (sw_condT R (qG (q_asgD R (eN (sw_ret (then_ret ?_)))))))
  obtain rfl := sI h
  exact f1 0 R
 intro c2
 replace h := ifP c2 h
 refine q_pickF R (eN (sw_condF R (sw_skip (then_norm (qG (r_bsliceD (es := [vI 0, vI 1, vI 257]) tb R R R R R R R R R R R R R (r_bsliceD (es := [vI 0, vI 258, vI 0]) tb R R R R R R R R R R R R R ?_)))))))
 obtain ⟨rv4, hrv4, h⟩ := bnd h
 refine r_call (hangfirelaw09_first_pc hrv4) (.of (by kernel_rfl)) R R R R ?_
 obtain ⟨rv5, hrv5, h⟩ := bnd h
 refine r_call (hangfirelaw09_second_pc hrv5) (.of (by kernel_rfl)) R R R R ?_
 obtain ⟨rv6, hrv6, h⟩ := bnd h
 refine r_call (hangfirelaw09_third_pc hrv6) (.of (by kernel_rfl)) R R R R (r_bsliceD (es := [.arr 1 ((rv4).map v8), .arr 1 ((rv5).map v8), .arr 1 ((rv6).map v8)]) tb R R R R R R R R R R R R R (q_asgD R (q_asgD R (q_asgD R (eN (sw_seq (qG (q_asgD R (eN (sw_block ?_))))))))))
 obtain ⟨K2, hK2, h⟩ : ∃ K, K = _ ∧ hangfirelaw09_FrameKnown_L3 F rv rv4 rv5 rv6 K F 0 = some r := ⟨_, rfl, h⟩
 refine sw_loopS (st0 := ⟨[(0, .d (.v (.bool false))), (1, .ref 0 4 0 0), (2, .d (.arr 1 (([0, 1, 257]).map vI))), (3, .d (.arr 1 (([0, 258, 0]).map vI))), (4, .d (.arr 1 (([rv4, rv5, rv6]).map (fun l => D.arr 1 (l.map v8))))), (5, .d (vI 0))], [some ⟨4, [FrFormat_T1 rv 1]⟩, some (lFrChanneld rv.channels)]⟩) (fun m st => ∃ (a : Int), hangfirelaw09_FrameKnown_L3 F rv rv4 rv5 rv6 K2 m a = some r ∧ st = ⟨[(0, .d (.v (.bool false))), (1, .ref 0 4 0 0), (2, .d (.arr 1 (([0, 1, 257]).map vI))), (3, .d (.arr 1 (([0, 258, 0]).map vI))), (4, .d (.arr 1 (([rv4, rv5, rv6]).map (fun l => D.arr 1 (l.map v8))))), (5, .d (vI a))], [some ⟨4, [FrFormat_T1 rv 1]⟩, some (lFrChanneld rv.channels)]⟩) (.vw (κ := [1, 0]) (vK (.cons R R (.row R .nil)) R)) ⟨0, h, R⟩ ?_
 clear h
 rintro m2 st ⟨a, h, rfl⟩
 cases m2 with
 | zero => cases (show (none : Option Bool) = some r from h)
 | succ m2 =>
 rw [hangfirelaw09_FrameKnown_L3] at h
 refine sw_seq (qG (q_movD R ?_))
 refine r_lss R R R R ?_ ?_
 ·intro c3
  replace h := ifP c3 h
  refine eN (sw_condT R (sw_skip (then_norm (sw_seq (sw_block (qG (r_ldG tb R R R R R R R R R (q_movD R (r_rem R R (by decide) R R (r_bsliceD (es := [vI 7, vI 258]) tb R R R R R R R R R R R R R ?_))))))))))
  obtain ⟨rv7, hrv7, h⟩ := bnd h
  refine r_callLN (t' := .tup [.row 2 1 0 (rv7.1).length, .d (vI rv7.2)]) (news' := [(lvI rv7.1)]) (frame_Commute_scr hrv7) R ((.row (fun _ => rfl) .nil)) (.of (by kernel_rfl)) R R ((.cons (.aggL (.cons (.d _) (.cons (.d _) (.cons (.d _) (.cons (.row R R) .nil))))) (.cons (.d _) (.cons (.d _) .nil)))) R ((.row .nil)) R R R ?_
  refine r_movT (.tup [.row 2 1 0 (rv7.1).length, .d (vI rv7.2)]) R R R (r_ext (t := .row 2 1 0 (rv7.1).length) R R R R (r_ext (t := .d (vI rv7.2)) R R R R (r_asgW R R R (q_asgD R (eN (sw_seq (sw_dr (by kernel_rfl) (r_ldG tb R R R R R R R R R (q_movD R (q_movD R ?_))))))))))
  obtain ⟨e, ie, h⟩ := bnd h
  refine q_ixE tb (ix0 ie) (ix1m ie) R (q_ldE (y := vI e) tb (ix2 (g := vI) ie) R (q_movD R (q_movD R (q_movD R (q_add R ?_)))))
  obtain ⟨q, iq, h⟩ := bnd h
  refine r_sliceLH tb R R R R R R R iq R R ?_
  obtain ⟨rv8, hrv8, h⟩ := bnd h
  refine r_callLN (t' := .tup [.row 3 1 0 (rv8.1).length, .d (vI rv8.2)]) (news' := [(lv8 rv8.1)]) (frame_Encode_scr hrv8) R ((.row (fun _ => rfl) .nil)) (.of (by kernel_rfl)) R R ((.cons (.aggL (.cons (.d _) (.cons (.d _) (.cons (.d _) (.cons (.row R R) .nil))))) (.cons (.d _) (.cons (.d _) .nil)))) R ((.row .nil)) R R R ?_
  refine r_movT (.tup [.row 3 1 0 (rv8.1).length, .d (vI rv8.2)]) R R R (r_ext (t := .row 3 1 0 (rv8.1).length) R R R R (r_ext (t := .d (vI rv8.2)) R R R R (r_asgW R R R (q_asgD R (ev_endD (by kernel_rfl) (then_norm (sw_seq (sw_dr (by kernel_rfl) (q_movD R ?_)))))))))
  refine r_neq R R R R ?_ ?_
  ·intro c4
   replace h := ifN c4 h
   refine q_movD R (q_sk 2 R (q_pickT R (q_movD R (q_sk 3 R (q_pickT R (q_movD R (q_sk 9 R (q_pickT R (q_movD R (q_sk 8 R (q_pickT R (ev_endD (by kernel_rfl) (then_norm (sw_condT R (qG (q_asgD R (eN (sw_ret (block_ret (then_ret (then_ret (block_ret (then_ret ?_)))))))))))))))))))))))
   obtain rfl := sI h
   exact f1 0 R
  intro c4
  replace h := ifP c4 h
  refine q_movD R (q_movD R ?_)
  refine r_neq R R R R ?_ ?_
  ·intro c5
   replace h := ifN c5 h
   refine q_pickF R (q_movD R (q_sk 3 R (q_pickT R (q_movD R (q_sk 9 R (q_pickT R (q_movD R (q_sk 8 R (q_pickT R (ev_endD (by kernel_rfl) (then_norm (sw_condT R (qG (q_asgD R (eN (sw_ret (block_ret (then_ret (then_ret (block_ret (then_ret ?_)))))))))))))))))))))
   obtain rfl := sI h
   exact f1 0 R
  intro c5
  replace h := ifP c5 h
  refine q_pickF R (q_movD R (r_movW R R R (r_lenR tb R R R R R ?_)))
  refine r_neq R R R R ?_ ?_
  ·intro c6
   replace h := ifN c6 h
   refine q_pickF R (q_movD R (q_sk 9 R (q_pickT R (q_movD R (q_sk 8 R (q_pickT R (ev_endD (by kernel_rfl) (then_norm (sw_condT R (qG (q_asgD R (eN (sw_ret (block_ret (then_ret (then_ret (block_ret (then_ret ?_))))))))))))))))))
   obtain rfl := sI h
   exact f1 0 R
  intro c6
  replace h := ifP c6 h
  refine q_pickF R (q_movD R (r_movW R R R ?_))
  obtain ⟨e2, ie2, h⟩ := bnd h
  refine r_ixI tb R R R R R R (ix0 ie2) (ix1 ie2) R R ?_
  refine r_ldD (y := vI e2) tb R R R R (ix2 (g := fun a => T.d (vI a)) ie2) R R R R ?_
  refine r_bsliceD (es := [vI 7, vI 258]) tb R R R R R R R R R R R R R (q_movD R (r_rem R R (by decide) R R ?_))
  obtain ⟨e3, ie3, h⟩ := bnd h
  refine q_ixE tb (ix0 ie3) (ix1m ie3) R (q_ldE (y := vI e3) tb (ix2 (g := vI) ie3) R ?_)
  refine r_neq R R R R ?_ ?_
  ·intro c7
   replace h := ifN c7 h
   refine q_pickF R (q_movD R (q_sk 8 R (q_pickT R (ev_endD (by kernel_rfl) (then_norm (sw_condT R (qG (q_asgD R (eN (sw_ret (block_ret (then_ret (then_ret (block_ret (then_ret ?_)))))))))))))))
   obtain rfl := sI h
   exact f1 0 R
  intro c7
  replace h := ifP c7 h
  refine q_pickF R (q_movD R (r_movW R R R ?_))
  obtain ⟨q2, iq2, h⟩ := bnd h
  refine r_strR (ns := rv8.1) R R R R R R iq2 R R (q_movD R (q_movD R ?_))
  obtain ⟨e4, ie4, h⟩ := bnd h
  refine q_ixE tb (ix0 ie4) (ix1m ie4) R ?_
  refine q_ldE (y := .arr 1 ((e4).map v8)) tb (ix2 (g := (fun l => D.arr 1 (l.map v8))) ie4) R ?_
  obtain ⟨q3, iq3, h⟩ := bnd h
  refine r_strD R R R R iq3 R R ?_
  refine r_strneq R R R R ?_ ?_
  ·intro c8
   replace h := ifN c8 h
   refine q_pickF R (ev_endD (by kernel_rfl) (then_norm (sw_condT R (qG (q_asgD R (eN (sw_ret (block_ret (then_ret (then_ret (block_ret (then_ret ?_))))))))))))
   obtain rfl := sI h
   exact f1 0 R
  intro c8
  replace h := ifP c8 h
  refine q_pickF R (ev_endD (by kernel_rfl) (then_norm (sw_condF R (sw_skip (block_norm (then_norm (sw_rg (q_movD R (q_add R (q_asgD R (eN ?_)))))))))))
  exact ⟨m2, ⟨[(0, .d (.v (.bool false))), (1, .ref 0 4 0 0), (2, .d (.arr 1 (([0, 1, 257]).map vI))), (3, .d (.arr 1 (([0, 258, 0]).map vI))), (4, .d (.arr 1 (([rv4, rv5, rv6]).map (fun l => D.arr 1 (l.map v8))))), (5, .d (vI (W (a + 1))))], [some ⟨4, [FrFormat_T1 rv 1]⟩, some (lFrChanneld rv.channels)]⟩, Nat.lt_succ_self _, .vw (κ := [0, 1]) (vK (.cons R R (.row R .nil)) R), (W (a + 1)), h, R⟩
 intro c3
 replace h := ifN (Int.not_lt.2 c3) h
 refine eN (sw_condF R (sw_exit (then_exit (then_exit ?_))))
 subst hK2
 refine block_exit (then_norm (qG ?_))
 obtain ⟨rv9, hrv9, h⟩ := bnd h
 refine r_callN (t' := .row 2 1 0 (rv9).length) (news' := [(lv8 rv9)]) (hangfirelaw09_first_scr hrv9) (.of (by kernel_rfl)) R R R ((.row .nil)) R R R (r_bslice tb R R R R R R R R R R R R R ?_)
 obtain ⟨q4, iq4, h⟩ := bnd h
 refine r_apM (g := v8) (w := rv9) (v := ([7] : List Int)) ([some ⟨4, [FrFormat_T1 rv 1]⟩, some (lFrChanneld rv.channels), none, some (lv8 ([7] : List Int))]) tb R R R R R R R R R R R iq4 R R R R R ?_
 obtain ⟨rv10, hrv10, h⟩ := bnd h
 refine r_call (hangfirelaw09_second_pc hrv10) (.of (by kernel_rfl)) R R R R ?_
 obtain ⟨q5, iq5, h⟩ := bnd h
 refine r_apEM (g := v8) (w := q4) (v := rv10) ([some ⟨4, [FrFormat_T1 rv 1]⟩, some (lFrChanneld rv.channels), none, some (lv8 ([7] : List Int)), none]) tb R R R R R R R R (by intro _; exact R) iq5 R R R R R (r_asgW R R R (eN (sw_seq ?_)))
 refine SW.fz (ts' := [(0, .d (.v (.bool false))), (1, .ref 0 4 0 0), (2, .d (.arr 1 (([0, 1, 257]).map vI))), (3, .d (.arr 1 (([0, 258, 0]).map vI))), (4, .d (.arr 1 (([rv4, rv5, rv6]).map (fun l => D.arr 1 (l.map v8))))), (5, .d (vI a)), (10, .row 5 1 0 (q5).length), (41, .d (vI a)), (42, .d (.v (.bool false))), (99, .row 2 1 0 (rv9).length), (100, .row 3 1 0 (([7] : List Int)).length), (101, .row 4 1 0 (q4).length), (102, .d (.arr 1 ((rv10).map v8))), (103, .row 5 1 0 (q5).length)]) (L' := [some ⟨4, [.d (FrFormat.d rv)]⟩, none, none, some (lv8 ([7] : List Int)), none, some (lv8 q5)]) (w := rv.channels) (f := FrChannel.d) 1 4 R (.cons (.same _) (.cons (.same _) (.cons (.same _) (.cons (.same _) (.cons (.same _) (.cons (.same _) (.cons (.same _) (.cons (.same _) (.cons (.same _) (.cons (.same _) (.cons (.same _) (.cons (.same _) (.cons (.same _) (.cons (.same _) .nil)))))))))))))) (.cons R (.cons (.aggDL (.cons (.same _) (.cons (.same _) (.cons (.same _) (.cons (.all (List.length_map _)) .nil))))) .nil) (.same (.same (.same (.same (.same .nil)))))) ?_
 refine SW.fz (ts' := [(0, .d (.v (.bool false))), (1, .ref 0 4 0 0), (2, .d (.arr 1 (([0, 1, 257]).map vI))), (3, .d (.arr 1 (([0, 258, 0]).map vI))), (4, .d (.arr 1 (([rv4, rv5, rv6]).map (fun l => D.arr 1 (l.map v8))))), (5, .d (vI a)), (10, .d (.arr 1 ((q5).map v8))), (41, .d (vI a)), (42, .d (.v (.bool false))), (99, .row 2 1 0 (rv9).length), (100, .row 3 1 0 (([7] : List Int)).length), (101, .row 4 1 0 (q4).length), (102, .d (.arr 1 ((rv10).map v8))), (103, .d (.arr 1 ((q5).map v8)))]) (L' := [some ⟨4, [.d (FrFormat.d rv)]⟩, none, none, some (lv8 ([7] : List Int)), none, none]) (w := q5) (f := v8) 5 1 R (.cons (.same _) (.cons (.same _) (.cons (.same _) (.cons (.same _) (.cons (.same _) (.cons (.same _) (.cons (.all (List.length_map _)) (.cons (.same _) (.cons (.same _) (.cons (.same _) (.cons (.same _) (.cons (.same _) (.cons (.same _) (.cons (.all (List.length_map _)) .nil)))))))))))))) (.same (.same (.same (.same (.same (.same .nil)))))) ?_
 refine sw_rg (q_ldD (y := FrFormat.d rv) tb R (q_movD R ?_))
 obtain ⟨rv11, hrv11, h⟩ := bnd h
 refine r_callN (t' := .tup [.row 6 3 0 (rv11.1).length, .row 7 2 0 (rv11.2.1).length, .d (vI rv11.2.2)]) (news' := [(lFrFramed rv11.1), (lFrGapd rv11.2.1)]) (frame_Decode_scr hrv11) (.of (by kernel_rfl)) R R R ((.row (.row .nil))) R R R (r_movT (.tup [.row 6 3 0 (rv11.1).length, .row 7 2 0 (rv11.2.1).length, .d (vI rv11.2.2)]) R R R (r_ext (t := .row 6 3 0 (rv11.1).length) R R R R (r_ext (t := .row 7 2 0 (rv11.2.1).length) R R R R (r_ext (t := .d (vI rv11.2.2)) R R R R (r_asgW R R R ?_)))))
 refine r_asgW R R R (q_asgD R (eN (sw_seq (qG (q_movD R ?_)))))
 refine r_neq R R R R ?_ ?_
 ·intro c9
  replace h := ifN c9 h
  refine q_movD R (q_sk 8 R (q_pickT R (q_movD R (q_sk 5 R (q_pickT R (eN (sw_condT R (qG (q_asgD R (eN (sw_ret (then_ret ?_))))))))))))
  obtain rfl := sI h
  exact f1 0 R
 intro c9
 replace h := ifP c9 h
 refine q_movD R (r_movW R R R (r_bsliceD (es := [vI 0]) tb R R R R R R R R R R R R R (r_build (v := .d (.agg [vI 0, vI 0, .arr 1 (([0]).map vI)])) tb R R (List.cons_ne_nil _ _) R R R R R R (r_bsliceD (es := [vI 258]) tb R R R R R R R R R R R R R (r_build (v := .d (.agg [vI 7, vI 1, .arr 1 (([258]).map vI)])) tb R R (List.cons_ne_nil _ _) R R R R R R ?_)))))
 refine r_bsliceD (es := [.agg [vI 0, vI 0, .arr 1 (([0]).map vI)], .agg [vI 7, vI 1, .arr 1 (([258]).map vI)]]) tb R R R R R R R R R R R R R ?_
 obtain ⟨rv12, hrv12, h⟩ := bnd h
 refine r_callLB (r9_SameFrames_pc hrv12) (.of (by kernel_rfl)) R R ((.cons (.row R R) (.cons (.d _) .nil))) R R ?_ ?_
 ·intro c10
  replace h := ifP c10 h
  refine r_notT R R R (q_pickF R (q_movD R (r_movW R R R (r_build (v := .d (.agg [vI 6, vI 7])) tb R R (List.cons_ne_nil _ _) R R R R R R (r_bsliceD (es := [.agg [vI 6, vI 7]]) tb R R R R R R R R R R R R R ?_)))))
  obtain ⟨rv13, hrv13, h⟩ := bnd h
  refine r_callLB (hangfirelaw09_gaps_pc hrv13) (.of (by kernel_rfl)) R R ((.cons (.row R R) (.cons (.d _) .nil))) R R ?_ ?_
  ·intro c11
   replace h := ifP c11 h
   refine r_notT R R R (q_pickF R (eN (sw_condF R (sw_skip (then_norm (qG (q_ldD (y := FrFormat.d rv) tb R (q_movD R (r_build (v := .d (.agg [.arr 1 ((q5).map v8), vI 0])) tb R R (List.cons_ne_nil _ _) R R R R R R ?_)))))))))
   obtain ⟨rv14, hrv14, h⟩ := bnd h
   refine r_callN (t' := .tup [.row 8 1 0 (rv14.1).length, .d (vI rv14.2)]) (news' := [(lvI rv14.1)]) (frame_Numbers_scr hrv14) (.of (by kernel_rfl)) R R R ((.row .nil)) R R R (r_movT (.tup [.row 8 1 0 (rv14.1).length, .d (vI rv14.2)]) R R R (r_ext (t := .row 8 1 0 (rv14.1).length) R R R R (r_ext (t := .d (vI rv14.2)) R R R R (r_asgW R R R (q_asgD R (eN (qG (q_ldD (y := FrFormat.d rv) tb R (q_movD R ?_)))))))))
   refine r_build (v := .d (.agg [.arr 1 ((q5).map v8), vI 1])) tb R R (List.cons_ne_nil _ _) R R R R R R ?_
   obtain ⟨rv15, hrv15, h⟩ := bnd h
   refine r_callN (t' := .tup [.row 9 1 0 (rv15.1).length, .d (vI rv15.2)]) (news' := [(lvI rv15.1)]) (frame_Numbers_scr hrv15) (.of (by kernel_rfl)) R R R ((.row .nil)) R R R (r_movT (.tup [.row 9 1 0 (rv15.1).length, .d (vI rv15.2)]) R R R (r_ext (t := .row 9 1 0 (rv15.1).length) R R R R (r_ext (t := .d (vI rv15.2)) R R R R (r_asgW R R R (q_asgD R (eN (sw_seq (qG (q_movD R ?_)))))))))
   refine r_neq R R R R ?_ ?_
   ·intro c12
    replace h := ifN c12 h
    refine q_movD R (q_sk 2 R (q_pickT R (q_movD R (q_sk 4 R (q_pickT R (q_movD R (q_sk 4 R (q_pickT R (eN (sw_condT R (qG (q_asgD R (eN (sw_ret (then_ret ?_)))))))))))))))
    obtain rfl := sI h
    exact f1 0 R
   intro c12
   replace h := ifP c12 h
   refine q_movD R (q_movD R ?_)
   refine r_neq R R R R ?_ ?_
   ·intro c13
    replace h := ifN c13 h
    refine q_pickF R (q_movD R (q_sk 4 R (q_pickT R (q_movD R (q_sk 4 R (q_pickT R (eN (sw_condT R (qG (q_asgD R (eN (sw_ret (then_ret ?_)))))))))))))
    obtain rfl := sI h
    exact f1 0 R
   intro c13
   replace h := ifP c13 h
   refine q_pickF R (q_movD R (r_movW R R R (r_bsliceD (es := [vI 0, vI 1]) tb R R R R R R R R R R R R R ?_)))
   obtain ⟨rv16, hrv16, h⟩ := bnd h
   refine r_callLB (r9_Ints_pc hrv16) (.of (by kernel_rfl)) R R ((.cons (.row R R) (.cons (.d _) .nil))) R R ?_ ?_
   ·intro c14
    replace h := ifP c14 h
    refine r_notT R R R (q_pickF R (q_movD R (r_movW R R R (r_bsliceD (es := [vI 256, vI 257]) tb R R R R R R R R R R R R R ?_))))
    obtain ⟨rv17, hrv17, h⟩ := bnd h
    refine r_callLB (r9_Ints_pc hrv17) (.of (by kernel_rfl)) R R ((.cons (.row R R) (.cons (.d _) .nil))) R R ?_ ?_
    ·intro c15
     replace h := ifP c15 h
     refine r_notT R R R (q_pickF R (eN (sw_condF R (sw_skip (then_norm (sw_seq (qG (q_asgD R (eN (sw_block ?_))))))))))
     obtain ⟨K4, hK4, h⟩ : ∃ K, K = _ ∧ hangfirelaw09_FrameKnown_L2 F rv q5 K F 0 = some r := ⟨_, rfl, h⟩
     refine sw_loopS (st0 := ⟨[(0, .d (.v (.bool false))), (1, .ref 0 4 0 0), (10, .d (.arr 1 ((q5).map v8))), (17, .d (vI 0))], [some ⟨4, [.d (FrFormat.d rv)]⟩]⟩) (fun m st => ∃ (x : Int), hangfirelaw09_FrameKnown_L2 F rv q5 K4 m x = some r ∧ st = ⟨[(0, .d (.v (.bool false))), (1, .ref 0 4 0 0), (10, .d (.arr 1 ((q5).map v8))), (17, .d (vI x))], [some ⟨4, [.d (FrFormat.d rv)]⟩]⟩) (.vw (κ := [0]) (vK (.cons R R .nil) R)) ⟨0, h, R⟩ ?_
     clear h
     rintro m4 st ⟨x, h, rfl⟩
     cases m4 with
     | zero => cases (show (none : Option Bool) = some r from h)
     | succ m4 =>
     rw [hangfirelaw09_FrameKnown_L2] at h
     refine sw_seq (qG (q_movD R ?_))
     refine r_lss R R R R ?_ ?_
     ·intro c16
      replace h := ifP c16 h
      refine eN (sw_condT R (sw_skip (then_norm (sw_seq (sw_block (qG (q_ldD (y := FrFormat.d rv) tb R (q_movD R (r_build (v := .d (.agg [.arr 1 ((q5).map v8), vI 0])) tb R R (List.cons_ne_nil _ _) R R R R R R (q_movD R ?_))))))))))
      obtain ⟨rv18, hrv18, h⟩ := bnd h
      refine r_callN (t' := .tup [.row 1 2 0 (rv18.1).length, .d (vI rv18.2)]) (news' := [(lFrValued rv18.1)]) (frame_Values_scr hrv18) (.of (by kernel_rfl)) R R R ((.row .nil)) R R R (r_movT (.tup [.row 1 2 0 (rv18.1).length, .d (vI rv18.2)]) R R R (r_ext (t := .row 1 2 0 (rv18.1).length) R R R R (r_ext (t := .d (vI rv18.2)) R R R R (r_asgW R R R (q_asgD R (eN (qG (q_movD R ?_))))))))
      refine r_neq R R R R ?_ ?_
      ·intro c17
       replace h := ifN c17 h
       refine q_movD R (q_sk 3 R (q_pickT R (q_movD R (q_sk 8 R (q_pickT R (eN (sw_condT R (qG (q_asgD R (eN (sw_ret (block_ret (then_ret (then_ret (block_ret (then_ret ?_))))))))))))))))
       obtain rfl := sI h
       exact f1 0 R
      intro c17
      replace h := ifP c17 h
      refine q_movD R (r_movW R R R (r_lenR tb R R R R R ?_))
      refine r_neq R R R R ?_ ?_
      ·intro c18
       replace h := ifN c18 h
       refine q_pickF R (q_movD R (q_sk 8 R (q_pickT R (eN (sw_condT R (qG (q_asgD R (eN (sw_ret (block_ret (then_ret (then_ret (block_ret (then_ret ?_))))))))))))))
       obtain rfl := sI h
       exact f1 0 R
      intro c18
      replace h := ifP c18 h
      refine q_pickF R (q_movD R (r_movW R R R ?_))
      obtain ⟨e5, ie5, h⟩ := bnd h
      refine r_ixI tb R R R R R R (ix0 ie5) (ix1 ie5) R R ?_
      refine r_ldD (y := FrValue.d e5) tb R R R R (ix2 (g := fun a => T.d (FrValue.d a)) ie5) R R R R ?_
      refine q_movD R (q_movD R (r_mul R R R R (r_build (v := .d (.agg [vI x, vI (W (258 * x))])) tb R R (List.cons_ne_nil _ _) R R R R R R ?_)))
      refine r_neqA (p := [.int .i64 e5.number, .int .i64 e5.value]) (q := [.int .i64 x, .int .i64 (W (258 * x))]) R R (fun o1 o2 w => ne44 e5 (FrValue.mk x (W (258 * x))) o1 o2 w) R R ?_
      with_reducible apply ev_lit
      ·intro c19
       replace h := ifP c19 h
       refine q_pickF R (eN (sw_condT R (qG (q_asgD R (eN (sw_ret (block_ret (then_ret (then_ret (block_ret (then_ret ?_)))))))))))
       obtain rfl := sI h
       exact f1 0 R
      intro c19
      replace h := ifF c19 h
      refine q_pickF R (eN (sw_condF R (sw_skip (block_norm (then_norm (sw_rg (q_movD R (q_add R (q_asgD R (eN ?_))))))))))
      exact ⟨m4, ⟨[(0, .d (.v (.bool false))), (1, .ref 0 4 0 0), (10, .d (.arr 1 ((q5).map v8))), (17, .d (vI (W (x + 1))))], [some ⟨4, [.d (FrFormat.d rv)]⟩]⟩, Nat.lt_succ_self _, .vw (κ := [0]) (vK (.cons R R .nil) R), (W (x + 1)), h, R⟩
     intro c16
     replace h := ifN (Int.not_lt.2 c16) h
     refine eN (sw_condF R (sw_exit (then_exit (then_exit ?_))))
     subst hK4
     refine block_exit (then_norm (sw_seq (sw_dr (by kernel_rfl) (q_ldD (y := FrFormat.d rv) tb R (q_movD R (r_build (v := .d (.agg [.arr 1 ((q5).map v8), vI 0])) tb R R (List.cons_ne_nil _ _) R R R R R R ?_))))))
     obtain ⟨rv19, hrv19, h⟩ := bnd h
     refine r_call (hangfirelaw09_second_pc hrv19) (.of (by kernel_rfl)) R R R R (r_build (v := .d (.agg [.arr 1 ((rv19).map v8), vI 0])) tb R R (List.cons_ne_nil _ _) R R R R R R ?_)
     obtain ⟨rv20, hrv20, h⟩ := bnd h
     refine r_call (hangfirelaw09_third_pc hrv20) (.of (by kernel_rfl)) R R R R (r_build (v := .d (.agg [.arr 1 ((rv20).map v8), vI 0])) tb R R (List.cons_ne_nil _ _) R R R R R R (r_bsliceD (es := [.agg [.arr 1 ((q5).map v8), vI 0], .agg [.arr 1 ((rv19).map v8), vI 0], .agg [.arr 1 ((rv20).map v8), vI 0]]) tb R R R R R R R R R R R R R ?_))
     obtain ⟨rv21, hrv21, h⟩ := bnd h
     refine r_callN (t' := .tup [.row 1 5 0 (rv21.1).length, .d (vI rv21.2)]) (news' := [(lFrReportd rv21.1)]) (frame_Merge_scr hrv21) (.of (by kernel_rfl)) R R R ((.row .nil)) R R R (r_movT (.tup [.row 1 5 0 (rv21.1).length, .d (vI rv21.2)]) R R R (r_ext (t := .row 1 5 0 (rv21.1).length) R R R R (r_ext (t := .d (vI rv21.2)) R R R R (r_asgW R R R (q_asgD R (ev_endD (by kernel_rfl) (then_norm (sw_seq (qG (q_movD R ?_))))))))))
     refine r_neq R R R R ?_ ?_
     ·intro c20
      replace h := ifN c20 h
      refine q_movD R (q_sk 8 R (q_pickT R (eN (sw_condT R (qG (q_asgD R (eN (sw_ret (then_ret ?_)))))))))
      obtain rfl := sI h
      exact f1 0 R
     intro c20
     replace h := ifP c20 h
     refine q_movD R (r_movW R R R (r_bsliceD (es := [vI 0]) tb R R R R R R R R R R R R R (r_build (v := .d (.agg [vI 0, vI 0, vI 1, .v (.bool false), .arr 1 (([0]).map vI)])) tb R R (List.cons_ne_nil _ _) R R R R R R (r_bsliceD (es := [vI 258]) tb R R R R R R R R R R R R R ?_))))
     refine r_build (v := .d (.agg [vI 1, vI 0, vI 2, .v (.bool true), .arr 1 (([258]).map vI)])) tb R R (List.cons_ne_nil _ _) R R R R R R (r_bsliceD (es := [.agg [vI 0, vI 0, vI 1, .v (.bool false), .arr 1 (([0]).map vI)], .agg [vI 1, vI 0, vI 2, .v (.bool true), .arr 1 (([258]).map vI)]]) tb R R R R R R R R R R R R R ?_)
     obtain ⟨rv22, hrv22, h⟩ := bnd h
     refine r_callLB (r9_SameReports_pc hrv22) (.of (by kernel_rfl)) R R ((.cons (.row R R) (.cons (.d _) .nil))) R R ?_ ?_
     ·intro c21
      replace h := ifP c21 h
      refine r_notT R R R (q_pickF R (eN (sw_condF R (sw_skip (then_norm (qG (r_bsliceD (es := [vI 34368]) tb R R R R R R R R R R R R R (r_build (v := .d (.agg [vI 0, vI 0, vI 0, .v (.bool false), .arr 1 (([34368]).map vI)])) tb R R (List.cons_ne_nil _ _) R R R R R R (r_bsliceD (es := [vI 35768]) tb R R R R R R R R R R R R R ?_)))))))))
      refine r_build (v := .d (.agg [vI 1, vI 0, vI 0, .v (.bool false), .arr 1 (([35768]).map vI)])) tb R R (List.cons_ne_nil _ _) R R R R R R (r_bsliceD (es := [.agg [vI 0, vI 0, vI 0, .v (.bool false), .arr 1 (([34368]).map vI)], .agg [vI 1, vI 0, vI 0, .v (.bool false), .arr 1 (([35768]).map vI)]]) tb R R R R R R R R R R R R R (r_bsliceD (es := [vI 34368]) tb R R R R R R R R R R R R R ?_))
      refine r_build (v := .d (.agg [vI 0, vI 0, vI 0, .v (.bool false), .arr 1 (([34368]).map vI)])) tb R R (List.cons_ne_nil _ _) R R R R R R (r_bsliceD (es := [vI 34768]) tb R R R R R R R R R R R R R (r_build (v := .d (.agg [vI 2, vI 0, vI 0, .v (.bool false), .arr 1 (([34768]).map vI)])) tb R R (List.cons_ne_nil _ _) R R R R R R ?_))
      refine r_bsliceD (es := [.agg [vI 0, vI 0, vI 0, .v (.bool false), .arr 1 (([34368]).map vI)], .agg [vI 2, vI 0, vI 0, .v (.bool false), .arr 1 (([34768]).map vI)]]) tb R R R R R R R R R R R R R (r_bsliceD (es := [vI 35768]) tb R R R R R R R R R R R R R (r_build (v := .d (.agg [vI 1, vI 0, vI 0, .v (.bool true), .arr 1 (([35768]).map vI)])) tb R R (List.cons_ne_nil _ _) R R R R R R ?_))
      refine r_bsliceD (es := [vI 34368]) tb R R R R R R R R R R R R R (r_build (v := .d (.agg [vI 2, vI 0, vI 0, .v (.bool false), .arr 1 (([34368]).map vI)])) tb R R (List.cons_ne_nil _ _) R R R R R R (r_bsliceD (es := [.agg [vI 1, vI 0, vI 0, .v (.bool true), .arr 1 (([35768]).map vI)], .agg [vI 2, vI 0, vI 0, .v (.bool false), .arr 1 (([34368]).map vI)]]) tb R R R R R R R R R R R R R ?_))
      refine r_bsliceD (es := [.arr 5 (([(FrReport.mk 0 0 0 false [34368]), (FrReport.mk 1 0 0 false [35768])]).map FrReport.d), .arr 5 (([(FrReport.mk 0 0 0 false [34368]), (FrReport.mk 2 0 0 false [34768])]).map FrReport.d), .arr 5 (([(FrReport.mk 1 0 0 true [35768]), (FrReport.mk 2 0 0 false [34368])]).map FrReport.d)]) tb R R R R R R R R R R R R R (q_asgD R (eN (qG (r_bsliceD (es := [vI 1, vI 2]) tb R R R R R R R R R R R R R ?_))))
      refine r_build (v := .d (.agg [vI 0, .arr 1 (([1, 2]).map vI)])) tb R R (List.cons_ne_nil _ _) R R R R R R (r_bsliceD (es := [vI 1]) tb R R R R R R R R R R R R R (r_build (v := .d (.agg [vI 1, .arr 1 (([1]).map vI)])) tb R R (List.cons_ne_nil _ _) R R R R R R (r_bsliceD (es := [.agg [vI 0, .arr 1 (([1, 2]).map vI)], .agg [vI 1, .arr 1 (([1]).map vI)]]) tb R R R R R R R R R R R R R ?_)))
      refine r_bsliceD (es := [vI 1, vI 2]) tb R R R R R R R R R R R R R (r_build (v := .d (.agg [vI 0, .arr 1 (([1, 2]).map vI)])) tb R R (List.cons_ne_nil _ _) R R R R R R (r_bsliceD (es := [vI 0, vI 1, vI 2]) tb R R R R R R R R R R R R R (r_build (v := .d (.agg [vI 1, .arr 1 (([0, 1, 2]).map vI)])) tb R R (List.cons_ne_nil _ _) R R R R R R ?_)))
      refine r_bsliceD (es := [vI 0]) tb R R R R R R R R R R R R R (r_build (v := .d (.agg [vI 2, .arr 1 (([0]).map vI)])) tb R R (List.cons_ne_nil _ _) R R R R R R (r_bsliceD (es := [.agg [vI 0, .arr 1 (([1, 2]).map vI)], .agg [vI 1, .arr 1 (([0, 1, 2]).map vI)], .agg [vI 2, .arr 1 (([0]).map vI)]]) tb R R R R R R R R R R R R R ?_))
      refine r_bsliceD (es := [vI 0, vI 1, vI 2]) tb R R R R R R R R R R R R R (r_build (v := .d (.agg [vI 1, .arr 1 (([0, 1, 2]).map vI)])) tb R R (List.cons_ne_nil _ _) R R R R R R (r_bsliceD (es := [vI 1, vI 2]) tb R R R R R R R R R R R R R (r_build (v := .d (.agg [vI 2, .arr 1 (([1, 2]).map vI)])) tb R R (List.cons_ne_nil _ _) R R R R R R ?_)))
      refine r_bsliceD (es := [.agg [vI 1, .arr 1 (([0, 1, 2]).map vI)], .agg [vI 2, .arr 1 (([1, 2]).map vI)]]) tb R R R R R R R R R R R R R (r_bsliceD (es := [.arr 2 (([(FrAxes.mk 0 [1, 2]), (FrAxes.mk 1 [1])]).map FrAxes.d), .arr 2 (([(FrAxes.mk 0 [1, 2]), (FrAxes.mk 1 [0, 1, 2]), (FrAxes.mk 2 [0])]).map FrAxes.d), .arr 2 (([(FrAxes.mk 1 [0, 1, 2]), (FrAxes.mk 2 [1, 2])]).map FrAxes.d)]) tb R R R R R R R R R R R R R (q_asgD R (eN (sw_seq (qG (q_asgD R (eN (sw_block ?_))))))))
      obtain ⟨K6, hK6, h⟩ : ∃ K, K = _ ∧ hangfirelaw09_FrameKnown_L1 F rv K F 0 = some r := ⟨_, rfl, h⟩
      refine sw_loopS (st0 := ⟨[(0, .d (.v (.bool false))), (1, .ref 0 4 0 0), (21, .d (.arr 1 (([[(FrReport.mk 0 0 0 false [34368]), (FrReport.mk 1 0 0 false [35768])], [(FrReport.mk 0 0 0 false [34368]), (FrReport.mk 2 0 0 false [34768])], [(FrReport.mk 1 0 0 true [35768]), (FrReport.mk 2 0 0 false [34368])]]).map (fun l => D.arr 5 (l.map FrReport.d))))), (22, .d (.arr 1 (([[(FrAxes.mk 0 [1, 2]), (FrAxes.mk 1 [1])], [(FrAxes.mk 0 [1, 2]), (FrAxes.mk 1 [0, 1, 2]), (FrAxes.mk 2 [0])], [(FrAxes.mk 1 [0, 1, 2]), (FrAxes.mk 2 [1, 2])]]).map (fun l => D.arr 2 (l.map FrAxes.d))))), (23, .d (vI 0))], [some ⟨4, [.d (FrFormat.d rv)]⟩]⟩) (fun m st => ∃ (x2 : Int), hangfirelaw09_FrameKnown_L1 F rv K6 m x2 = some r ∧ st = ⟨[(0, .d (.v (.bool false))), (1, .ref 0 4 0 0), (21, .d (.arr 1 (([[(FrReport.mk 0 0 0 false [34368]), (FrReport.mk 1 0 0 false [35768])], [(FrReport.mk 0 0 0 false [34368]), (FrReport.mk 2 0 0 false [34768])], [(FrReport.mk 1 0 0 true [35768]), (FrReport.mk 2 0 0 false [34368])]]).map (fun l => D.arr 5 (l.map FrReport.d))))), (22, .d (.arr 1 (([[(FrAxes.mk 0 [1, 2]), (FrAxes.mk 1 [1])], [(FrAxes.mk 0 [1, 2]), (FrAxes.mk 1 [0, 1, 2]), (FrAxes.mk 2 [0])], [(FrAxes.mk 1 [0, 1, 2]), (FrAxes.mk 2 [1, 2])]]).map (fun l => D.arr 2 (l.map FrAxes.d))))), (23, .d (vI x2))], [some ⟨4, [.d (FrFormat.d rv)]⟩]⟩) (.vw (κ := [0]) (vK (.cons R R .nil) R)) ⟨0, h, R⟩ ?_
      clear h
      rintro m6 st ⟨x2, h, rfl⟩
      cases m6 with
      | zero => cases (show (none : Option Bool) = some r from h)
      | succ m6 =>
      rw [hangfirelaw09_FrameKnown_L1] at h
      refine sw_seq (qG (q_movD R ?_))
      refine r_lss R R R R ?_ ?_
      ·intro c22
       replace h := ifP c22 h
       refine eN (sw_condT R (sw_skip (then_norm (sw_seq (sw_block (sw_seq (sw_dr (by kernel_rfl) (q_ldD (y := FrFormat.d rv) tb R ?_))))))))
       obtain ⟨rv23, hrv23, h⟩ := bnd h
       refine r_call (hangfirelaw09_Sky_pc hrv23) (.of (by kernel_rfl)) R R R R (q_movD R (q_movD R ?_))
       obtain ⟨e6, ie6, h⟩ := bnd h
       refine q_ixE tb (ix0 ie6) (ix1m ie6) R ?_
       refine q_ldE (y := .arr 5 ((e6).map FrReport.d)) tb (ix2 (g := (fun l => D.arr 5 (l.map FrReport.d))) ie6) R ?_
       obtain ⟨rv24, hrv24, h⟩ := bnd h
       refine r_callN (t' := .tup [.row 1 2 0 (rv24.1).length, .d (vI rv24.2)]) (news' := [(lFrAxesd rv24.1)]) (frame_Axes_scr hrv24) (.of (by kernel_rfl)) R R R ((.row .nil)) R R R (r_movT (.tup [.row 1 2 0 (rv24.1).length, .d (vI rv24.2)]) R R R (r_ext (t := .row 1 2 0 (rv24.1).length) R R R R (r_ext (t := .d (vI rv24.2)) R R R R (r_asgW R R R (q_asgD R (ev_endD (by kernel_rfl) (then_norm (qG (q_movD R ?_)))))))))
       refine r_neq R R R R ?_ ?_
       ·intro c23
        replace h := ifN c23 h
        refine q_movD R (q_sk 7 R (q_pickT R (eN (sw_condT R (qG (q_asgD R (eN (sw_ret (block_ret (then_ret (then_ret (block_ret (then_ret ?_)))))))))))))
        obtain rfl := sI h
        exact f1 0 R
       intro c23
       replace h := ifP c23 h
       refine q_movD R (r_movW R R R (q_movD R (q_movD R ?_)))
       obtain ⟨e7, ie7, h⟩ := bnd h
       refine q_ixE tb (ix0 ie7) (ix1m ie7) R ?_
       refine q_ldE (y := .arr 2 ((e7).map FrAxes.d)) tb (ix2 (g := (fun l => D.arr 2 (l.map FrAxes.d))) ie7) R ?_
       obtain ⟨rv25, hrv25, h⟩ := bnd h
       refine r_callLB (r9_SameAxes_pc hrv25) (.of (by kernel_rfl)) R R ((.cons (.row R R) (.cons (.d _) .nil))) R R ?_ ?_
       ·intro c24
        replace h := ifP c24 h
        refine r_notT R R R (q_pickF R (eN (sw_condF R (sw_skip (block_norm (then_norm (sw_rg (q_movD R (q_add R (q_asgD R (eN ?_)))))))))))
        exact ⟨m6, ⟨[(0, .d (.v (.bool false))), (1, .ref 0 4 0 0), (21, .d (.arr 1 (([[(FrReport.mk 0 0 0 false [34368]), (FrReport.mk 1 0 0 false [35768])], [(FrReport.mk 0 0 0 false [34368]), (FrReport.mk 2 0 0 false [34768])], [(FrReport.mk 1 0 0 true [35768]), (FrReport.mk 2 0 0 false [34368])]]).map (fun l => D.arr 5 (l.map FrReport.d))))), (22, .d (.arr 1 (([[(FrAxes.mk 0 [1, 2]), (FrAxes.mk 1 [1])], [(FrAxes.mk 0 [1, 2]), (FrAxes.mk 1 [0, 1, 2]), (FrAxes.mk 2 [0])], [(FrAxes.mk 1 [0, 1, 2]), (FrAxes.mk 2 [1, 2])]]).map (fun l => D.arr 2 (l.map FrAxes.d))))), (23, .d (vI (W (x2 + 1))))], [some ⟨4, [.d (FrFormat.d rv)]⟩]⟩, Nat.lt_succ_self _, .vw (κ := [0]) (vK (.cons R R .nil) R), (W (x2 + 1)), h, R⟩
       intro c24
       replace h := ifF c24 h
       refine r_notF R R R (q_pickF R (eN (sw_condT R (qG (q_asgD R (eN (sw_ret (block_ret (then_ret (then_ret (block_ret (then_ret ?_))))))))))))
       obtain rfl := sI h
       exact f1 0 R
      intro c22
      replace h := ifN (Int.not_lt.2 c22) h
      refine eN (sw_condF R (sw_exit (then_exit (then_exit ?_))))
      subst hK6
      refine block_exit (then_norm (qG ?_))
      obtain ⟨rv26, hrv26, h⟩ := bnd h
      refine r_call (hangfirelaw09_Awake_pc hrv26) (.of (by kernel_rfl)) R R R R (q_asgD R (eN (sw_ret ?_)))
      obtain rfl := sI h
      exact f1 0 R
     intro c21
     replace h := ifF c21 h
     refine r_notF R R R (q_pickF R (eN (sw_condT R (qG (q_asgD R (eN (sw_ret (then_ret ?_))))))))
     obtain rfl := sI h
     exact f1 0 R
    intro c15
    replace h := ifF c15 h
    refine r_notF R R R (q_pickF R (eN (sw_condT R (qG (q_asgD R (eN (sw_ret (then_ret ?_))))))))
    obtain rfl := sI h
    exact f1 0 R
   intro c14
   replace h := ifF c14 h
   refine r_notF R R R (q_pickF R (q_movD R (q_sk 4 R (q_pickT R (eN (sw_condT R (qG (q_asgD R (eN (sw_ret (then_ret ?_)))))))))))
   obtain rfl := sI h
   exact f1 0 R
  intro c11
  replace h := ifF c11 h
  refine r_notF R R R (q_pickF R (eN (sw_condT R (qG (q_asgD R (eN (sw_ret (then_ret ?_))))))))
  obtain rfl := sI h
  exact f1 0 R
 intro c10
 replace h := ifF c10 h
 refine r_notF R R R (q_pickF R (q_movD R (q_sk 5 R (q_pickT R (eN (sw_condT R (qG (q_asgD R (eN (sw_ret (then_ret ?_)))))))))))
 obtain rfl := sI h
 exact f1 0 R
end Go.Proofs.Ytjnnkcnnandeeaa
