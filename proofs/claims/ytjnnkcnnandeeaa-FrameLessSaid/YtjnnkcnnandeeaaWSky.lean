/- The walk of CheckSky. -/
import Derived.Test.YtjnnkcnnandeeaaSky
import Derived.Test.YtjnnkcnnandeeaaWCheck
import Derived.Test.YtjnnkcnnandeeaaDet
import Derived.IntWalk
namespace Go.Proofs.Ytjnnkcnnandeeaa
open Go.RowKit
/-- What CheckSky says. -/
def skyOut (f : Fmt) (s : Sky) : Int × Int := if (chk f).2.2 ≠ 0 then (0, (chk f).2.2) else skyIn f.channels.length s
section
variable {n : Nat} {s : Sky}
theorem skyIn_len (h : outB s.dirs.length 1 30 = true ∨ 6 < s.sens.length) : skyIn n s = (0, 3) := if_pos h
theorem skyIn_turn (h : outB s.dirs.length 1 30 = false) (h6 : ¬ 6 < s.sens.length) (ht : outB s.turn (-100000000) 100000000 = true) : skyIn n s = (0, 7) := by
  unfold skyIn
  rw [if_neg (by rw [h]; simpa using h6), if_pos ht]
theorem skyIn_go (h : outB s.dirs.length 1 30 = false) (h6 : ¬ 6 < s.sens.length) (ht : outB s.turn (-100000000) 100000000 = false) :
    skyIn n s = match badAt (fun i => dirErr s.turn (s.dirs.getD i default)) s.dirs.length with
    | some k => (k, dirErr s.turn (s.dirs.getD k default))
    | none => match badAt (fun i => senErr n (s.sens.getD i default)) s.sens.length with
      | some k => (k, senErr n (s.sens.getD k default))
      | none => (0, 0) := by
  unfold skyIn
  rw [if_neg (by rw [h]; simpa using h6), if_neg (by rw [ht]; decide)]
  rfl
/-- The format is right, and all that is looked at before the directions. -/
def SkyPre (s : Sky) : Prop := outB s.dirs.length 1 30 = false ∧ ¬ 6 < s.sens.length ∧ outB s.turn (-100000000) 100000000 = false
def DirsOk (s : Sky) (k : Nat) : Prop := ∀ j, j < k → dirErr s.turn (s.dirs.getD j default) = 0
def SensOk (n : Nat) (s : Sky) (k : Nat) : Prop := ∀ j, j < k → senErr n (s.sens.getD j default) = 0
theorem DirsOk.succ {k : Nat} (h : DirsOk s k) (h1 : dirErr s.turn (s.dirs.getD k default) = 0) : DirsOk s (k + 1) := by
  intro j hj
  by_cases hjk : j = k
  · rw [hjk]; exact h1
  · exact h j (by omega)
theorem SensOk.succ {k : Nat} (h : SensOk n s k) (h1 : senErr n (s.sens.getD k default) = 0) : SensOk n s (k + 1) := by
  intro j hj
  by_cases hjk : j = k
  · rw [hjk]; exact h1
  · exact h j (by omega)
theorem skyIn_dir (h : SkyPre s) {k : Nat} (hs : DirsOk s k) (hk : k < s.dirs.length) {e : Int} (he : dirErr s.turn (s.dirs.getD k default) = e) (hn : e ≠ 0) : skyIn n s = ((k : Int), e) := by
  rw [skyIn_go h.1 h.2.1 h.2.2, badAt_some hs hk (by rw [he]; exact hn)]
  dsimp only
  rw [he]
theorem skyIn_sen (h : SkyPre s) (hd : DirsOk s s.dirs.length) {k : Nat} (hs : SensOk n s k) (hk : k < s.sens.length) {e : Int} (he : senErr n (s.sens.getD k default) = e) (hn : e ≠ 0) : skyIn n s = ((k : Int), e) := by
  rw [skyIn_go h.1 h.2.1 h.2.2, badAt_none hd, badAt_some hs hk (by rw [he]; exact hn)]
  dsimp only
  rw [he]
theorem skyIn_ok (h : SkyPre s) (hd : DirsOk s s.dirs.length) (hs : SensOk n s s.sens.length) : skyIn n s = (0, 0) := by
  rw [skyIn_go h.1 h.2.1 h.2.2, badAt_none hd, badAt_none hs]
end
theorem IntsV.three (w : World) (x y z : Int) : IntsV (w.alloc (.cells #[.int .i64 x, .int .i64 y, .int .i64 z] 3)) .i64 (.slice (some ⟨w.heap.size, 0, none⟩) 3 3) [x, y, z] :=
  Own.ints (l := [x, y, z]) (Own.lit w 0 3 1 3 #[.int .i64 x, .int .i64 y, .int .i64 z] (Nat.zero_le _) rfl (by simp [maxLen]))
theorem IntsV.three' (w : World) (x y z : Int) {B : Nat} (h : w.heap.size = B) : IntsV (w.alloc (.cells #[.int .i64 x, .int .i64 y, .int .i64 z] 3)) .i64 (.slice (some ⟨B, 0, none⟩) 3 3) [x, y, z] := by
  subst h
  exact IntsV.three w x y z
theorem size_alloc (w : World) (o : Obj) : (w.alloc o).heap.size = w.heap.size + 1 := by simp
theorem dotW_eq {a b : Dir} (ha : -10000 ≤ a.x ∧ a.x ≤ 10000 ∧ -10000 ≤ a.y ∧ a.y ≤ 10000 ∧ -10000 ≤ a.z ∧ a.z ≤ 10000) (hb : -1000000 ≤ b.x ∧ b.x ≤ 1000000 ∧ -1000000 ≤ b.y ∧ b.y ≤ 1000000 ∧ -1000000 ≤ b.z ∧ b.z ≤ 1000000) :
    dotW a b = dotI a b ∧ -30000000000 ≤ dotI a b ∧ dotI a b ≤ 30000000000 := by
  have hm : ∀ p q : Int, -10000 ≤ p → p ≤ 10000 → -1000000 ≤ q → q ≤ 1000000 → -10000000000 ≤ p * q ∧ p * q ≤ 10000000000 := by
    intro p q h1 h2 h3 h4
    have e1 := Int.mul_nonneg (show 0 ≤ 10000 - p by omega) (show 0 ≤ 1000000 - q by omega)
    have e2 := Int.mul_nonneg (show 0 ≤ 10000 - p by omega) (show 0 ≤ 1000000 + q by omega)
    have e3 := Int.mul_nonneg (show 0 ≤ 10000 + p by omega) (show 0 ≤ 1000000 - q by omega)
    have e4 := Int.mul_nonneg (show 0 ≤ 10000 + p by omega) (show 0 ≤ 1000000 + q by omega)
    simp only [Int.sub_mul, Int.mul_sub, Int.add_mul, Int.mul_add] at e1 e2 e3 e4
    omega
  obtain ⟨a1, a2, a3, a4, a5, a6⟩ := ha
  obtain ⟨b1, b2, b3, b4, b5, b6⟩ := hb
  have m1 := hm _ _ a1 a2 b1 b2
  have m2 := hm _ _ a3 a4 b3 b4
  have m3 := hm _ _ a5 a6 b5 b6
  unfold dotW dotI
  generalize a.x * b.x = p at *
  generalize a.y * b.y = q at *
  generalize a.z * b.z = r at *
  refine ⟨?_, by omega, by omega⟩
  rw [IntWalk.wrap64_in p (by omega), IntWalk.wrap64_in q (by omega), IntWalk.wrap64_in (p + q) (by omega), IntWalk.wrap64_in r (by omega), IntWalk.wrap64_in _ (by omega)]
theorem far3_f {m x y z : Int} (h : farL m [x, y, z] = false) : -m ≤ x ∧ x ≤ m ∧ -m ≤ y ∧ y ≤ m ∧ -m ≤ z ∧ z ≤ m := by
  rw [farL_three, Bool.or_eq_false_iff, Bool.or_eq_false_iff, outB_f, outB_f, outB_f] at h
  omega
theorem far3_t {m x y z : Int} : farL m [x, y, z] = true ↔ outB x (-m) m = true ∨ outB y (-m) m = true ∨ outB z (-m) m = true := by
  rw [farL_three, Bool.or_eq_true, Bool.or_eq_true, or_assoc]
theorem dirErr_far {t x y z : Int} (h : farL 10000 [x, y, z] = true) : dirErr t ⟨x, y, z⟩ = 7 := if_pos (far3_t.1 h)
theorem dirErr_near {t x y z : Int} (h : farL 10000 [x, y, z] = false) : dirErr t ⟨x, y, z⟩ = if dotW ⟨x, y, z⟩ ⟨x, y, z⟩ < t then 2 else 0 := by
  have h1 := far3_f h
  have h2 := (dotW_eq (a := ⟨x, y, z⟩) (b := ⟨x, y, z⟩) ⟨h1.1, h1.2.1, h1.2.2.1, h1.2.2.2.1, h1.2.2.2.2.1, h1.2.2.2.2.2⟩ (by dsimp only; omega)).1
  unfold dirErr
  rw [if_neg (fun hh => by rw [far3_t.2 hh] at h; cases h), h2]
theorem senErr_none {n : Nat} {c x y z sc er : Int} {su : Bool} (h : outB c 0 ((n : Int) - 1) = true) : senErr n ⟨c, x, y, z, sc, er, su⟩ = 4 := if_pos h
theorem senErr_bad {n : Nat} {c x y z sc er : Int} {su : Bool} (h : outB c 0 ((n : Int) - 1) = false) (hb : farL 1000000 [x, y, z] = true ∨ outB sc 1 1000 = true ∨ outB er 0 1000000 = true) : senErr n ⟨c, x, y, z, sc, er, su⟩ = 7 := by
  unfold senErr
  dsimp only
  rw [if_neg (by rw [h]; decide), if_pos]
  rw [far3_t] at hb
  rcases hb with (h | h | h) | h | h
  · exact .inl h
  · exact .inr (.inl h)
  · exact .inr (.inr (.inl h))
  · exact .inr (.inr (.inr (.inl h)))
  · exact .inr (.inr (.inr (.inr h)))
theorem senErr_ok {n : Nat} {c x y z sc er : Int} {su : Bool} (h : outB c 0 ((n : Int) - 1) = false) (h1 : farL 1000000 [x, y, z] = false) (h2 : outB sc 1 1000 = false) (h3 : outB er 0 1000000 = false) : senErr n ⟨c, x, y, z, sc, er, su⟩ = 0 := by
  have hf := far3_f h1
  unfold senErr
  dsimp only
  rw [if_neg (by rw [h]; decide), if_neg]
  rintro (g | g | g | g | g)
  · rw [outB_t] at g; omega
  · rw [outB_t] at g; omega
  · rw [outB_t] at g; omega
  · rw [h2] at g; cases g
  · rw [h3] at g; cases g
set_option maxRecDepth 100000 in
set_option maxHeartbeats 4000000 in
/-- frame.CheckSky -/
theorem sky_any (v u : Value) (f : Fmt) (s : Sky) (w : World) (hv : FmtV w v f) (hu : SkyV w u s) :
    Calls Try.prog 40 #[v, u] w fun e w' => e = .returned (.tuple #[.int .i64 (skyOut f s).1, .int .i64 (skyOut f s).2]) ∧ Ext w w' := by
  have HV := hide hv
  obtain ⟨_, _, AF, capF, rfl, hfl, hfm, _⟩ := hv
  have hmf : f.channels.length ≤ 9223372036854775807 := by unfold maxLen at hfm; omega
  clear hfl hfm
  obtain ⟨dirs, turn, sens⟩ := s
  obtain ⟨A1, c1, A2, c2, rfl, hl1, hm1, hl2, hm2, hr1, hr2⟩ := hu
  dsimp only at *
  have hn1 : c1 ≤ 9223372036854775807 := by simpa [maxLen] using hm1
  have hn2 : c2 ≤ 9223372036854775807 := by simpa [maxLen] using hm2
  have HR1 := hide hr1
  have HR2 := hide hr2
  clear hm1 hm2 hr1 hr2
  obtain ⟨W0, hW0⟩ : ∃ W0, (w.alloc (.cells #[.string f.sync, .int .i64 f.words, .int .i64 f.depth, .slice AF f.channels.length capF] 28)).alloc (.cells #[.slice A1 dirs.length c1, .int .i64 turn, .slice A2 sens.length c2] 76) = W0 := ⟨_, rfl⟩
  have hx0 : Ext w W0 := by rw [← hW0]; exact ((Ext.refl w).alloc _).alloc _
  have g3 : W0.cell? ⟨w.heap.size, 3, none⟩ = some (.slice AF f.channels.length capF) := by rw [← hW0]; simp
  have s0 : W0.cell? ⟨w.heap.size + 1, 0, none⟩ = some (.slice A1 dirs.length c1) := by rw [← hW0]; simp
  have s1 : W0.cell? ⟨w.heap.size + 1, 1, none⟩ = some (.int .i64 turn) := by rw [← hW0]; simp
  have s2 : W0.cell? ⟨w.heap.size + 1, 2, none⟩ = some (.slice A2 sens.length c2) := by rw [← hW0]; simp
  have HX0 := hide hx0
  have HW0 := hide hW0
  clear hW0
  have HCH := hide (check_any _ f W0 (HV.out.ext hx0))
  clear hx0
  have HS : Hid (skyOut f ⟨dirs, turn, sens⟩ = if (chk f).2.2 ≠ 0 then (0, (chk f).2.2) else skyIn f.channels.length ⟨dirs, turn, sens⟩) := rfl
  generalize skyOut f ⟨dirs, turn, sens⟩ = out at *
  generalize chk f = ck at *
  obtain ⟨k1, k2, k3⟩ := ck
  dsimp only at HCH HS
  have G3 := hide g3
  have S0 := hide s0
  have S1 := hide s1
  have S2 := hide s2
  clear g3 s0 s1 s2
  go_enter Try.func40, Try.ntmps40
  go_wp2_with fail
  rw [HW0.out]
  refine Calls.mono HCH.out ?_
  rintro e w1 ⟨rfl, hx1⟩
  have g3 := hx1.cell G3.out
  have s0 := hx1.cell S0.out
  have s1 := hx1.cell S1.out
  have s2 := hx1.cell S2.out
  have HX1 := hide (HX0.out.trans hx1)
  clear hx1 HCH HX0 G3 S0 S1 S2 HV
  by_cases h0 : k3 = 0
  · subst h0
    have HS' := hide (show out = skyIn f.channels.length ⟨dirs, turn, sens⟩ by rw [HS.out]; simp)
    clear HS
    go_wp2_with fail
    refine (out_any _ _ _ _).mono ?_
    rintro e w2 ⟨rfl, rfl⟩
    cases ho1 : outB dirs.length 1 30 with
    | true =>
      have HS2 := hide (show out = (0, 3) by rw [HS'.out]; exact skyIn_len (.inl ho1))
      clear ho1
      go_wp2_with fail
      go_ret2
      exact ⟨by rw [HS2.out]; rfl, HX1.out⟩
    | false =>
      have HO1 := hide ho1
      clear ho1
      by_cases h6 : 6 < sens.length
      · have HS2 := hide (show out = (0, 3) by rw [HS'.out]; exact skyIn_len (.inr h6))
        go_wp2_with fail
        go_ret2
        exact ⟨by rw [HS2.out]; rfl, HX1.out⟩
      · go_wp2_with fail
        refine (out_any _ _ _ _).mono ?_
        rintro e w2 ⟨rfl, rfl⟩
        cases ho2 : outB turn (-100000000) 100000000 with
        | true =>
          have HS2 := hide (show out = (0, 7) by rw [HS'.out]; exact skyIn_turn HO1.out h6 ho2)
          clear ho2
          go_wp2_with fail
          go_ret2
          exact ⟨by rw [HS2.out]; rfl, HX1.out⟩
        | false =>
          have HPRE := hide (show SkyPre ⟨dirs, turn, sens⟩ from ⟨HO1.out, h6, ho2⟩)
          have hl30 := outB_f.1 HO1.out
          clear ho2 HO1
          go_wp2_with fail
          go_loopw [42] (fun i wr => Ext w1 wr ∧ ∃ k : Nat, k ≤ dirs.length ∧ i = .int .i64 k ∧ DirsOk ⟨dirs, turn, sens⟩ k) (fun i _ => dirs.length - (intOf i).toNat)
          case atStart => exact ⟨Ext.refl _, 0, by omega, rfl, fun j hj => absurd hj (by omega)⟩
          case round =>
            obtain ⟨hext, k, hk, rfl, hsame⟩ := hrel
            have HSA := hide hsame
            clear hsame
            have q1 := hext.cell s1
            by_cases h8 : k < dirs.length
            · obtain ⟨b, off, x, y, z, rfl, _, hc0, hc1, hc2, HX⟩ := dirs_at (HR1.out.ext (HX1.out.trans hext)) h8
              go_wp2_with fail
              refine (far_any 10000 _ [x, y, z] _ (by omega) (by omega) (IntsV.three' _ x y z (size_alloc _ _))).mono ?_
              rintro e w3 ⟨rfl, hx3⟩
              have hx3' : Ext wr w3 := (((Ext.refl wr).alloc _).alloc _).trans hx3
              have r0 : w3.cell? ⟨wr.heap.size, 0, none⟩ = some (.int .i64 x) := hx3.cell (by simp)
              have r1 : w3.cell? ⟨wr.heap.size, 1, none⟩ = some (.int .i64 y) := hx3.cell (by simp)
              have r2 : w3.cell? ⟨wr.heap.size, 2, none⟩ = some (.int .i64 z) := hx3.cell (by simp)
              have r3 := hx3'.cell q1
              have HX3 := hide (hext.trans hx3')
              clear hx3 hx3' hext q1
              cases hf : farL 10000 [x, y, z] with
              | true =>
                have HS2 := hide (show out = ((k : Int), 7) by rw [HS'.out]; exact skyIn_dir HPRE.out HSA.out h8 (by dsimp only; rw [HX.out]; exact dirErr_far hf) (by decide))
                clear hf
                go_wp2_with fail
                go_ret2
                exact ⟨by rw [HS2.out]; rfl, HX1.out.trans HX3.out⟩
              | false =>
                have HNE := hide (dirErr_near (t := turn) hf)
                clear hf
                have HTM := hide (times_any ⟨x, y, z⟩ ⟨x, y, z⟩)
                unfold Dir.val at HTM
                dsimp only at HTM
                go_wp2_with fail
                apply wp_region_det [59, 60, 61, 62, 63, 64, 58]
                  [_, _, _, _, _, _, _]
                · kernel_rfl
                · decide
                · rfl
                · kernel_rfl
                · decide +kernel
                · kernel_rfl
                · kernel_rfl
                · kernel_rfl
                · repeat
                    refine ⟨?_, ?_⟩
                    · intro x W hd hR
                      simp [Region.binds] at hd
                      refine ⟨fun _ K hK => ?_, by intro g b h hn; first | (cases h; done) | (cases h; exact absurd (by simp [hd]) hn)⟩
                      simp only [fill, Act.put, List.setIfInBounds_toArray, List.set_cons_succ, List.set_cons_zero, List.getD_cons_zero, List.getD_cons_succ] at hK ⊢
                      try simp only [hd] at hK ⊢
                      have p0 := hR.cell r0
                      have p1 := hR.cell r1
                      have p2 := hR.cell r2
                      have p3 := hR.cell r3
                      go_simp
                      first
                        | exact hK _ _ rfl (Ext.refl _)
                        | (refine (HTM.out _).mono ?_
                           rintro e w4 ⟨rfl, hx4⟩
                           exact hK _ _ rfl hx4)
                  exact trivial
                intro W hR
                simp only [fillL, List.setIfInBounds_toArray, List.set_cons_succ, List.set_cons_zero]
                by_cases ht : dotW ⟨x, y, z⟩ ⟨x, y, z⟩ < turn
                · have HS2 := hide (show out = ((k : Int), 2) by rw [HS'.out]; exact skyIn_dir HPRE.out HSA.out h8 (by dsimp only; rw [HX.out, HNE.out, if_pos ht]) (by decide))
                  go_wp2_with fail
                  go_ret2
                  exact ⟨by rw [HS2.out]; rfl, (HX1.out.trans HX3.out).trans hR⟩
                · have HE0 := hide (show dirErr turn (dirs.getD k default) = 0 by rw [HX.out, HNE.out, if_neg ht])
                  go_wp2_with fail
                  go_roundw
                  case rel => exact ⟨HX3.out.trans hR, k + 1, by omega, by go_num, HSA.out.succ HE0.out⟩
                  case measure => simp [intOf]; omega
            · obtain rfl : k = dirs.length := by omega
              have q0 := hext.cell g3
              have q2 := hext.cell s2
              have HXW := hide (HX1.out.trans hext)
              clear hext q1 h8
              go_wp2_with fail
              go_loopw [70] (fun i wq => Ext wr wq ∧ ∃ k : Nat, k ≤ sens.length ∧ i = .int .i64 k ∧ SensOk f.channels.length ⟨dirs, turn, sens⟩ k) (fun i _ => sens.length - (intOf i).toNat)
              case atStart => exact ⟨Ext.refl _, 0, by omega, rfl, fun j hj => absurd hj (by omega)⟩
              case round =>
                obtain ⟨hext, k, hk, rfl, hsens⟩ := hrel
                have HSE := hide hsens
                clear hsens
                have q3 := hext.cell q0
                have hb1 := World.block_lt_of_cell? _ _ (hext.cell q2)
                dsimp only at hb1
                have hb2 := World.block_lt_of_cell? _ _ q3
                dsimp only at hb2
                by_cases h8 : k < sens.length
                · obtain ⟨b, off, c, x, y, z, sc, er, su, rfl, _, hc0, hc1, hc2, hc3, hc4, hc5, hc6, HX⟩ := sens_at (HR2.out.ext (HXW.out.trans hext)) h8
                  go_wp2_with fail
                  refine (out_any _ _ _ _).mono ?_
                  rintro e w3 ⟨rfl, rfl⟩
                  cases ho3 : outB c 0 ((f.channels.length : Int) - 1) with
                  | true =>
                    have HS2 := hide (show out = ((k : Int), 4) by rw [HS'.out]; exact skyIn_sen HPRE.out HSA.out HSE.out h8 (by dsimp only; rw [HX.out]; exact senErr_none ho3) (by decide))
                    clear ho3
                    go_wp2_with fail
                    go_ret2
                    exact ⟨by rw [HS2.out]; rfl, (HXW.out.trans hext).alloc _⟩
                  | false =>
                    have HO3 := hide ho3
                    clear ho3
                    go_wp2_with fail
                    refine (far_any 1000000 _ [x, y, z] _ (by omega) (by omega) (IntsV.three' _ x y z (size_alloc _ _))).mono ?_
                    rintro e w3 ⟨rfl, hx3⟩
                    have hx3' := ((hext.alloc _).alloc _).trans hx3
                    have HX3 := hide (HXW.out.trans hx3')
                    have HX4 := hide hx3'
                    cases hf : farL 1000000 [x, y, z] with
                    | true =>
                      have HS2 := hide (show out = ((k : Int), 7) by rw [HS'.out]; exact skyIn_sen HPRE.out HSA.out HSE.out h8 (by dsimp only; rw [HX.out]; exact senErr_bad HO3.out (.inl hf)) (by decide))
                      clear hf hx3 hx3'
                      go_wp2_with fail
                      go_ret2
                      exact ⟨by rw [HS2.out]; rfl, HX3.out⟩
                    | false =>
                      have HF := hide hf
                      have r4 : w3.cell? ⟨wr.heap.size, 4, none⟩ = some (.int .i64 sc) := hx3.cell (by simp)
                      have r5 : w3.cell? ⟨wr.heap.size, 5, none⟩ = some (.int .i64 er) := hx3.cell (by simp)
                      clear hf hx3 hx3'
                      go_wp2_with fail
                      refine (out_any _ _ _ _).mono ?_
                      rintro e w4 ⟨rfl, rfl⟩
                      cases ho4 : outB sc 1 1000 with
                      | true =>
                        have HS2 := hide (show out = ((k : Int), 7) by rw [HS'.out]; exact skyIn_sen HPRE.out HSA.out HSE.out h8 (by dsimp only; rw [HX.out]; exact senErr_bad HO3.out (.inr (.inl ho4))) (by decide))
                        clear ho4
                        go_wp2_with fail
                        go_ret2
                        exact ⟨by rw [HS2.out]; rfl, HX3.out⟩
                      | false =>
                        have HO4 := hide ho4
                        clear ho4
                        go_wp2_with fail
                        refine (out_any _ _ _ _).mono ?_
                        rintro e w4 ⟨rfl, rfl⟩
                        cases ho5 : outB er 0 1000000 with
                        | true =>
                          have HS2 := hide (show out = ((k : Int), 7) by rw [HS'.out]; exact skyIn_sen HPRE.out HSA.out HSE.out h8 (by dsimp only; rw [HX.out]; exact senErr_bad HO3.out (.inr (.inr ho5))) (by decide))
                          clear ho5
                          go_wp2_with fail
                          go_ret2
                          exact ⟨by rw [HS2.out]; rfl, HX3.out⟩
                        | false =>
                          have HE0 := hide (show senErr f.channels.length (sens.getD k default) = 0 by rw [HX.out]; exact senErr_ok HO3.out HF.out HO4.out ho5)
                          clear ho5
                          go_wp2_with fail
                          go_roundw
                          case rel => exact ⟨HX4.out, k + 1, by omega, by go_num, HSE.out.succ HE0.out⟩
                          case measure => simp [intOf]; omega
                · obtain rfl : k = sens.length := by omega
                  have HS2 := hide (show out = (0, 0) by rw [HS'.out]; exact skyIn_ok HPRE.out HSA.out HSE.out)
                  go_wp2_with fail
                  go_ret2
                  exact ⟨by rw [HS2.out]; rfl, HXW.out.trans hext⟩
  · have hd : (k3 == 0) = false := by simp [h0]
    have hd' : (k3 != 0) = true := by simp [h0]
    have HS' := hide (show out = (0, k3) by rw [HS.out]; simp [h0])
    clear HS h0
    go_wp2_with fail
    go_ret2
    exact ⟨by rw [HS'.out]; rfl, HX1.out⟩
end Go.Proofs.Ytjnnkcnnandeeaa

