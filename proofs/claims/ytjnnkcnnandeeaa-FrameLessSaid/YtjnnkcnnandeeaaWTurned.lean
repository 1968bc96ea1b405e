/- Which directions are turned from those of a mask: the walk of frame.turned. -/
import Derived.Test.YtjnnkcnnandeeaaWRefTurns
import Derived.WalkMore
namespace Go.Proofs.Ytjnnkcnnandeeaa
open Go.RowKit
/-- The number whose bits below n are told by p. -/
def maskOf (p : Nat → Bool) : Nat → Nat
  | 0 => 0
  | k + 1 => if p k = true then maskOf p k ||| 2 ^ k else maskOf p k
theorem maskOf_lt (p : Nat → Bool) (n : Nat) : maskOf p n < 2 ^ n := by
  induction n with
  | zero => exact Nat.one_pos
  | succ k ih =>
    rw [maskOf]
    split
    · exact Nat.or_lt_two_pow (Nat.lt_of_lt_of_le ih (Nat.pow_le_pow_right (by omega) (by omega))) (Nat.pow_lt_pow_right (by omega) (by omega))
    · exact Nat.lt_of_lt_of_le ih (Nat.pow_le_pow_right (by omega) (by omega))
theorem maskOf_bit (p : Nat → Bool) (n j : Nat) : (maskOf p n).testBit j = (decide (j < n) && p j) := by
  induction n with
  | zero => simp [maskOf]
  | succ k ih =>
    rw [maskOf]
    by_cases hp : p k = true
    · rw [if_pos hp, Nat.testBit_or, ih, Nat.testBit_two_pow]
      by_cases hj : k = j
      · subst hj; simp [hp]
      · by_cases h1 : j < k
        · simp [h1, show j < k + 1 by omega, hj]
        · simp [h1, show ¬ j < k + 1 by omega, hj]
    · rw [if_neg hp, ih]
      by_cases hj : k = j
      · subst hj; simp [hp]
      · by_cases h1 : j < k
        · simp [h1, show j < k + 1 by omega]
        · simp [h1, show ¬ j < k + 1 by omega]
theorem ofInt_u32 (a : Nat) (ha : a < 4294967296) : (BitVec.ofInt 32 (a : Int)).toNat = a := by
  rw [BitVec.ofInt_natCast, BitVec.toNat_ofNat]; exact Nat.mod_eq_of_lt (by omega)
theorem u32_and_nat (a b : Nat) (ha : a < 4294967296) (hb : b < 4294967296) : bits .and .u32 (a : Int) (b : Int) = ((a &&& b : Nat) : Int) := by
  have hx : a &&& b < 2 ^ 32 := Nat.and_lt_two_pow _ (by omega)
  show IntKind.u32.wrap ((BitVec.ofInt 32 (a : Int) &&& BitVec.ofInt 32 (b : Int)).toNat : Int) = _
  rw [BitVec.toNat_and, ofInt_u32 a ha, ofInt_u32 b hb, IntKind.wrap_u32]
  omega
theorem u32_or_nat (a b : Nat) (ha : a < 4294967296) (hb : b < 4294967296) : bits .or .u32 (a : Int) (b : Int) = ((a ||| b : Nat) : Int) := by
  have hx : a ||| b < 2 ^ 32 := Nat.or_lt_two_pow (by omega) (by omega)
  show IntKind.u32.wrap ((BitVec.ofInt 32 (a : Int) ||| BitVec.ofInt 32 (b : Int)).toNat : Int) = _
  rw [BitVec.toNat_or, ofInt_u32 a ha, ofInt_u32 b hb, IntKind.wrap_u32]
  omega
/-- The mask of the directions that the mask reaches. -/
def hitB (s : Sky) (mask k l : Nat) : Bool := mask.testBit l && nearB s l k
def upTo (s : Sky) (mask : Nat) : Nat → Nat := maskOf (fun k => anyB (hitB s mask k) s.dirs.length)
def turnedN (s : Sky) (mask : Nat) : Nat := upTo s mask s.dirs.length
theorem upTo_t {s : Sky} {mask k l : Nat} (hl : l < s.dirs.length) (h : hitB s mask k l = true) : upTo s mask (k + 1) = upTo s mask k ||| 2 ^ k := if_pos (anyB_t.2 ⟨l, hl, h⟩)
theorem upTo_f {s : Sky} {mask k : Nat} (h : ∀ l, l < s.dirs.length → hitB s mask k l = false) : upTo s mask (k + 1) = upTo s mask k := if_neg (by dsimp only; rw [anyB_f.2 h]; decide)
theorem upTo_lt (s : Sky) (mask k : Nat) (hk : k < 32) : upTo s mask k < 4294967296 := by
  have h := maskOf_lt (fun k => anyB (hitB s mask k) s.dirs.length) k
  have h1 := Nat.pow_lt_pow_right (a := 2) (by omega) hk
  have h2 : upTo s mask k < 2 ^ k := h
  omega
set_option linter.unusedSimpArgs false in
set_option maxRecDepth 100000 in
set_option maxHeartbeats 4000000 in
/-- frame.turned -/
theorem turned_any (u : Value) (s : Sky) (mask : Nat) (w : World) (hu : SkyV w u s) (hok : ∀ i, i < s.dirs.length → DirOk (s.dirs.getD i default)) (h30 : s.dirs.length ≤ 30) (hmk : mask < 4294967296) :
    Calls Try.prog 88 #[u, .int .u32 mask] w fun e w' => e = .returned (.int .u32 (turnedN s mask : Nat)) ∧ Ext w w' := by
  have HOK := hide hok
  obtain ⟨A1, c1, A2, c2, rfl, hl1, hm1, hl2, hm2, hr1, hr2⟩ := hu
  have hn1 : c1 ≤ 9223372036854775807 := by simpa [maxLen] using hm1
  have HR1 := hide hr1
  have HMK := hide hmk
  have HTN : Hid (turnedN s mask = upTo s mask s.dirs.length) := rfl
  have HM0 : Hid (upTo s mask 0 = 0) := rfl
  have HLT := hide (fun (k : Nat) => upTo_lt s mask k)
  have HTT := hide (fun (k l : Nat) => @upTo_t s mask k l)
  have HTF := hide (fun (k : Nat) => @upTo_f s mask k)
  generalize turnedN s mask = tn at *
  generalize upTo s mask = mo at *
  clear hok hm1 hm2 hr1 hr2 hl2 hmk
  obtain ⟨W0, hW0⟩ : ∃ W0, w.alloc (.cells #[.slice A1 s.dirs.length c1, .int .i64 s.turn, .slice A2 s.sens.length c2] 76) = W0 := ⟨_, rfl⟩
  have hx0 : Ext w W0 := by rw [← hW0]; exact (Ext.refl w).alloc _
  have g0 : W0.cell? ⟨w.heap.size, 0, none⟩ = some (.slice A1 s.dirs.length c1) := by rw [← hW0]; exact cell_mk w _ 76 0 _ rfl
  have g1 : W0.cell? ⟨w.heap.size, 1, none⟩ = some (.int .i64 s.turn) := by rw [← hW0]; exact cell_mk w _ 76 1 _ rfl
  have HX0 := hide hx0
  have HW0 := hide hW0
  clear hx0 hW0
  go_enter Try.func88, Try.ntmps88
  go_wp2_with fail
  rw [HW0.out]
  go_step3
  go_wp2_with fail
  go_step3
  go_wp2_with fail
  go_loopw [4, 12] (fun v4 v12 wr => Ext W0 wr ∧ ∃ k : Nat, k ≤ s.dirs.length ∧ v12 = .int .i64 k ∧ ∃ M : Nat, v4 = .int .u32 M ∧ Hid (M = mo k)) (fun _ v12 _ => s.dirs.length - (intOf v12).toNat)
  case atStart => exact ⟨Ext.refl _, 0, by omega, rfl, 0, rfl, hide HM0.out.symm⟩
  case round =>
    obtain ⟨hE, k, hk, rfl, M, rfl, HMO⟩ := hrel
    have HXR := hide (HX0.out.trans hE)
    have e0 := hE.cell g0
    have e1 := hE.cell g1
    have hb0 := World.block_lt_of_cell? _ _ e0
    dsimp only at hb0
    by_cases h8 : k < s.dirs.length
    · obtain ⟨bd', od', kx, ky, kz, rfl, hbd, hf0, hf1, hf2, HDK⟩ := dirs_at (HR1.out.ext HXR.out) h8
      have h32 : k < 32 := by omega
      go_wp2_with fail
      obtain ⟨W1, hW1⟩ : ∃ W1, wr.alloc (.cells #[.int .i64 kx, .int .i64 ky, .int .i64 kz] 94) = W1 := ⟨_, rfl⟩
      have x0 : W1.cell? ⟨wr.heap.size, 0, none⟩ = some (.int .i64 kx) := by rw [← hW1]; exact cell_mk wr _ 94 0 _ rfl
      have x1 : W1.cell? ⟨wr.heap.size, 1, none⟩ = some (.int .i64 ky) := by rw [← hW1]; exact cell_mk wr _ 94 1 _ rfl
      have x2 : W1.cell? ⟨wr.heap.size, 2, none⟩ = some (.int .i64 kz) := by rw [← hW1]; exact cell_mk wr _ 94 2 _ rfl
      have hx1 : Ext wr W1 := by rw [← hW1]; exact (Ext.refl _).alloc _
      have e0' := hx1.cell e0
      have e1' := hx1.cell e1
      rw [hW1]
      have HX1 := hide (HXR.out.trans hx1)
      have HE1 := hide (hE.trans hx1)
      clear hx1 hW1
      go_loopw [4, 20] (fun v4 v20 wq => Ext W1 wq ∧ ∃ l : Nat, l ≤ s.dirs.length ∧ v20 = .int .i64 l ∧ v4 = .int .u32 M ∧ Hid (∀ j, j < l → hitB s mask k j = false)) (fun _ v20 _ => s.dirs.length - (intOf v20).toNat)
      case atStart => exact ⟨Ext.refl _, 0, by omega, rfl, rfl, hide (fun j hj => absurd hj (by omega))⟩
      case round =>
        obtain ⟨hQ, l, hl, rfl, rfl, HSQ⟩ := hrel
        have HXQ := hide (HX1.out.trans hQ)
        have q0 := hQ.cell e0'
        have q1 := hQ.cell e1'
        have y0 := hQ.cell x0
        have y1 := hQ.cell x1
        have y2 := hQ.cell x2
        have hb1 := World.block_lt_of_cell? _ _ q0
        have hb2 := World.block_lt_of_cell? _ _ y0
        dsimp only at hb1 hb2
        by_cases h9 : l < s.dirs.length
        · obtain ⟨bd2, od2, lx, ly, lz, e5, _, hd0, hd1, hd2, HDL⟩ := dirs_at (HR1.out.ext HXQ.out) h9
          injection e5 with e5
          injection e5 with e51 e52
          subst e51 e52
          have HDT := hide (show dotW ⟨lx, ly, lz⟩ ⟨kx, ky, kz⟩ = dotI ⟨lx, ly, lz⟩ ⟨kx, ky, kz⟩ by rw [← HDL.out, ← HDK.out]; exact dotD (HOK.out _ h9) (HOK.out _ h8))
          have HNB := hide (show nearB s l k = decide (s.turn ≤ dotI ⟨lx, ly, lz⟩ ⟨kx, ky, kz⟩) by unfold nearB; rw [HDL.out, HDK.out])
          have HPR := hide (fun V => times_any ⟨lx, ly, lz⟩ ⟨kx, ky, kz⟩ V)
          rw [HDT.out] at HPR
          unfold Dir.val at HPR
          dsimp only at HPR
          generalize dotI _ _ = p at *
          clear HDT
          have h32' : l < 32 := by omega
          go_wp2_with fail
          obtain ⟨W2, hW2⟩ : ∃ W2, wr.alloc (.cells #[.int .i64 lx, .int .i64 ly, .int .i64 lz] 94) = W2 := ⟨_, rfl⟩
          have z0 : W2.cell? ⟨wr.heap.size, 0, none⟩ = some (.int .i64 lx) := by rw [← hW2]; exact cell_mk wr _ 94 0 _ rfl
          have z1 : W2.cell? ⟨wr.heap.size, 1, none⟩ = some (.int .i64 ly) := by rw [← hW2]; exact cell_mk wr _ 94 1 _ rfl
          have z2 : W2.cell? ⟨wr.heap.size, 2, none⟩ = some (.int .i64 lz) := by rw [← hW2]; exact cell_mk wr _ 94 2 _ rfl
          have hx2 : Ext wr W2 := by rw [← hW2]; exact (Ext.refl _).alloc _
          have q0' := hx2.cell q0
          have q1' := hx2.cell q1
          have y0' := hx2.cell y0
          have y1' := hx2.cell y1
          have y2' := hx2.cell y2
          rw [hW2]
          have HQ2 := hide (hQ.trans hx2)
          clear hx2 hW2
          obtain ⟨q, hq⟩ : ∃ q, mask / 2 ^ l = q := ⟨_, rfl⟩
          have HQ := hide hq
          have HSH := hide (show ((mask : Int) / 2 ^ l) = (q : Int) by
            rw [← hq, Int.natCast_ediv]
            simp)
          have hq32 : q < 4294967296 := by rw [← hq]; exact Nat.lt_of_le_of_lt (Nat.div_le_self _ _) HMK.out
          have HAN := hide (show bits .and .u32 ((mask : Int) / 2 ^ l) 1 = ((q % 2 : Nat) : Int) by rw [HSH.out, show (1 : Int) = ((1 : Nat) : Int) from rfl, u32_and_nat q 1 hq32 (by omega), Nat.and_one_is_mod])
          have HTB := hide (show mask.testBit l = decide (q % 2 = 1) by rw [Nat.testBit_eq_decide_div_mod_eq, hq])
          clear hq hq32
          by_cases hq2 : q % 2 = 1
          · rw [hq2] at HAN
            rw [hq2] at HTB
            have hgt : (0 < bits .and .u32 ((mask : Int) / 2 ^ l) 1) = True := by rw [HAN.out]; simp
            apply wp_region_f (25 :: 26 :: 27 :: 28 :: 29 :: 30 :: 31 :: 32 :: 33 :: 34 :: 35 :: 36 :: 37 :: [])
              (.is _ :: .is _ :: .is _ :: .is _ :: .is _ :: .is _ :: .is _ :: .is _ :: .is _ :: .is _ :: .is _ :: .is _ :: .is _ :: [])
              [(1, _), (2, _), (6, _), (7, _), (8, _)]
            · kernel_rfl
            · decide
            · rfl
            · kernel_rfl
            · decide +kernel
            · kernel_rfl
            · kernel_rfl
            · kernel_rfl
            · kernel_rfl
            · rfl
            · exact ⟨trivial, trivial, trivial, trivial, trivial, trivial, trivial, trivial, trivial, trivial, trivial, trivial, trivial, trivial⟩
            · refine ⟨?_, ?_, ?_, ?_, ?_, trivial⟩ <;> (simp; rfl)
            · repeat
                refine ⟨?_, ?_⟩
                · intro F W hF hd hR
                  simp [fixedAt] at hF
                  obtain ⟨t1, t2, t6, t7, t8⟩ := hF
                  simp [Region.binds, Ent.holds] at hd
                  refine ⟨fun _ K hK => ?_, by intro g b h hn; first | (cases h; done) | (cases h; exact absurd (by simp [hd, hgt]) hn)⟩
                  simp only [Ent.holds, List.getD_cons_zero, List.getD_cons_succ] at hK
                  have r0 := hR.cell q0'
                  have r1 := hR.cell q1'
                  have r2 := hR.cell y0'
                  have r3 := hR.cell y1'
                  have r4 := hR.cell y2'
                  have r5 := hR.cell z0
                  have r6 := hR.cell z1
                  have r7 := hR.cell z2
                  go_simp
                  first
                    | exact hK _ _ rfl (Ext.refl _)
                    | (with_reducible refine (HPR.out _).mono ?_
                       rintro e w4 ⟨rfl, hx4⟩
                       exact hK _ _ rfl hx4)
              exact trivial
            intro X W hx hR
            simp only [toldX] at hx
            simp only [fillX, List.setIfInBounds_toArray, List.set_cons_succ, List.set_cons_zero]
            have HE5 := hide (HE1.out.trans (HQ2.out.trans hR))
            have HQ5 := hide (HQ2.out.trans hR)
            clear hx hR
            by_cases hle : s.turn ≤ p
            · have hl1 : decide (s.turn ≤ p) = true := by simp [hle]
              have HHB := hide (show hitB s mask k l = true by unfold hitB; rw [HTB.out, HNB.out, hl1]; rfl)
              have HUP := hide (HTT.out k l h9 HHB.out)
              have h2k : 2 ^ k < 4294967296 := Nat.pow_lt_pow_right (a := 2) (n := 32) (by omega) h32
              have hM32 : M < 4294967296 := by rw [HMO.out]; exact HLT.out k h32
              have HOR := hide (show bits .or .u32 (M : Int) (2 ^ k % 4294967296) = ((M ||| 2 ^ k : Nat) : Int) by
                rw [show ((2 : Int) ^ k % 4294967296) = ((2 ^ k : Nat) : Int) by
                  have e : ((2 : Int) ^ k) = ((2 ^ k : Nat) : Int) := by simp
                  rw [e]
                  generalize (2 ^ k : Nat) = z at h2k ⊢
                  omega]
                exact u32_or_nat M (2 ^ k) hM32 h2k)
              clear hM32 h2k
              go_wp2_with fail
              exact ⟨⟨HE5.out, k + 1, by omega, by go_num, M ||| 2 ^ k, by rw [HOR.out], hide (by rw [HUP.out, HMO.out])⟩, by simp [intOf]; omega⟩
            · have hl1 : decide (s.turn ≤ p) = false := by simp [hle]
              have HHB := hide (show hitB s mask k l = false by unfold hitB; rw [HTB.out, HNB.out, hl1]; rfl)
              go_wp2_with fail
              go_roundw
              case rel => exact ⟨HQ5.out, l + 1, by omega, by go_num, rfl, hide (fun j hj => by
                by_cases hjl : j = l
                · rw [hjl]; exact HHB.out
                · exact HSQ.out j (by omega))⟩
              case measure => simp [intOf]; omega
          · have hq0 : q % 2 = 0 := by omega
            rw [hq0] at HAN
            rw [decide_eq_false hq2] at HTB
            have HHB := hide (show hitB s mask k l = false by unfold hitB; rw [HTB.out]; rfl)
            have hgt : (0 < bits .and .u32 ((mask : Int) / 2 ^ l) 1) = False := by rw [HAN.out]; simp
            apply wp_region_f (25 :: 26 :: 27 :: 28 :: 29 :: 30 :: 31 :: 32 :: 33 :: 34 :: 35 :: 36 :: 37 :: [])
              (.is _ :: .is _ :: .is _ :: .is _ :: .is _ :: .is _ :: .is _ :: .is _ :: .is _ :: .is _ :: .is _ :: .is _ :: .is _ :: [])
              [(1, _), (2, _), (6, _), (7, _), (8, _)]
            · kernel_rfl
            · decide
            · rfl
            · kernel_rfl
            · decide +kernel
            · kernel_rfl
            · kernel_rfl
            · kernel_rfl
            · kernel_rfl
            · rfl
            · exact ⟨trivial, trivial, trivial, trivial, trivial, trivial, trivial, trivial, trivial, trivial, trivial, trivial, trivial, trivial⟩
            · refine ⟨?_, ?_, ?_, ?_, ?_, trivial⟩ <;> (simp; rfl)
            · repeat
                refine ⟨?_, ?_⟩
                · intro F W hF hd hR
                  simp [fixedAt] at hF
                  obtain ⟨t1, t2, t6, t7, t8⟩ := hF
                  simp [Region.binds, Ent.holds] at hd
                  refine ⟨fun hgd K hK => ?_, by intro g b h hn; first | (cases h; done) | (cases h; refine absurd ?_ hn; simp [hd, hgt]; done) | (cases h; exact ⟨rfl, Ext.refl _⟩)⟩
                  first
                    | (refine absurd (hgd _ _ rfl) ?_; simp [hd, hgt]; done)
                    | (refine absurd (hgd _ _ rfl) ?_; simp [hd, hgt]; simp [undef]; done)
                    | (simp only [Ent.holds, List.getD_cons_zero, List.getD_cons_succ] at hK
                       have r0 := hR.cell q0'
                       have r1 := hR.cell q1'
                       have r2 := hR.cell y0'
                       have r3 := hR.cell y1'
                       have r4 := hR.cell y2'
                       have r5 := hR.cell z0
                       have r6 := hR.cell z1
                       have r7 := hR.cell z2
                       go_simp
                       first
                         | exact hK _ _ rfl (Ext.refl _)
                         | (with_reducible refine (HPR.out _).mono ?_
                            rintro e w4 ⟨rfl, hx4⟩
                            exact hK _ _ rfl hx4))
              exact trivial
            intro X W hx hR
            simp only [toldX] at hx
            simp only [fillX, List.setIfInBounds_toArray, List.set_cons_succ, List.set_cons_zero]
            have HQ5 := hide (HQ2.out.trans hR)
            clear hx hR
            go_wp2_with fail
            go_roundw
            case rel => exact ⟨HQ5.out, l + 1, by omega, by go_num, rfl, hide (fun j hj => by
              by_cases hjl : j = l
              · rw [hjl]; exact HHB.out
              · exact HSQ.out j (by omega))⟩
            case measure => simp [intOf]; omega
        · have hln : l = s.dirs.length := by omega
          have HUP := hide (HTF.out k (fun j hj => HSQ.out j (by omega)))
          have HEQ := hide (HE1.out.trans hQ)
          go_wp2_with fail
          go_roundw
          case rel => exact ⟨HEQ.out, k + 1, by omega, by go_num, M, rfl, hide (by rw [HUP.out]; exact HMO.out)⟩
          case measure => simp [intOf]; omega
    · have hik : k = s.dirs.length := by omega
      go_wp2_with fail
      rw [Exit.noGoto_ret]
      go_ret
      exact ⟨ret_int (k := .u32) (by rw [HTN.out, HMO.out, hik]), HXR.out⟩
end Go.Proofs.Ytjnnkcnnandeeaa

