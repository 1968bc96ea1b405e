/- The walk of frame.reports. -/
import Derived.Test.YtjnnkcnnandeeaaWFits
namespace Go.Proofs.Ytjnnkcnnandeeaa
open Go.RowKit
def repAt (xs : List RepX) (i : Nat) : RepH := (xs.getD i default).1
/-- A report is of another length, or not behind the one before it. -/
def argB (f : Fmt) (xs : List RepX) (i : Nat) : Bool := decide (((repAt xs i).words.length : Int) ≠ f.words) || (decide (0 < i) && decide ((repAt xs i).num ≤ (repAt xs (i - 1)).num))
/-- A number, or a word, is out of range. -/
def rngB (r : RepH) : Bool := outB r.num 0 1000000 || badB r.words
/-- The reports are of too many numbers. -/
def longB (xs : List RepX) : Bool := decide (0 < xs.length) && decide (300 < (repAt xs (xs.length - 1)).num - (repAt xs 0).num)
def repErr (f : Fmt) (xs : List RepX) : Int :=
  if anyB (argB f xs) xs.length = true then 2 else if anyB (fun i => rngB (repAt xs i)) xs.length = true then 7 else if longB xs = true then 3 else 0
section
variable {f : Fmt} {xs : List RepX}
theorem repErr_2 {k : Nat} (hk : k < xs.length) (h : argB f xs k = true) : repErr f xs = 2 := if_pos (anyB_t.2 ⟨k, hk, h⟩)
theorem repErr_7 (h0 : ∀ j, j < xs.length → argB f xs j = false) {k : Nat} (hk : k < xs.length) (h : rngB (repAt xs k) = true) : repErr f xs = 7 := by
  unfold repErr
  rw [if_neg (by rw [anyB_f.2 h0]; decide), if_pos (anyB_t.2 ⟨k, hk, h⟩)]
theorem repErr_3 (h0 : ∀ j, j < xs.length → argB f xs j = false) (h1 : ∀ j, j < xs.length → rngB (repAt xs j) = false) : repErr f xs = if longB xs = true then 3 else 0 := by
  unfold repErr
  rw [if_neg (by rw [anyB_f.2 h0]; decide), if_neg (by rw [anyB_f.2 h1]; decide)]
theorem rng_f {r : RepH} (h : rngB r = false) : 0 ≤ r.num ∧ r.num ≤ 1000000 := by
  unfold rngB at h
  rw [Bool.or_eq_false_iff, outB_f] at h
  exact h.1
end
set_option maxRecDepth 100000 in
set_option maxHeartbeats 4000000 in
/-- frame.reports -/
theorem reports_any (v u : Value) (f : Fmt) (xs : List RepX) (w : World) (hv : FmtV w v f) (hu : RepsV w u xs) :
    Calls Try.prog 87 #[v, u] w fun e w' => e = .returned (.int .i64 (repErr f xs)) ∧ Ext w w' := by
  obtain ⟨_, _, AF, capF, rfl, hcF, hmF, hrF⟩ := hv
  obtain ⟨A, cap, rfl, hcap, hmax, hrow, hwx⟩ := hu
  have hmx : cap ≤ 9223372036854775807 := by simpa [maxLen] using hmax
  have HROW := hide hrow
  have HWX := hide hwx
  have HE2 := hide (fun k => @repErr_2 f xs k)
  have HE7 := hide (fun h0 k => @repErr_7 f xs h0 k)
  have HE3 := hide (@repErr_3 f xs)
  generalize repErr f xs = er at *
  obtain ⟨W0, hW0⟩ : ∃ W0, w.alloc (.cells #[.string f.sync, .int .i64 f.words, .int .i64 f.depth, .slice AF f.channels.length capF] 28) = W0 := ⟨_, rfl⟩
  have hx0 : Ext w W0 := by rw [← hW0]; exact (Ext.refl w).alloc _
  have g1 : W0.cell? ⟨w.heap.size, 1, none⟩ = some (.int .i64 f.words) := by rw [← hW0]; simp
  have HX0 := hide hx0
  have HW0 := hide hW0
  clear hx0 hW0 hmF hrF hmax hrow hwx
  go_enter Try.func87, Try.ntmps87
  go_wp2_with fail
  rw [HW0.out]
  go_loopw [12] (fun v12 wr => Ext W0 wr ∧ ∃ k : Nat, k ≤ xs.length ∧ v12 = .int .i64 k ∧ Hid (∀ j, j < k → argB f xs j = false)) (fun v12 _ => xs.length - (intOf v12).toNat)
  case atStart => exact ⟨Ext.refl _, 0, by omega, rfl, hide (fun j hj => absurd hj (by omega))⟩
  case round =>
    obtain ⟨hE, k, hk, rfl, HSA⟩ := hrel
    have HXR := hide (HX0.out.trans hE)
    have e1 := hE.cell g1
    have hb0 := World.block_lt_of_cell? _ _ e1
    dsimp only at hb0
    by_cases h8 : k < xs.length
    · obtain ⟨b, off, r, Bw, m, cw, hA, hbb, c0, c1, c2, c3, c4, hiw, HR⟩ := reps_row (HROW.out.ext HXR.out) (fun x hx => (HWX.out x hx).ext HXR.out) h8
      subst hA
      obtain ⟨Bw', cw', ew, hcw, hmw, _⟩ := hiw
      injection ew with e5 e6 e7
      subst e5 e6 e7
      have hmw' : cw ≤ 9223372036854775807 := by simpa [maxLen] using hmw
      have HAR := hide (show argB f xs k = (decide ((r.words.length : Int) ≠ f.words) || (decide (0 < k) && decide (r.num ≤ (repAt xs (k - 1)).num))) by unfold argB; rw [show repAt xs k = r from HR.out])
      clear hmw
      by_cases hl : (r.words.length : Int) = f.words
      · have hd1 : ((r.words.length : Int) != f.words) = false := by simp [hl]
        have hd1' : decide ((r.words.length : Int) ≠ f.words) = false := by simp [hl]
        rw [hd1'] at HAR
        clear hd1' hl
        by_cases hk0 : 0 < k
        · obtain ⟨b', off', r', Bw', m', cw', hA', _, c0', _, _, _, _, _, HR'⟩ := reps_row (HROW.out.ext HXR.out) (fun x hx => (HWX.out x hx).ext HXR.out) (show k - 1 < xs.length by omega)
          injection hA' with hA'
          injection hA' with hA1 hA2
          subst hA1 hA2
          rw [show repAt xs (k - 1) = r' from HR'.out, decide_eq_true hk0] at HAR
          have hkm : IntKind.i64.wrap ((k : Int) - 1) = ((k - 1 : Nat) : Int) := by rw [IntKind.wrap_i64]; omega
          have HKM := hide hkm
          have hdk : decide ((0 : Int) < (k : Int)) = true := by simp; omega
          have hdk2 : decide (0 < k) = true := by simp; omega
          have hkl : k - 1 < xs.length := by omega
          clear hkm
          go_wp2_with fail
          obtain ⟨W1, hW1⟩ : ∃ W1, wr.alloc (.cells #[.int .i64 r.num, .int .i64 r.frm, .int .i64 r.agr, .bool r.marked, .slice Bw r.words.length cw] 97) = W1 := ⟨_, rfl⟩
          have x0 : W1.cell? ⟨wr.heap.size, 0, none⟩ = some (.int .i64 r.num) := by rw [← hW1]; exact cell_mk wr _ 97 0 _ rfl
          have x4 : W1.cell? ⟨wr.heap.size, 4, none⟩ = some (.slice Bw r.words.length cw) := by rw [← hW1]; exact cell_mk wr _ 97 4 _ rfl
          have hx1 : Ext wr W1 := by rw [← hW1]; exact (Ext.refl _).alloc _
          have e1' := hx1.cell e1
          have y0 := hx1.cell c0'
          rw [hW1]
          have HE1 := hide (hE.trans hx1)
          clear hx1 hW1
          apply wp_region_f (17 :: 18 :: 19 :: 20 :: 21 :: 22 :: 23 :: 24 :: 25 :: 26 :: 27 :: 28 :: 29 :: 30 :: 31 :: 32 :: 33 :: 34 :: 35 :: 36 :: 37 :: [])
            (.is _ :: .is _ :: .is _ :: .is _ :: .is _ :: .is _ :: .is _ :: .is _ :: .is _ :: .is _ :: .is _ :: .is _ :: .is _ :: .is _ :: .is _ :: .is _ :: .is _ :: .is _ :: .is _ :: .is _ :: .is _ :: [])
            [(1, _), (2, _), (5, _), (6, _)]
          · kernel_rfl
          · decide
          · rfl
          · kernel_rfl
          · decide +kernel
          · kernel_rfl
          · kernel_rfl
          · kernel_rfl
          · kernel_rfl
          · rfl
          · exact ⟨trivial, trivial, trivial, trivial, trivial, trivial, trivial, trivial, trivial, trivial, trivial, trivial, trivial, trivial, trivial, trivial, trivial, trivial, trivial, trivial, trivial, trivial⟩
          · refine ⟨?_, ?_, ?_, ?_, trivial⟩ <;> (simp; rfl)
          · repeat
              refine ⟨?_, ?_⟩
              · intro F W hF hd hR
                simp [fixedAt] at hF
                obtain ⟨t1, t2, t5, t6⟩ := hF
                simp [Region.binds, Ent.holds] at hd
                refine ⟨fun _ K hK => ?_, by intro g b h hn; first | (cases h; done) | (cases h; exact absurd (by simp [hd]) hn)⟩
                simp only [Ent.holds, List.getD_cons_zero, List.getD_cons_succ] at hK
                have q1 := hR.cell e1'
                have q2 := hR.cell x0
                have q3 := hR.cell x4
                have q4 := hR.cell y0
                have m1 := HKM.out
                go_simp
                first
                  | exact hK _ _ rfl (Ext.refl _)
            exact trivial
          intro X W hx hR
          simp only [toldX] at hx
          simp only [fillX, List.setIfInBounds_toArray, List.set_cons_succ, List.set_cons_zero]
          have HE5 := hide (HE1.out.trans hR)
          clear hx hR
          by_cases hle : r.num ≤ r'.num
          · have hl1 : decide (r.num ≤ r'.num) = true := by simp [hle]
            have HF := hide (HE2.out k h8 (by rw [HAR.out, hl1]; rfl))
            go_wp2_with fail
            go_ret
            exact ⟨ret_int HF.out.symm, HX0.out.trans HE5.out⟩
          · have hl1 : decide (r.num ≤ r'.num) = false := by simp [hle]
            go_wp2_with fail
            go_roundw
            case rel => exact ⟨HE5.out, k + 1, by omega, by go_num, hide (fun j hj => by
              by_cases hjk : j = k
              · rw [hjk, HAR.out, hl1]; rfl
              · exact HSA.out j (by omega))⟩
            case measure => simp [intOf]; omega
        · have hdk : decide ((0 : Int) < (k : Int)) = false := by simp; omega
          have hdk2 : decide (0 < k) = false := by simp; omega
          rw [decide_eq_false hk0] at HAR
          go_wp2_with fail
          obtain ⟨W1, hW1⟩ : ∃ W1, wr.alloc (.cells #[.int .i64 r.num, .int .i64 r.frm, .int .i64 r.agr, .bool r.marked, .slice Bw r.words.length cw] 97) = W1 := ⟨_, rfl⟩
          have x0 : W1.cell? ⟨wr.heap.size, 0, none⟩ = some (.int .i64 r.num) := by rw [← hW1]; exact cell_mk wr _ 97 0 _ rfl
          have x4 : W1.cell? ⟨wr.heap.size, 4, none⟩ = some (.slice Bw r.words.length cw) := by rw [← hW1]; exact cell_mk wr _ 97 4 _ rfl
          have hx1 : Ext wr W1 := by rw [← hW1]; exact (Ext.refl _).alloc _
          have e1' := hx1.cell e1
          rw [hW1]
          have HE1 := hide (hE.trans hx1)
          clear hx1 hW1
          apply wp_region_f (17 :: 18 :: 19 :: 20 :: 21 :: 22 :: 23 :: 24 :: 25 :: 26 :: 27 :: 28 :: 29 :: 30 :: 31 :: 32 :: 33 :: 34 :: 35 :: 36 :: 37 :: [])
            (.is _ :: .is _ :: .is _ :: .is _ :: .is _ :: .is _ :: .is _ :: .is _ :: .is _ :: .is _ :: .is _ :: .is _ :: .is _ :: .is _ :: .is _ :: .is _ :: .is _ :: .is _ :: .is _ :: .is _ :: .is _ :: [])
            [(1, _), (2, _), (5, _), (6, _)]
          · kernel_rfl
          · decide
          · rfl
          · kernel_rfl
          · decide +kernel
          · kernel_rfl
          · kernel_rfl
          · kernel_rfl
          · kernel_rfl
          · rfl
          · exact ⟨trivial, trivial, trivial, trivial, trivial, trivial, trivial, trivial, trivial, trivial, trivial, trivial, trivial, trivial, trivial, trivial, trivial, trivial, trivial, trivial, trivial, trivial⟩
          · refine ⟨?_, ?_, ?_, ?_, trivial⟩ <;> (simp; rfl)
          · repeat
              refine ⟨?_, ?_⟩
              · intro F W hF hd hR
                simp [fixedAt] at hF
                obtain ⟨t1, t2, t5, t6⟩ := hF
                simp [Region.binds, Ent.holds] at hd
                refine ⟨fun hgd K hK => ?_, by intro g b h hn; first | (cases h; done) | (cases h; refine absurd ?_ hn; simp [hd]; done) | (cases h; exact ⟨rfl, Ext.refl _⟩)⟩
                first
                  | (refine absurd (hgd _ _ rfl) ?_; simp [hd]; done)
                  | (refine absurd (hgd _ _ rfl) ?_; simp [hd]; simp [undef]; done)
                  | (simp only [Ent.holds, List.getD_cons_zero, List.getD_cons_succ] at hK
                     have q1 := hR.cell e1'
                     have q2 := hR.cell x0
                     have q3 := hR.cell x4
                     go_simp
                     first
                       | exact hK _ _ rfl (Ext.refl _))
            exact trivial
          intro X W hx hR
          simp only [toldX] at hx
          simp only [fillX, List.setIfInBounds_toArray, List.set_cons_succ, List.set_cons_zero]
          have HE5 := hide (HE1.out.trans hR)
          clear hx hR
          go_wp2_with fail
          go_roundw
          case rel => exact ⟨HE5.out, k + 1, by omega, by go_num, hide (fun j hj => by
            by_cases hjk : j = k
            · rw [hjk, HAR.out]; rfl
            · exact HSA.out j (by omega))⟩
          case measure => simp [intOf]; omega
      · have hd1 : ((r.words.length : Int) != f.words) = true := by simp [hl]
        have hd1' : decide ((r.words.length : Int) ≠ f.words) = true := by simp [hl]
        rw [hd1'] at HAR
        clear hd1' hl
        go_wp2_with fail
        obtain ⟨W1, hW1⟩ : ∃ W1, wr.alloc (.cells #[.int .i64 r.num, .int .i64 r.frm, .int .i64 r.agr, .bool r.marked, .slice Bw r.words.length cw] 97) = W1 := ⟨_, rfl⟩
        have x0 : W1.cell? ⟨wr.heap.size, 0, none⟩ = some (.int .i64 r.num) := by rw [← hW1]; exact cell_mk wr _ 97 0 _ rfl
        have x4 : W1.cell? ⟨wr.heap.size, 4, none⟩ = some (.slice Bw r.words.length cw) := by rw [← hW1]; exact cell_mk wr _ 97 4 _ rfl
        have hx1 : Ext wr W1 := by rw [← hW1]; exact (Ext.refl _).alloc _
        have e1' := hx1.cell e1
        rw [hW1]
        have HE1 := hide (hE.trans hx1)
        clear hx1 hW1
        apply wp_region_f (17 :: 18 :: 19 :: 20 :: 21 :: 22 :: 23 :: 24 :: 25 :: 26 :: 27 :: 28 :: 29 :: 30 :: 31 :: 32 :: 33 :: 34 :: 35 :: 36 :: 37 :: [])
          (.is _ :: .is _ :: .is _ :: .is _ :: .is _ :: .is _ :: .is _ :: .is _ :: .is _ :: .is _ :: .is _ :: .is _ :: .is _ :: .is _ :: .is _ :: .is _ :: .is _ :: .is _ :: .is _ :: .is _ :: .is _ :: [])
          [(1, _), (2, _), (5, _), (6, _)]
        · kernel_rfl
        · decide
        · rfl
        · kernel_rfl
        · decide +kernel
        · kernel_rfl
        · kernel_rfl
        · kernel_rfl
        · kernel_rfl
        · rfl
        · exact ⟨trivial, trivial, trivial, trivial, trivial, trivial, trivial, trivial, trivial, trivial, trivial, trivial, trivial, trivial, trivial, trivial, trivial, trivial, trivial, trivial, trivial, trivial⟩
        · refine ⟨?_, ?_, ?_, ?_, trivial⟩ <;> (simp; rfl)
        · repeat
            refine ⟨?_, ?_⟩
            · intro F W hF hd hR
              simp [fixedAt] at hF
              obtain ⟨t1, t2, t5, t6⟩ := hF
              simp [Region.binds, Ent.holds] at hd
              refine ⟨fun hgd K hK => ?_, by intro g b h hn; first | (cases h; done) | (cases h; refine absurd ?_ hn; simp [hd]; done) | (cases h; exact ⟨rfl, Ext.refl _⟩)⟩
              first
                | (refine absurd (hgd _ _ rfl) ?_; simp [hd]; done)
                | (refine absurd (hgd _ _ rfl) ?_; simp [hd]; simp [undef]; done)
                | (simp only [Ent.holds, List.getD_cons_zero, List.getD_cons_succ] at hK
                   have q1 := hR.cell e1'
                   have q2 := hR.cell x0
                   have q3 := hR.cell x4
                   go_simp
                   first
                     | exact hK _ _ rfl (Ext.refl _))
          exact trivial
        intro X W hx hR
        simp only [toldX] at hx
        simp only [fillX, List.setIfInBounds_toArray, List.set_cons_succ, List.set_cons_zero]
        have HE5 := hide (HE1.out.trans hR)
        clear hx hR
        have HF := hide (HE2.out k h8 (by rw [HAR.out]; rfl))
        go_wp2_with fail
        go_ret
        exact ⟨ret_int HF.out.symm, HX0.out.trans HE5.out⟩
    · obtain rfl : k = xs.length := by omega
      clear h8 hk
      go_wp2_with fail
      go_loopw [41] (fun v41 wq => Ext wr wq ∧ ∃ k : Nat, k ≤ xs.length ∧ v41 = .int .i64 k ∧ Hid (∀ j, j < k → rngB (repAt xs j) = false)) (fun v41 _ => xs.length - (intOf v41).toNat)
      case atStart => exact ⟨Ext.refl _, 0, by omega, rfl, hide (fun j hj => absurd hj (by omega))⟩
      case round =>
        obtain ⟨hE2, k, hk, rfl, HSB⟩ := hrel
        have HXQ := hide (HXR.out.trans hE2)
        by_cases h8 : k < xs.length
        · obtain ⟨b, off, r, Bw, m, cw, hA, hbb, c0, c1, c2, c3, c4, hiw, HR⟩ := reps_row (HROW.out.ext HXQ.out) (fun x hx => (HWX.out x hx).ext HXQ.out) h8
          subst hA
          have HIW := hide hiw
          obtain ⟨Bw', cw', ew, hcw, hmw, _⟩ := hiw
          injection ew with e5 e6 e7
          subst e5 e6 e7
          have HRB := hide (show rngB (repAt xs k) = (outB r.num 0 1000000 || badB r.words) by rw [show repAt xs k = r from HR.out]; rfl)
          have HBAD := hide (fun V hx => bad_any _ r.words V (HIW.out.ext hx))
          clear hmw
          go_wp2_with fail
          refine (out_any _ _ _ _).mono ?_
          rintro e w3 ⟨rfl, rfl⟩
          cases ho : outB r.num 0 1000000 with
          | true =>
            have HF := hide (HE7.out HSA.out k h8 (by rw [HRB.out, ho]; rfl))
            clear ho
            go_wp2_with fail
            go_ret
            exact ⟨ret_int HF.out.symm, HXQ.out.alloc _⟩
          | false =>
            have HO := hide ho
            clear ho
            go_wp2_with fail
            refine (HBAD.out _ ((Ext.refl _).alloc _)).mono ?_
            rintro e w4 ⟨rfl, hx4⟩
            have HE9 := hide ((hE2.alloc _).trans hx4)
            have HX9 := hide ((HXQ.out.alloc _).trans hx4)
            cases hb : badB r.words with
            | true =>
              have HF := hide (HE7.out HSA.out k h8 (by rw [HRB.out, HO.out, hb]; rfl))
              clear hb hx4
              go_wp2_with fail
              go_ret
              exact ⟨ret_int HF.out.symm, HX9.out⟩
            | false =>
              have HF := hide (show rngB (repAt xs k) = false by rw [HRB.out, HO.out, hb]; rfl)
              clear hb hx4
              go_wp2_with fail
              go_roundw
              case rel => exact ⟨HE9.out, k + 1, by omega, by go_num, hide (fun j hj => by
                by_cases hjk : j = k
                · rw [hjk]; exact HF.out
                · exact HSB.out j (by omega))⟩
              case measure => simp [intOf]; omega
        · obtain rfl : k = xs.length := by omega
          have HF := hide (HE3.out HSA.out HSB.out)
          clear h8 hk
          by_cases hn0 : 0 < xs.length
          · obtain ⟨b, off, r, _, _, _, hA, _, c0, _, _, _, _, _, HR⟩ := reps_row (HROW.out.ext HXQ.out) (fun x hx => (HWX.out x hx).ext HXQ.out) hn0
            obtain ⟨b', off', r', _, _, _, hA', _, c0', _, _, _, _, _, HR'⟩ := reps_row (HROW.out.ext HXQ.out) (fun x hx => (HWX.out x hx).ext HXQ.out) (show xs.length - 1 < xs.length by omega)
            subst hA
            injection hA' with hA'
            injection hA' with hA1 hA2
            subst hA1 hA2
            have b1 := rng_f (HSB.out 0 hn0)
            have b2 := rng_f (HSB.out (xs.length - 1) (by omega))
            rw [show repAt xs 0 = r from HR.out] at b1
            rw [show repAt xs (xs.length - 1) = r' from HR'.out] at b2
            have c0z := c0
            rw [Nat.zero_mul, Nat.add_zero] at c0z
            have HLG := hide (show longB xs = decide (300 < r'.num - r.num) by unfold longB; rw [decide_eq_true hn0, show repAt xs 0 = r from HR.out, show repAt xs (xs.length - 1) = r' from HR'.out]; simp)
            have HM1 := hide (show IntKind.i64.wrap ((xs.length : Int) - 1) = ((xs.length - 1 : Nat) : Int) by rw [IntKind.wrap_i64]; omega)
            have HM2 := hide (show IntKind.i64.wrap (r'.num - r.num) = r'.num - r.num by rw [IntKind.wrap_i64]; omega)
            have hdn : decide (0 < xs.length) = true := by simp; omega
            have hdn2 : decide ((0 : Int) < (xs.length : Int)) = true := by simp; omega
            have hnl : xs.length - 1 < xs.length := by omega
            go_wp2_with fail
            apply wp_region_f (56 :: 57 :: 58 :: 59 :: 60 :: 61 :: 62 :: 63 :: 64 :: 65 :: 66 :: 67 :: 68 :: 69 :: 70 :: 71 :: [])
              (.is _ :: .is _ :: .is _ :: .is _ :: .is _ :: .is _ :: .is _ :: .is _ :: .is _ :: .is _ :: .is _ :: .is _ :: .is _ :: .is _ :: .is _ :: .is _ :: [])
              [(1, _), (9, _)]
            · kernel_rfl
            · decide
            · rfl
            · kernel_rfl
            · decide +kernel
            · kernel_rfl
            · kernel_rfl
            · kernel_rfl
            · kernel_rfl
            · rfl
            · exact ⟨trivial, trivial, trivial, trivial, trivial, trivial, trivial, trivial, trivial, trivial, trivial, trivial, trivial, trivial, trivial, trivial, trivial⟩
            · refine ⟨?_, ?_, trivial⟩ <;> (simp; rfl)
            · repeat
                refine ⟨?_, ?_⟩
                · intro F W hF hd hR
                  simp [fixedAt] at hF
                  obtain ⟨t1, t9⟩ := hF
                  simp [Region.binds, Ent.holds] at hd
                  refine ⟨fun _ K hK => ?_, by intro g b h hn; first | (cases h; done) | (cases h; exact absurd (by simp [hd]) hn)⟩
                  simp only [Ent.holds, List.getD_cons_zero, List.getD_cons_succ] at hK
                  have q1 := hR.cell c0z
                  have q2 := hR.cell c0'
                  have m1 := HM1.out
                  have m2 := HM2.out
                  go_simp
                  first
                    | exact hK _ _ rfl (Ext.refl _)
              exact trivial
            intro X W hx hR
            simp only [toldX] at hx
            simp only [fillX, List.setIfInBounds_toArray, List.set_cons_succ, List.set_cons_zero]
            have HE5 := hide (HXQ.out.trans hR)
            clear hx hR
            by_cases hlg : 300 < r'.num - r.num
            · have HG := hide (show er = 3 by rw [HF.out, HLG.out, decide_eq_true hlg]; rfl)
              go_wp2_with fail
              go_ret
              exact ⟨ret_int HG.out.symm, HE5.out⟩
            · have HG := hide (show er = 0 by rw [HF.out, HLG.out, decide_eq_false hlg]; rfl)
              go_wp2_with fail
              go_ret
              exact ⟨ret_int HG.out.symm, HE5.out⟩
          · have HG := hide (show er = 0 by rw [HF.out]; unfold longB; rw [decide_eq_false hn0]; rfl)
            have hdn : decide (0 < xs.length) = false := decide_eq_false hn0
            have hdn2 : decide ((0 : Int) < (xs.length : Int)) = false := decide_eq_false (by omega)
            go_wp2_with fail
            apply wp_region_f (56 :: 57 :: 58 :: 59 :: 60 :: 61 :: 62 :: 63 :: 64 :: 65 :: 66 :: 67 :: 68 :: 69 :: 70 :: 71 :: [])
              (.is _ :: .is _ :: .is _ :: .is _ :: .is _ :: .is _ :: .is _ :: .is _ :: .is _ :: .is _ :: .is _ :: .is _ :: .is _ :: .is _ :: .is _ :: .is _ :: [])
              [(1, _), (9, _)]
            · kernel_rfl
            · decide
            · rfl
            · kernel_rfl
            · decide +kernel
            · kernel_rfl
            · kernel_rfl
            · kernel_rfl
            · kernel_rfl
            · rfl
            · exact ⟨trivial, trivial, trivial, trivial, trivial, trivial, trivial, trivial, trivial, trivial, trivial, trivial, trivial, trivial, trivial, trivial, trivial⟩
            · refine ⟨?_, ?_, trivial⟩ <;> (simp; rfl)
            · repeat
                refine ⟨?_, ?_⟩
                · intro F W hF hd hR
                  simp [fixedAt] at hF
                  obtain ⟨t1, t9⟩ := hF
                  simp [Region.binds, Ent.holds] at hd
                  refine ⟨fun hgd K hK => ?_, by intro g b h hn; first | (cases h; done) | (cases h; refine absurd ?_ hn; simp [hd]; done) | (cases h; exact ⟨rfl, Ext.refl _⟩)⟩
                  first
                    | (refine absurd (hgd _ _ rfl) ?_; simp [hd]; done)
                    | (refine absurd (hgd _ _ rfl) ?_; simp [hd]; simp [undef]; done)
                    | (simp only [Ent.holds, List.getD_cons_zero, List.getD_cons_succ] at hK
                       go_simp
                       first
                         | exact hK _ _ rfl (Ext.refl _))
              exact trivial
            intro X W hx hR
            simp only [toldX] at hx
            simp only [fillX, List.setIfInBounds_toArray, List.set_cons_succ, List.set_cons_zero]
            have HE5 := hide (HXQ.out.trans hR)
            clear hx hR
            go_wp2_with fail
            go_ret
            exact ⟨ret_int HG.out.symm, HE5.out⟩
end Go.Proofs.Ytjnnkcnnandeeaa

