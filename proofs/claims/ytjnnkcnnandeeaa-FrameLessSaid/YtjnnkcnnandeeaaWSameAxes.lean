/- Axes as values; the walk of the reference's SameAxes. -/
import Derived.Test.YtjnnkcnnandeeaaWFits
namespace Go.Proofs.Ytjnnkcnnandeeaa
open Go.RowKit
/-- A number, and the directions that are left; and the slice value of these. -/
abbrev AxH := Int × List Int
abbrev AxX := AxH × Value
def AxX.cell (x : AxX) : Nat → Value
  | 0 => .int .i64 x.1.1
  | _ => x.2
def AxesV (w : World) (v : Value) (xs : List AxX) : Prop :=
  ∃ A cap, v = .slice A xs.length cap ∧ xs.length ≤ cap ∧ cap ≤ maxLen ∧ Rows2 w A xs.length 2 (fun i k => (xs.getD i default).cell k) ∧ ∀ x ∈ xs, IntsV w .i64 x.2 x.1.2
theorem AxesV.cext {w w' : World} {v : Value} {xs : List AxX} (h : AxesV w v xs) (e : CExt w w') : AxesV w' v xs := by
  obtain ⟨A, cap, h1, h2, h3, h4, h5⟩ := h
  exact ⟨A, cap, h1, h2, h3, h4.cext e, fun x hx => (h5 x hx).cext e⟩
theorem AxesV.ext {w w' : World} {v : Value} {xs : List AxX} (h : AxesV w v xs) (e : Ext w w') : AxesV w' v xs := h.cext e.c
theorem axes_row {w : World} {A : Option Addr} {xs : List AxX} {k : Nat} (h : Rows2 w A xs.length 2 (fun i j => (xs.getD i default).cell j)) (hw : ∀ x ∈ xs, IntsV w .i64 x.2 x.1.2) (hk : k < xs.length) :
    ∃ b off n l B m cap, A = some ⟨b, off, none⟩ ∧ b < w.heap.size ∧ w.cell? ⟨b, off + k * 2, none⟩ = some (.int .i64 n) ∧ w.cell? ⟨b, off + k * 2 + 1, none⟩ = some (.slice B m cap) ∧ IntsV w .i64 (.slice B m cap) l ∧ Hid ((xs.getD k default).1 = (n, l)) := by
  obtain ⟨b, off, e, hb, hc⟩ := h (by omega)
  have hm := hw _ (show xs.getD k default ∈ xs by rw [List.getD_eq_getElem?_getD, List.getElem?_eq_getElem hk, Option.getD_some]; exact List.getElem_mem _)
  obtain ⟨B, cap, hv, h1, h2, h3⟩ := hm
  have h4 := hc k 1 hk (by omega)
  simp only [AxX.cell] at h4
  rw [hv] at h4
  exact ⟨b, off, _, _, B, _, cap, e, hb, hc k 0 hk (by omega), h4, ⟨B, cap, rfl, h1, h2, h3⟩, rfl⟩
def sameX (xs ys : List AxX) : Bool := decide (xs.map Prod.fst = ys.map Prod.fst)
section
variable {xs ys : List AxX}
theorem getD_fst {i : Nat} (h : i < xs.length) : (xs.map Prod.fst)[i]? = some (xs.getD i default).1 := by
  rw [List.getElem?_map, List.getD_eq_getElem?_getD, List.getElem?_eq_getElem h]; rfl
theorem sameX_len (h : xs.length ≠ ys.length) : sameX xs ys = false := by
  unfold sameX
  refine decide_eq_false fun e => h ?_
  have := congrArg List.length e
  simpa using this
theorem sameX_ne {i : Nat} (h1 : i < xs.length) (h2 : i < ys.length) (h : (xs.getD i default).1 ≠ (ys.getD i default).1) : sameX xs ys = false := by
  unfold sameX
  refine decide_eq_false fun e => h ?_
  have := congrArg (fun l => l[i]?) e
  try dsimp only at this
  rw [getD_fst h1, getD_fst h2] at this
  exact Option.some.inj this
theorem sameX_eq (hl : xs.length = ys.length) (h : ∀ i, i < xs.length → (xs.getD i default).1 = (ys.getD i default).1) : sameX xs ys = true := by
  unfold sameX
  refine decide_eq_true (List.ext_getElem? fun i => ?_)
  by_cases hi : i < xs.length
  · rw [getD_fst hi, getD_fst (by omega), h i hi]
  · rw [List.getElem?_eq_none (by simpa using hi), List.getElem?_eq_none (by simp; omega)]
end
set_option linter.unusedSimpArgs false in
set_option maxRecDepth 100000 in
set_option maxHeartbeats 4000000 in
/-- ref.SameAxes -/
theorem sameAxes_any (v u : Value) (xs ys : List AxX) (w : World) (hv : AxesV w v xs) (hu : AxesV w u ys) :
    Calls Try.prog 45 #[v, u] w fun e w' => e = .returned (.bool (sameX xs ys)) ∧ Ext w w' := by
  obtain ⟨A, cap, rfl, hcap, hmax, hrow, hwx⟩ := hv
  obtain ⟨B, cap2, rfl, hcap2, hmax2, hrow2, hwx2⟩ := hu
  have hmx : cap ≤ 9223372036854775807 := by simpa [maxLen] using hmax
  have hmx2 : cap2 ≤ 9223372036854775807 := by simpa [maxLen] using hmax2
  have HRA := hide hrow
  have HWA := hide hwx
  have HRB := hide hrow2
  have HWB := hide hwx2
  have HSL := hide (@sameX_len xs ys)
  have HSN := hide (fun i => @sameX_ne xs ys i)
  have HSE := hide (@sameX_eq xs ys)
  generalize sameX xs ys = sb at *
  clear hrow hwx hmax hrow2 hwx2 hmax2
  by_cases hl : xs.length = ys.length
  · have HL := hide hl
    rw [hl] at hcap
    rw [hl]
    clear hl
    go_enter Try.func45, Try.ntmps45
    go_wp2_with fail
    go_loopw [5] (fun v5 wr => Ext w wr ∧ ∃ k : Nat, k ≤ ys.length ∧ v5 = .int .i64 k ∧ Hid (∀ j, j < k → (xs.getD j default).1 = (ys.getD j default).1)) (fun v5 _ => ys.length - (intOf v5).toNat)
    case atStart => exact ⟨Ext.refl _, 0, by omega, rfl, hide (fun j hj => absurd hj (by omega))⟩
    case round =>
      obtain ⟨hE, k, hk, rfl, HSA⟩ := hrel
      have HE := hide hE
      by_cases h8 : k < ys.length
      · have hk1 : k < xs.length := by rw [HL.out]; exact h8
        have hk2 : k < ys.length := h8
        obtain ⟨b, off, na, la, Ba, ma, ca, rfl, hbb, c0, c1, hia, HA⟩ := axes_row (HRA.out.ext hE) (fun x hx => (HWA.out x hx).ext hE) hk1
        obtain ⟨b2, off2, nb, lb, Bb, mb, cb, rfl, hbb2, d0, d1, hib, HB⟩ := axes_row (HRB.out.ext hE) (fun x hx => (HWB.out x hx).ext hE) hk2
        have HII := hide (fun V (e : Ext wr V) => ints_any (.slice Ba ma ca) (.slice Bb mb cb) la lb V (hia.ext e) (hib.ext e))
        have HK1 := hide hk1
        have HK2 := hide hk2
        clear hia hib hk1 hk2 hE
        by_cases hna : na = nb
        · subst hna
          go_wp2_with fail
          apply wp_region_f (17 :: 18 :: 19 :: 20 :: 21 :: 22 :: 23 :: 24 :: 25 :: 26 :: 27 :: 28 :: 29 :: 30 :: 31 :: 32 :: 33 :: 34 :: 35 :: 36 :: 37 :: 38 :: 39 :: 40 :: 41 :: [])
            (.is _ :: .is _ :: .is _ :: .is _ :: .is _ :: .is _ :: .is _ :: .is _ :: .is _ :: .is _ :: .is _ :: .is _ :: .is _ :: .is _ :: .is _ :: .is _ :: .is _ :: .is _ :: .is _ :: .is _ :: .is _ :: .is _ :: .is _ :: .is _ :: .is _ :: [])
            [(0, _), (1, _), (5, _)]
          · kernel_rfl
          · decide
          · rfl
          · kernel_rfl
          · decide +kernel
          · kernel_rfl
          · kernel_rfl
          · kernel_rfl
          · kernel_rfl
          · rfl
          · exact ⟨trivial, trivial, trivial, trivial, trivial, trivial, trivial, trivial, trivial, trivial, trivial, trivial, trivial, trivial, trivial, trivial, trivial, trivial, trivial, trivial, trivial, trivial, trivial, trivial, trivial, trivial⟩
          · refine ⟨?_, ?_, ?_, trivial⟩ <;> (simp; rfl)
          · repeat
              refine ⟨?_, ?_⟩
              · intro F W hF hd hR
                simp [fixedAt] at hF
                obtain ⟨t0, t1, t5⟩ := hF
                simp [Region.binds, Ent.holds] at hd
                refine ⟨fun _ K hK => ?_, by intro g b h hn; first | (cases h; done) | (cases h; exact absurd (by simp [hd]) hn)⟩
                simp only [Ent.holds, List.getD_cons_zero, List.getD_cons_succ] at hK
                have r0 := hR.cell c0
                have r1 := hR.cell c1
                have r2 := hR.cell d0
                have r3 := hR.cell d1
                go_simp
                first
                  | exact hK _ _ rfl (Ext.refl _)
                  | (with_reducible refine (HII.out _ hR).mono ?_
                     rintro e w4 ⟨rfl, hx4⟩
                     exact hK _ _ rfl hx4)
            exact trivial
          intro X W hx hR
          simp only [toldX] at hx
          simp only [fillX, List.setIfInBounds_toArray, List.set_cons_succ, List.set_cons_zero]
          have HE5 := hide (HE.out.trans hR)
          clear hx hR
          by_cases hab : la = lb
          · have hdd : decide (la = lb) = true := by simp [hab]
            have HEQ := hide (show (xs.getD k default).1 = (ys.getD k default).1 by rw [HA.out, HB.out, hab])
            clear hab
            rw [hdd]
            go_wp2_with fail
            go_roundw
            case rel => exact ⟨HE5.out, k + 1, by omega, by go_num, hide (fun j hj => by
              by_cases hjk : j = k
              · rw [hjk]; exact HEQ.out
              · exact HSA.out j (by omega))⟩
            case measure => simp [intOf]; omega
          · have hdd : decide (la = lb) = false := by simp [hab]
            have HF := hide (HSN.out k HK1.out HK2.out (by rw [HA.out, HB.out]; intro e; exact hab (Prod.mk.inj e).2))
            clear hab
            rw [hdd]
            go_wp2_with fail
            go_ret
            exact ⟨ret_bool HF.out.symm, HE5.out⟩
        · have hnd : (na != nb) = true := by simp [hna]
          have HF := hide (HSN.out k HK1.out HK2.out (by rw [HA.out, HB.out]; intro e; exact hna (Prod.mk.inj e).1))
          go_wp2_with fail
          apply wp_region_f (17 :: 18 :: 19 :: 20 :: 21 :: 22 :: 23 :: 24 :: 25 :: 26 :: 27 :: 28 :: 29 :: 30 :: 31 :: 32 :: 33 :: 34 :: 35 :: 36 :: 37 :: 38 :: 39 :: 40 :: 41 :: [])
            (.is _ :: .is _ :: .is _ :: .is _ :: .is _ :: .is _ :: .is _ :: .is _ :: .is _ :: .is _ :: .is _ :: .is _ :: .is _ :: .is _ :: .is _ :: .is _ :: .is _ :: .is _ :: .is _ :: .is _ :: .is _ :: .is _ :: .is _ :: .is _ :: .is _ :: [])
            [(0, _), (1, _), (5, _)]
          · kernel_rfl
          · decide
          · rfl
          · kernel_rfl
          · decide +kernel
          · kernel_rfl
          · kernel_rfl
          · kernel_rfl
          · kernel_rfl
          · rfl
          · exact ⟨trivial, trivial, trivial, trivial, trivial, trivial, trivial, trivial, trivial, trivial, trivial, trivial, trivial, trivial, trivial, trivial, trivial, trivial, trivial, trivial, trivial, trivial, trivial, trivial, trivial, trivial⟩
          · refine ⟨?_, ?_, ?_, trivial⟩ <;> (simp; rfl)
          · repeat
              refine ⟨?_, ?_⟩
              · intro F W hF hd hR
                simp [fixedAt] at hF
                obtain ⟨t0, t1, t5⟩ := hF
                simp [Region.binds, Ent.holds] at hd
                refine ⟨fun hgd K hK => ?_, by intro g b h hn; first | (cases h; done) | (cases h; refine absurd ?_ hn; simp [hd]; done) | (cases h; exact ⟨rfl, Ext.refl _⟩)⟩
                first
                  | (refine absurd (hgd _ _ rfl) ?_; simp [hd]; done)
                  | (refine absurd (hgd _ _ rfl) ?_; simp [hd]; simp [undef]; done)
                  | (simp only [Ent.holds, List.getD_cons_zero, List.getD_cons_succ] at hK
                     have r0 := hR.cell c0
                     have r1 := hR.cell c1
                     have r2 := hR.cell d0
                     have r3 := hR.cell d1
                     go_simp
                     first
                       | exact hK _ _ rfl (Ext.refl _)
                       | (with_reducible refine (HII.out _ hR).mono ?_
                          rintro e w4 ⟨rfl, hx4⟩
                          exact hK _ _ rfl hx4))
            exact trivial
          intro X W hx hR
          simp only [toldX] at hx
          simp only [fillX, List.setIfInBounds_toArray, List.set_cons_succ, List.set_cons_zero]
          have HE5 := hide (HE.out.trans hR)
          clear hx hR
          go_wp2_with fail
          go_ret
          exact ⟨ret_bool HF.out.symm, HE5.out⟩
      · have hkn : k = ys.length := by omega
        have HF := hide (HSE.out HL.out (fun j hj => HSA.out j (by rw [hkn, ← HL.out]; exact hj)))
        go_wp2_with fail
        go_ret
        exact ⟨ret_bool HF.out.symm, HE.out⟩
  · have hld2 : ((xs.length : Int) != (ys.length : Int)) = true := by simp; omega
    have HF := hide (HSL.out hl)
    go_enter Try.func45, Try.ntmps45
    go_wp2_with fail
    go_ret
    exact ⟨ret_bool HF.out.symm, Ext.refl _⟩
end Go.Proofs.Ytjnnkcnnandeeaa

