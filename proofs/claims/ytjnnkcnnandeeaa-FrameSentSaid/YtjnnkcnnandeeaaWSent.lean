/- The walk of the statement FrameSent. -/
import Derived.Test.YtjnnkcnnandeeaaWAwake
import Derived.Test.YtjnnkcnnandeeaaPSent
import Derived.Test.YtjnnkcnnandeeaaWSame
import Derived.Test.YtjnnkcnnandeeaaDet
namespace Go.Proofs.Ytjnnkcnnandeeaa
open Go.RowKit
namespace FrameSentLaw
def StV (V lv ws : Value) (k b off c : Nat) (own : List Nat) : Nat → Value → World → Prop
  | 0, v, _ => v = V
  | 1, v, _ => v = lv
  | 2, v, _ => v = .int .i64 (k : Nat)
  | 3, v, _ => v = .pointer (some ⟨b, off + k * 3, none⟩)
  | 4, v, _ => v = .pointer (some ⟨b, off + k * 3 + 1, none⟩)
  | 5, v, _ => v = .int .i64 (c : Nat)
  | 6, v, _ => v = lv
  | 7, v, _ => v = .int .i64 (k : Nat)
  | 8, v, _ => v = .pointer (some ⟨b, off + k * 3, none⟩)
  | 9, v, _ => v = .pointer (some ⟨b, off + k * 3 + 2, none⟩)
  | 10, v, _ => v = ws
  | 11, v, w => ∃ r, v = .tuple #[r, .int .i64 0] ∧ BytesV w r own
  | 12, v, w => ∃ r, v = .tuple #[r, .int .i64 0] ∧ BytesV w r own
  | 13, v, w => BytesV w v own
  | 15, v, w => BytesV w v own
  | _, v, _ => v = .int .i64 0
theorem StV.mono {V lv ws : Value} {k b off c : Nat} {own : List Nat} {j : Nat} {v : Value} {A C : World} (h : StV V lv ws k b off c own j v A) (e : Ext A C) : StV V lv ws k b off c own j v C := by
  unfold StV at h ⊢
  split at h
  all_goals first
    | exact h
    | exact h.ext e
    | (obtain ⟨r, e1, h1⟩ := h; exact ⟨r, e1, h1.ext e⟩)
set_option maxRecDepth 100000 in
set_option maxHeartbeats 8000000 in
theorem walk {v b : Value} {f : Fmt} {l : List Nat} {w : World} (hv : FmtV w v f) (hb : BytesV w b l) :
    Calls Try.prog 8 #[v, b] w fun e w' => e = .returned (.bool true) ∧ Below w.heap.size w w' := by
  have HV := hide hv
  have HB := hide hb
  obtain ⟨_, _, A, cap, rfl, _, _, _⟩ := hv
  obtain ⟨hlt, A', cap', rfl, hcap', hmax', hrow'⟩ := hb
  have hmx : cap' ≤ 9223372036854775807 := by simpa [maxLen] using hmax'
  have HLT := hide hlt
  have HROW := hide hrow'
  have HX0 := hide ((Ext.refl w).alloc (.cells #[.string f.sync, .int .i64 f.words, .int .i64 f.depth, .slice A f.channels.length cap] 28))
  have HC1 := hide (decode_any _ _ f l _ (HV.out.ext HX0.out) (HB.out.ext HX0.out))
  have HBX := hide (fun W' (hx : Ext (w.alloc (.cells #[.string f.sync, .int .i64 f.words, .int .i64 f.depth, .slice A f.channels.length cap] 28)) W') => box4 w (.string f.sync) (.int .i64 f.words) (.int .i64 f.depth) (.slice A f.channels.length cap) 28 hx)
  have HA := hide awake_any
  unfold DecR at HC1
  clear hlt hrow' hmax'
  by_cases hz : decErr f l.length = 0
  · have hc0 : (chk f).2.2 = 0 := by
      unfold decErr at hz
      by_cases h : (chk f).2.2 = 0
      · exact h
      · rw [if_pos h] at hz; exact absurd hz h
    have hl4 : l.length ≤ 4000 := by
      unfold decErr at hz
      rw [if_neg (by simpa using hc0)] at hz
      by_cases h : 4000 < l.length
      · rw [if_pos h] at hz; cases hz
      · omega
    have HZ := hide hz
    have HCK := hide hc0
    rw [hz] at HC1
    clear hz hc0
    go_enter Try.func8, Try.ntmps8
    go_wp2_with fail
    refine HC1.out.mono ?_
    rintro e w1 ⟨lv, gv, rfl, h1, _, hx1⟩
    obtain ⟨xs, hds, hfr, hga⟩ := h1 trivial
    obtain ⟨g0, g1, g2, g3⟩ := HBX.out _ hx1
    obtain ⟨AL, capL, rfl, hcl, hml, hrl, hwl⟩ := hfr
    obtain ⟨AG, capG, rfl, hcg, hmg, hrg⟩ := hga
    have hmL : capL ≤ 9223372036854775807 := by simpa [maxLen] using hml
    have hmG : capG ≤ 9223372036854775807 := by simpa [maxLen] using hmg
    have hdl := ds_len xs
    rw [hds] at hdl
    have hxl : xs.length ≤ l.length := by rw [← hdl]; exact framesOf_len f l
    have HX1 := hide (HX0.out.trans hx1)
    have HRL := hide hrl
    have HWL := hide hwl
    have HRG := hide hrg
    have HDS := hide hds
    have HDL := hide hdl
    have HGA := hide (gaps_all (f := f) (l := l))
    have hgl : (gapsOf f l).length ≤ 8001 := by
      rw [HGA.out]
      have h1 : gapNo f l (framesOf f l).length ≤ (framesOf f l).length := by
        unfold gapNo
        rw [List.take_length]
        exact gapsMid_len _ _
      split <;> omega
    have HEN := hide (fun W c ws (hi : IntsV W .i64 ws ((framesOf f l).getD c default).words) (hx : Ext w W) => encode_any _ ws f (((framesOf f l).getD c default).count : Nat) ((framesOf f l).getD c default).words W (HV.out.ext hx) hi)
    clear hx1 h1 hrl hwl hrg hds hdl hml hmg
    go_wp2
    go_loopw [8, 9, 10] (fun v8 v9 v10 wr => ∃ i : Nat, i ≤ xs.length ∧ v10 = .int .i64 i ∧ v8 = .int .i64 (endNo f l i : Nat) ∧ v9 = .int .i64 (gapNo f l i : Nat) ∧ Ext w1 wr) (fun _ _ v10 _ => xs.length + 1 - (intOf v10).toNat)
    case atStart => exact ⟨0, by omega, rfl, rfl, rfl, Ext.refl _⟩
    case round =>
      obtain ⟨i, hi, rfl, rfl, rfl, hE⟩ := hrel
      have hle := endNo_le (f := f) (l := l) (i := i)
      have HGP := hide (gap_here (f := f) (l := l) (i := i))
      have hul : untilNo f l i ≤ l.length := by
        unfold untilNo
        split
        · have := scan_le _ _ _ (getD_mem default (by assumption) : (framesOf f l).getD i default ∈ framesOf f l); omega
        · exact Nat.le_refl _
      by_cases h8 : i < xs.length
      · have hif : i < (framesOf f l).length := by rw [HDL.out]; exact h8
        obtain ⟨se1, se2, se3⟩ := sent_again HCK.out HLT.out hif
        have HE1 := hide (endNo_succ hif)
        have HG1 := hide (gapNo_succ hif)
        have hunt : ((framesOf f l).getD i default).pos = untilNo f l i := by unfold untilNo; rw [if_pos hif]
        obtain ⟨bx, offx, Bw, mw, cw, rfl, c0, c1, c2, hiw⟩ := frs_row (HRL.out.ext hE) (fun y hy => (HWL.out y hy).ext hE) h8
        rw [HDS.out] at c0 c1 hiw
        rw [hunt] at c0
        have HENI := hide (fun W (hx : Ext wr W) => HEN.out W i _ (hiw.ext hx) (HX1.out.trans (hE.trans hx)))
        rw [se1, se2] at HENI
        have hwlen := window_length se3
        generalize hown : window f l (untilNo f l i) = own at *
        have HOWN := hide hown
        generalize hend : endNo f l i = a at *
        generalize hgp : gapNo f l i = g at *
        generalize huu : untilNo f l i = u at *
        have hgu := huu
        generalize hsz : sizeF f = z at *
        have hz3 : 3 ≤ z := by rw [← hsz]; unfold sizeF bodyF; omega
        have HSZ := hide hsz
        generalize (framesOf f l).getD i default = fr at *
        clear hunt hif hiw se1 se2 hgu hown hend hgp huu hsz
        have k0 := hE.cell g0
        have k1 := hE.cell g1
        have k2 := hE.cell g2
        have k3 := hE.cell g3
        by_cases hlt : a < u
        · obtain ⟨hgi, hgv⟩ := HGP.out hlt
          obtain ⟨gb, go, rfl, hgc0, hgc1⟩ := gaps_row (HRG.out.ext (hE)) hgi
          rw [hgv] at hgc0 hgc1
          clear hgv
          have hd1 : decide ((a : Int) < (u : Int)) = true := by simp; omega
          have hd2 : decide (((gapsOf f l).length : Int) ≤ (g : Int)) = false := by simp; omega
          have hd3 : decide ((u : Int) < (u : Int)) = false := by simp
          rw [if_pos hlt] at HG1
          have hd5 : ((i : Int) == (xs.length : Int)) = false := by simp; omega
          have hd6 : decide ((i : Int) ≤ (xs.length : Int)) = true := by simp; omega
          have hd7 : ¬ u < a := by omega
          have hd4 : decide ((u : Int) < (a : Int)) = false := by simp; omega
          have hd8 : ¬ (gapsOf f l).length ≤ g := by omega
          have hd9 : ¬ u < u := by omega
          obtain ⟨bb, bo, rfl, hbb, hbc⟩ := HROW.out (by omega : 0 < l.length)
          have HBC := hide hbc
          go_wp2_with fail
          refine wp_region_vals' (by kernel_rfl) (fun j => [78, 79, 80, 81, 82, 83, 84, 85, 86, 87, 88, 89, 77, 90, 91, 12, 13].getD j 0) (StV (.agg #[.string f.sync, .int .i64 f.words, .int .i64 f.depth, .slice A f.channels.length cap]) (.slice (some ⟨bx, offx, none⟩) xs.length capL) (.slice Bw mw cw) i bx offx fr.count own)
            [78, 79, 80, 81, 82, 83, 84, 85, 86, 87, 88, 89, 77, 90, 91, 12, 13] (by decide) (by kernel_rfl) (by decide +kernel) (by kernel_rfl) (by kernel_rfl) (by kernel_rfl)
            Ext ((Ext.refl wr).drew) (fun _ _ _ h k => h.trans k) (fun j v A B h k => StV.mono h k) ?_ ?_
          · refine ⟨?_, ?_, ?_, ?_, ?_, ?_, ?_, ?_, ?_, ?_, ?_, ?_, ?_, ?_, ?_, ?_, ?_, trivial⟩
            all_goals
              intro x W hd hR
              simp [Region.binds, StV] at hd
              refine ⟨fun _ K hK => ?_, by intro g b h hn; cases h⟩
              simp only [fill, Act.put, List.setIfInBounds_toArray, List.set_cons_succ, List.set_cons_zero, StV] at hK ⊢
              try simp only [hd] at hK ⊢
              have q0 := hR.cell k0
              have q1 := hR.cell k1
              have q2 := hR.cell k2
              have q3 := hR.cell k3
              have q5 := hR.cell c1
              have q6 := hR.cell c2
              go_simp
              try exact hK _ _ rfl (Ext.refl _)
            · refine (HENI.out W hR).mono ?_
              rintro e w4 ⟨r, rfl, hb4, hx4⟩
              exact hK _ _ ⟨r, rfl, hb4⟩ hx4
            · exact hK _ _ hd (Ext.refl _)
            · obtain ⟨r, hr, hb⟩ := hd
              simp only [hr] at hK ⊢
              go_simp
              exact hK _ _ hb (Ext.refl _)
            · obtain ⟨r, hr, hb⟩ := hd
              simp only [hr] at hK ⊢
              go_simp
              exact hK _ _ rfl (Ext.refl _)
            · exact hK _ _ hd.1 (Ext.refl _)
          · intro X W hv hR
            have x12 : BytesV W (X 12) own := hv 15 (by decide)
            have x13 : X 13 = .int .i64 0 := hv 16 (by decide)
            have HRR := hide hR
            have HX12 := hide x12
            obtain ⟨_, Ao, co, eo, hco, hmo, _⟩ := x12
            rw [hwlen] at eo hco
            rw [eo] at HX12
            have hmco : co ≤ 9223372036854775807 := by simpa [maxLen] using hmo
            have HWB := hide (fun W' (hx : Ext W W') => show BytesV W' (.slice (some ⟨bb, bo + u, none⟩) z (cap' - u)) own from by
              have hby : Bytes w bb bo l := HBC.out
              have := (hby.ext (HX1.out.trans (hE.trans (HRR.out.trans hx)))).sub u z se3
              rw [show (l.drop u).take z = own by rw [← HOWN.out, ← HSZ.out]; rfl] at this
              have hsz := (HX1.out.trans (hE.trans (HRR.out.trans hx))).size
              exact this.v' (by omega) (fun y hy => by rw [← HOWN.out] at hy; exact HLT.out y (List.mem_of_mem_drop (List.mem_of_mem_take hy))) hwlen (by omega) (by simp [maxLen]; omega))
            obtain ⟨sb, HSB⟩ : ∃ sb, Hid (strOf own = sb) := ⟨_, rfl⟩
            have HXE := hide (hE.trans HRR.out)
            clear hv hR hmo
            simp only [fill, List.setIfInBounds_toArray, List.set_cons_succ, List.set_cons_zero, eo, x13]
            have hz0 : ((z : Int) == 0) = false := by simp; omega
            have hz1 : decide ((l.length : Int) < (u : Int) + (z : Int)) = false := by simp; omega
            have hz2 : ((0 : Int) != 0) = false := by decide
            go_wp2_with fail
            apply wp_region_det [92, 93, 94, 95, 96, 97, 98, 99, 100, 101, 102, 103, 104, 105, 106, 107, 108, 109, 110, 111, 112, 113, 114, 115, 116, 117, 118, 119, 120]
              [_, _, _, _, _, _, _, _, _, _, _, _, _, _, _, _, _, _, _, _, _, _, _, _, _, _, _, _, _]
            · kernel_rfl
            · decide
            · rfl
            · kernel_rfl
            · decide +kernel
            · kernel_rfl
            · kernel_rfl
            · kernel_rfl
            · repeat
                refine ⟨?_, ?_⟩
                · intro x W2 hd hR
                  simp [Region.binds] at hd
                  refine ⟨fun _ K hK => ?_, by intro g b h hn; first | (cases h; done) | (cases h; exact absurd (by simp [hd]) hn)⟩
                  simp only [fill, Act.put, List.setIfInBounds_toArray, List.set_cons_succ, List.set_cons_zero, List.getD_cons_zero, List.getD_cons_succ] at hK ⊢
                  try simp only [hd] at hK ⊢
                  have e1 := conv_v W2 22 5 Try.underlying22 Try.underlying5 Try.underlying9 (HX12.out.ext hR)
                  have e2 := conv_v W2 22 5 Try.underlying22 Try.underlying5 Try.underlying9 (HWB.out W2 hR)
                  rw [HSB.out] at e1 e2
                  have q6 : IntKind.i64.wrap ((u : Int) + (z : Int)) = ((u + z : Nat) : Int) := by rw [IntKind.wrap_i64]; omega
                  have q7 : u ≤ u + z := by omega
                  have q8 : u + z ≤ cap' := by omega
                  have q9 : ¬ cap' = u := by omega
                  have q10 : u + z - u = z := by omega
                  have q11 : (0 : Int) ≤ (u : Int) + (z : Int) := by omega
                  have q12 : (u : Int) + (z : Int) ≤ (cap' : Int) := by omega
                  have q13 : ((u : Int) + (z : Int)).toNat = u + z := by omega
                  go_simp
                  first
                    | exact hK _ _ rfl (Ext.refl _)
                    | (simp only [e1, go_sem]
                       exact hK _ _ rfl (Ext.refl _))
              exact trivial
            intro W2 hR
            simp only [fillL, List.setIfInBounds_toArray, List.set_cons_succ, List.set_cons_zero]
            go_wp2
            go_roundw
            case rel => exact ⟨i + 1, by omega, by go_num, by rw [HE1.out]; go_num, by rw [HG1.out]; go_num, HXE.out.trans hR⟩
            case measure => simp [intOf]; omega
        · have hd7 : ¬ u < a := by omega
          have hd9 : ¬ u < u := by omega
          have hd5 : ((i : Int) == (xs.length : Int)) = false := by simp; omega
          rw [if_neg hlt] at HG1
          obtain ⟨bb, bo, rfl, hbb, hbc⟩ := HROW.out (by omega : 0 < l.length)
          have HBC := hide hbc
          go_wp2_with fail
          refine wp_region_vals' (by kernel_rfl) (fun j => [78, 79, 80, 81, 82, 83, 84, 85, 86, 87, 88, 89, 77, 90, 91, 12, 13].getD j 0) (StV (.agg #[.string f.sync, .int .i64 f.words, .int .i64 f.depth, .slice A f.channels.length cap]) (.slice (some ⟨bx, offx, none⟩) xs.length capL) (.slice Bw mw cw) i bx offx fr.count own)
            [78, 79, 80, 81, 82, 83, 84, 85, 86, 87, 88, 89, 77, 90, 91, 12, 13] (by decide) (by kernel_rfl) (by decide +kernel) (by kernel_rfl) (by kernel_rfl) (by kernel_rfl)
            Ext ((Ext.refl wr).drew) (fun _ _ _ h k => h.trans k) (fun j v A B h k => StV.mono h k) ?_ ?_
          · refine ⟨?_, ?_, ?_, ?_, ?_, ?_, ?_, ?_, ?_, ?_, ?_, ?_, ?_, ?_, ?_, ?_, ?_, trivial⟩
            all_goals
              intro x W hd hR
              simp [Region.binds, StV] at hd
              refine ⟨fun _ K hK => ?_, by intro g b h hn; cases h⟩
              simp only [fill, Act.put, List.setIfInBounds_toArray, List.set_cons_succ, List.set_cons_zero, StV] at hK ⊢
              try simp only [hd] at hK ⊢
              have q0 := hR.cell k0
              have q1 := hR.cell k1
              have q2 := hR.cell k2
              have q3 := hR.cell k3
              have q5 := hR.cell c1
              have q6 := hR.cell c2
              go_simp
              try exact hK _ _ rfl (Ext.refl _)
            · refine (HENI.out W hR).mono ?_
              rintro e w4 ⟨r, rfl, hb4, hx4⟩
              exact hK _ _ ⟨r, rfl, hb4⟩ hx4
            · exact hK _ _ hd (Ext.refl _)
            · obtain ⟨r, hr, hb⟩ := hd
              simp only [hr] at hK ⊢
              go_simp
              exact hK _ _ hb (Ext.refl _)
            · obtain ⟨r, hr, hb⟩ := hd
              simp only [hr] at hK ⊢
              go_simp
              exact hK _ _ rfl (Ext.refl _)
            · exact hK _ _ hd.1 (Ext.refl _)
          · intro X W hv hR
            have x12 : BytesV W (X 12) own := hv 15 (by decide)
            have x13 : X 13 = .int .i64 0 := hv 16 (by decide)
            have HRR := hide hR
            have HX12 := hide x12
            obtain ⟨_, Ao, co, eo, hco, hmo, _⟩ := x12
            rw [hwlen] at eo hco
            rw [eo] at HX12
            have hmco : co ≤ 9223372036854775807 := by simpa [maxLen] using hmo
            have HWB := hide (fun W' (hx : Ext W W') => show BytesV W' (.slice (some ⟨bb, bo + u, none⟩) z (cap' - u)) own from by
              have hby : Bytes w bb bo l := HBC.out
              have := (hby.ext (HX1.out.trans (hE.trans (HRR.out.trans hx)))).sub u z se3
              rw [show (l.drop u).take z = own by rw [← HOWN.out, ← HSZ.out]; rfl] at this
              have hsz := (HX1.out.trans (hE.trans (HRR.out.trans hx))).size
              exact this.v' (by omega) (fun y hy => by rw [← HOWN.out] at hy; exact HLT.out y (List.mem_of_mem_drop (List.mem_of_mem_take hy))) hwlen (by omega) (by simp [maxLen]; omega))
            obtain ⟨sb, HSB⟩ : ∃ sb, Hid (strOf own = sb) := ⟨_, rfl⟩
            have HXE := hide (hE.trans HRR.out)
            clear hv hR hmo
            simp only [fill, List.setIfInBounds_toArray, List.set_cons_succ, List.set_cons_zero, eo, x13]
            have hz0 : ((z : Int) == 0) = false := by simp; omega
            have hz1 : decide ((l.length : Int) < (u : Int) + (z : Int)) = false := by simp; omega
            have hz2 : ((0 : Int) != 0) = false := by decide
            go_wp2_with fail
            apply wp_region_det [92, 93, 94, 95, 96, 97, 98, 99, 100, 101, 102, 103, 104, 105, 106, 107, 108, 109, 110, 111, 112, 113, 114, 115, 116, 117, 118, 119, 120]
              [_, _, _, _, _, _, _, _, _, _, _, _, _, _, _, _, _, _, _, _, _, _, _, _, _, _, _, _, _]
            · kernel_rfl
            · decide
            · rfl
            · kernel_rfl
            · decide +kernel
            · kernel_rfl
            · kernel_rfl
            · kernel_rfl
            · repeat
                refine ⟨?_, ?_⟩
                · intro x W2 hd hR
                  simp [Region.binds] at hd
                  refine ⟨fun _ K hK => ?_, by intro g b h hn; first | (cases h; done) | (cases h; exact absurd (by simp [hd]) hn)⟩
                  simp only [fill, Act.put, List.setIfInBounds_toArray, List.set_cons_succ, List.set_cons_zero, List.getD_cons_zero, List.getD_cons_succ] at hK ⊢
                  try simp only [hd] at hK ⊢
                  have e1 := conv_v W2 22 5 Try.underlying22 Try.underlying5 Try.underlying9 (HX12.out.ext hR)
                  have e2 := conv_v W2 22 5 Try.underlying22 Try.underlying5 Try.underlying9 (HWB.out W2 hR)
                  rw [HSB.out] at e1 e2
                  have q6 : IntKind.i64.wrap ((u : Int) + (z : Int)) = ((u + z : Nat) : Int) := by rw [IntKind.wrap_i64]; omega
                  have q7 : u ≤ u + z := by omega
                  have q8 : u + z ≤ cap' := by omega
                  have q9 : ¬ cap' = u := by omega
                  have q10 : u + z - u = z := by omega
                  have q11 : (0 : Int) ≤ (u : Int) + (z : Int) := by omega
                  have q12 : (u : Int) + (z : Int) ≤ (cap' : Int) := by omega
                  have q13 : ((u : Int) + (z : Int)).toNat = u + z := by omega
                  go_simp
                  first
                    | exact hK _ _ rfl (Ext.refl _)
                    | (simp only [e1, go_sem]
                       exact hK _ _ rfl (Ext.refl _))
              exact trivial
            intro W2 hR
            simp only [fillL, List.setIfInBounds_toArray, List.set_cons_succ, List.set_cons_zero]
            go_wp2
            go_roundw
            case rel => exact ⟨i + 1, by omega, by go_num, by rw [HE1.out]; go_num, by rw [HG1.out]; go_num, HXE.out.trans hR⟩
            case measure => simp [intOf]; omega
      · obtain rfl : i = xs.length := by omega
        have hui : untilNo f l xs.length = l.length := by unfold untilNo; rw [if_neg (by rw [HDL.out]; omega)]
        have hga := HGA.out
        rw [HDL.out] at hga
        rw [hui] at HGP hle
        generalize endNo f l xs.length = a at *
        generalize gapNo f l xs.length = g at *
        clear hui hul
        by_cases hlt : a < l.length
        · obtain ⟨hgi, hgv⟩ := HGP.out hlt
          obtain ⟨gb, go, rfl, hgc0, hgc1⟩ := gaps_row (HRG.out.ext (hE)) hgi
          rw [hgv] at hgc0 hgc1
          rw [if_pos hlt] at hga
          have hd8 : ¬ (gapsOf f l).length ≤ g := by omega
          have hd9 : ¬ l.length < l.length := by omega
          have hd7 : ¬ l.length < a := by omega
          have hd10 : ((g : Int) + 1 == ((gapsOf f l).length : Int)) = true := by rw [hga]; simp
          clear hgv
          go_wp2_with (go_at_call 21; refine (HA.out _).mono ?_; rintro e w5 ⟨rfl, hx5⟩)
          go_ret
          exact ⟨rfl, (HX1.out.trans hE).trans hx5⟩
        · rw [if_neg hlt] at hga
          have hd7 : ¬ l.length < a := by omega
          have hd10 : ((g : Int) == ((gapsOf f l).length : Int)) = true := by rw [hga]; simp
          go_wp2_with (go_at_call 21; refine (HA.out _).mono ?_; rintro e w5 ⟨rfl, hx5⟩)
          go_ret
          exact ⟨rfl, (HX1.out.trans hE).trans hx5⟩
  · have hzn : (decErr f l.length != 0) = true := by simpa using hz
    have HZ := hide hz
    clear hz
    go_enter Try.func8, Try.ntmps8
    go_wp2_with first
      | (go_at_call 31; refine Calls.mono HC1.out ?_; rintro e w1 ⟨lv, gv, rfl, _, h2, hx1⟩; obtain ⟨rfl, rfl⟩ := h2 HZ.out)
      | (go_at_call 21; refine (HA.out _).mono ?_; rintro e w5 ⟨rfl, hx5⟩)
    go_ret
    exact ⟨rfl, (HX0.out.trans hx1).trans hx5⟩
end FrameSentLaw
end Go.Proofs.Ytjnnkcnnandeeaa
