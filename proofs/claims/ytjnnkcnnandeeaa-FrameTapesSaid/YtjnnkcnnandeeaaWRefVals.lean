/- The walk of the reference's Values. -/
import Derived.Test.YtjnnkcnnandeeaaWVals
namespace Go.Proofs.Ytjnnkcnnandeeaa
open Go.RowKit
/-- What the operations of the test whether a channel is in a frame leave. -/
def VhV (cs ns cv : Value) (n ch : Int) (k b off cn bn offn X : Nat) (t : Bool) : Nat → Value → World → Prop
  | 0, v, _ => v = .pointer (some ⟨X, 3, none⟩)
  | 1, v, _ => v = cs
  | 2, v, _ => v = .int .i64 ch
  | 3, v, _ => v = .pointer (some ⟨b, off + cn * 4, none⟩)
  | 4, v, _ => v = cv
  | 5, v, _ => v = ns
  | 6, v, _ => v = .int .i64 (k : Nat)
  | 7, v, _ => v = .pointer (some ⟨bn, offn + k, none⟩)
  | 8, v, _ => v = .int .i64 n
  | _, v, _ => v = .bool t
theorem VhV.mono {cs ns cv : Value} {n ch : Int} {k b off cn bn offn X : Nat} {t : Bool} {j : Nat} {v : Value} {A C : World} (h : VhV cs ns cv n ch k b off cn bn offn X t j v A) : VhV cs ns cv n ch k b off cn bn offn X t j v C := by
  unfold VhV at h ⊢
  split at h
  all_goals exact h
/-- What the operations of the region that puts a value behind leave. -/
def VrV (res ns lv ws cs : Value) (n x ch : Int) (k bn offn b off bc offc cn b2 off2 X : Nat) (wd : Nat) : Nat → Value → World → Prop
  | 0, v, _ => v = res
  | 1, v, _ => v = ns
  | 2, v, _ => v = .int .i64 (k : Nat)
  | 3, v, _ => v = .pointer (some ⟨bn, offn + k, none⟩)
  | 4, v, _ => v = .int .i64 n
  | 5, v, _ => v = lv
  | 6, v, _ => v = .int .i64 (k : Nat)
  | 7, v, _ => v = .pointer (some ⟨b, off + k * 3, none⟩)
  | 8, v, _ => v = .pointer (some ⟨b, off + k * 3 + 2, none⟩)
  | 9, v, _ => v = ws
  | 10, v, _ => v = .pointer (some ⟨X, 3, none⟩)
  | 11, v, _ => v = cs
  | 12, v, _ => v = .int .i64 ch
  | 13, v, _ => v = .pointer (some ⟨bc, offc + cn * 4, none⟩)
  | 14, v, _ => v = .pointer (some ⟨bc, offc + cn * 4 + 1, none⟩)
  | 15, v, _ => v = .int .i64 (wd : Nat)
  | 16, v, _ => v = .pointer (some ⟨b2, off2 + wd, none⟩)
  | 17, v, _ => v = .int .i64 x
  | 18, v, _ => v = .agg #[.int .i64 n, .int .i64 x]
  | _, v, w => ∃ g, v = .slice (some ⟨g, 0, none⟩) 1 1 ∧ Src w (some ⟨g, 0, none⟩) 1 2 [.int .i64 n, .int .i64 x]
theorem VrV.mono {res ns lv ws cs : Value} {n x ch : Int} {k bn offn b off bc offc cn b2 off2 X wd j : Nat} {v : Value} {A C : World} (h : VrV res ns lv ws cs n x ch k bn offn b off bc offc cn b2 off2 X wd j v A) (e : Ext A C) : VrV res ns lv ws cs n x ch k bn offn b off bc offc cn b2 off2 X wd j v C := by
  unfold VrV at h ⊢
  split at h
  all_goals first
    | exact h
    | (obtain ⟨g, e1, h1⟩ := h; exact ⟨g, e1, h1.ext e⟩)
theorem tapeErr_chk {f : Fmt} {n : Nat} {first : Int} (h : (chk f).2.2 ≠ 0) : tapeErr f n first = (chk f).2.2 := if_pos h
theorem tapeErr_long {f : Fmt} {n : Nat} {first : Int} (h : (chk f).2.2 = 0) (h2 : 4000 < n) : tapeErr f n first = 3 := by unfold tapeErr; rw [if_neg (by simpa using h), if_pos h2]
theorem tapeErr_first {f : Fmt} {n : Nat} {first : Int} (h : (chk f).2.2 = 0) (h2 : ¬ 4000 < n) (h3 : outB first 0 1000000 = true) : tapeErr f n first = 7 := by unfold tapeErr; rw [if_neg (by simpa using h), if_neg h2, if_pos h3]
theorem tapeErr_ok {f : Fmt} {n : Nat} {first : Int} (h : (chk f).2.2 = 0) (h2 : ¬ 4000 < n) (h3 : outB first 0 1000000 = false) : tapeErr f n first = 0 := by unfold tapeErr; rw [if_neg (by simpa using h), if_neg h2, if_neg (by rw [h3]; decide)]
set_option maxRecDepth 100000 in
set_option maxHeartbeats 2000000 in
/-- ref.Values -/
theorem refValues_any (v b : Value) (f : Fmt) (l : List Nat) (first ch : Int) (w : World) (hwf : (Lit.int .i64 ch).wf = true) (hv : FmtV w v f) (hb : BytesV w b l) :
    Calls Try.prog 30 #[v, .agg #[b, .int .i64 first], .int .i64 ch] w fun e w' => ∃ r, e = .returned (.tuple #[r, .int .i64 (valErr f l first ch)]) ∧ ValsV w' r (valsOf f l first ch) ∧ Ext w w' := by
  have HV := hide hv
  have HB := hide hb
  obtain ⟨_, _, A, cap, rfl, hcapA, hmaxA, hrowA⟩ := hv
  obtain ⟨_, A', cap', rfl, hcapB, hmaxB, _⟩ := hb
  have hmB : cap' ≤ 9223372036854775807 := by simpa [maxLen] using hmaxB
  have HX0 := hide (((Ext.refl w).alloc (.cells #[.string f.sync, .int .i64 f.words, .int .i64 f.depth, .slice A f.channels.length cap] 28)).alloc (.cells #[.slice A' l.length cap', .int .i64 first] 38))
  have HVA := hide (valid_any _ f _ (HV.out.ext HX0.out))
  have HR := hide hrowA
  clear hrowA hmaxA hmaxB
  by_cases hc : (chk f).2.2 = 0
  · have HC := hide hc
    have HCK := hide (chk_ok hc)
    have hl12 : f.channels.length ≤ 12 := HCK.out.2.2.1
    rw [hc] at HVA
    clear hc
    by_cases hlen : 4000 < l.length
    · have hd : decide ((4000 : Int) < (l.length : Int)) = true := by simp; omega
      have ht := tapeErr_long (first := first) HC.out hlen
      have HER := hide ((valErr_tape (ch := ch) (by rw [ht]; decide)).trans ht)
      clear ht
      go_enter Try.func30, Try.ntmps30
      go_wp2_with (go_at_call 59; refine Calls.mono HVA.out ?_; rintro e w1 ⟨rfl, hx⟩; have hcc := hx.cells; have HX := hide hx; clear hx)
      go_ret2
      exact ⟨_, by rw [HER.out]; rfl, by rw [valsOf_bad (by rw [HER.out]; decide)]; exact ValsV.nil _, HX0.out.trans HX.out⟩
    · have hd : decide ((4000 : Int) < (l.length : Int)) = false := by simp; omega
      have hnb : inB first 0 1000000 = !outB first 0 1000000 := (by rw [outB_not])
      cases hn : outB first 0 1000000 with
      | true =>
        have ht := tapeErr_first HC.out hlen hn
        have HER := hide ((valErr_tape (ch := ch) (by rw [ht]; decide)).trans ht)
        rw [hn] at hnb
        have HNB := hide hnb
        clear hn hnb ht
        go_enter Try.func30, Try.ntmps30
        go_wp2_with first
          | (go_at_call 59; refine Calls.mono HVA.out ?_; rintro e w1 ⟨rfl, hx⟩; have hcc := hx.cells; have HX := hide hx; clear hx)
          | (go_at_call 60; refine (number_any _ _).mono ?_; rintro e w2 ⟨rfl, rfl⟩; rw [HNB.out])
        go_ret2
        exact ⟨_, by rw [HER.out]; rfl, by rw [valsOf_bad (by rw [HER.out]; decide)]; exact ValsV.nil _, HX0.out.trans HX.out⟩
      | false =>
        have HT := hide (tapeErr_ok HC.out hlen hn)
        rw [hn] at hnb
        have HNB := hide hnb
        have h3 := (outB_f.1 hn).1
        clear hn hnb
        have hcb : inB ch 0 ((f.channels.length : Int) - 1) = !outB ch 0 ((f.channels.length : Int) - 1) := (by rw [outB_not])
        cases ho : outB ch 0 ((f.channels.length : Int) - 1) with
        | true =>
          have HER := hide (valErr_chan HT.out ho)
          rw [ho] at hcb
          have HCB := hide hcb
          clear ho hcb
          go_enter Try.func30, Try.ntmps30
          go_wp2_with first
            | (go_at_call 59; refine Calls.mono HVA.out ?_; rintro e w1 ⟨rfl, hx⟩; have hcc := hx.cells; have HX := hide hx; clear hx)
            | (go_at_call 60; refine (number_any _ _).mono ?_; rintro e w2 ⟨rfl, rfl⟩; rw [HNB.out])
            | (go_at_call 70; refine (refIn_any _ _ _ _).mono ?_; rintro e w2 ⟨rfl, rfl⟩; rw [HCB.out])
          go_ret2
          exact ⟨_, by rw [HER.out]; rfl, by rw [valsOf_bad (by rw [HER.out]; decide)]; exact ValsV.nil _, HX0.out.trans HX.out⟩
        | false =>
          have HER := hide (valErr_read HT.out ho)
          have hch := outB_f.1 ho
          rw [ho] at hcb
          have HCB := hide hcb
          clear ho hcb
          have HRD := hide (fun w1 (hx : Ext w w1) => refRead_any _ _ f l first w1 (HV.out.ext hx) (HB.out.ext hx))
          unfold ReadR at HRD
          have hne : numErr f l first = readErr first (framesOf f l) := if_pos HT.out
          rw [hne] at HRD
          clear hne
          obtain ⟨cn, rfl⟩ := Int.eq_ofNat_of_zero_le hch.1
          have hcn : cn < f.channels.length := by omega
          go_enter Try.func30, Try.ntmps30
          go_wp2_with first
            | (go_at_call 59; refine Calls.mono HVA.out ?_; rintro e w1 ⟨rfl, hx⟩; have hcc := hx.cells; have HX := hide hx; clear hx)
            | (go_at_call 60; refine (number_any _ _).mono ?_; rintro e w2 ⟨rfl, rfl⟩; rw [HNB.out])
            | (go_at_call 70; refine (refIn_any _ _ _ _).mono ?_; rintro e w2 ⟨rfl, rfl⟩; rw [HCB.out])
            | (go_at_call 68; fail)
          have HRW := hide (HRD.out w1 (HX0.out.trans HX.out))
          generalize readErr first (framesOf f l) = re at *
          by_cases hz : re = 0
          · subst hz
            refine Calls.mono HRW.out ?_
            rintro e w2 ⟨lv, nv, rfl, h1, _, hx2⟩
            obtain ⟨xs, hds, hfrs, hints⟩ := h1 rfl
            have g3 := hx2.cell (HX.out.cell (show _ = some (Value.slice A f.channels.length cap) from cell_new w #[.string f.sync, .int .i64 f.words, .int .i64 f.depth, .slice A f.channels.length cap] 28 3 _ rfl |> fun h => (Ext.alloc (Ext.refl _) _).cell h))
            have HXW := hide ((HX0.out.trans HX.out).trans hx2)
            obtain ⟨bc, offc, nm, wd, ev, ph, rfl, hbc, hc0, hc1, hc2, hc3, HCH⟩ := chans_at (HR.out.ext HXW.out) hcn
            have hco := chanErr_ok (HCK.out.2.2.2.2.2.2.2.2 cn hcn)
            rw [HCH.out] at hco
            dsimp only at hco
            obtain ⟨_, _, o0, o1, _, _, _⟩ := hco
            obtain ⟨wdn, rfl⟩ := Int.eq_ofNat_of_zero_le (outB_f.1 o0).1
            have hwdn := (outB_f.1 o0).2
            obtain ⟨AL, capL, rfl, hcl, hml, hrl, hwl⟩ := hfrs
            have hnl := nums_length first (framesOf f l)
            have hdl : (ds xs).length = xs.length := by unfold ds; rw [List.length_map]
            rw [← hds, hdl] at hnl
            rw [← hds] at hints
            generalize hns : nums first (ds xs) = ns at *
            obtain ⟨AN, capN, rfl, hcn2, hmn, hrn⟩ := hints
            have hxl : xs.length ≤ 4000 := by rw [← hdl, hds]; exact Nat.le_trans (framesOf_len f l) (by omega)
            have HWORDS : Hid (∀ k, k < xs.length → ((ds xs).getD k default).words.length = f.words.toNat) := hide fun k hk => frames_words (f := f) (l := l) _ (by rw [← hds, List.getD_eq_getElem?_getD, List.getElem?_eq_getElem (by omega), Option.getD_some]; exact List.getElem_mem _)
            have HNN : Hid (∀ k, 0 ≤ ns.getD k 0) := hide (fun k => by rw [← hns]; exact nums_pos h3 _ k)
            have HRL := hide hrl
            have HWL := hide hwl
            have HRN := hide hrn
            have HDS := hide hds
            have HNS := hide hns
            have HX2 := hide hx2
            have HHAS := hide (fun W n (hn : 0 ≤ n) => has_any nm wdn ev ph n W hn o1)
            have hmN : capN ≤ 9223372036854775807 := by simpa [maxLen] using hmn
            have hmL : capL ≤ 9223372036854775807 := by simpa [maxLen] using hml
            clear hrl hwl hrn hds hns hx2 h1 hcc hmn hml
            obtain ⟨iV, hiV, hzV0, hzV1, hzV2⟩ := info_parts value_info
            go_wp2
            go_loopw [11, 12] (fun v6 v42 wr => ∃ k : Nat, k ≤ xs.length ∧ v42 = .int .i64 k ∧ Ext w2 wr ∧ Hid (Own wr w2.heap.size 44 2 v6 (valAt ⟨nm, wdn, ev, ph⟩ ns (ds xs) k).length ((valAt ⟨nm, wdn, ev, ph⟩ ns (ds xs) k).flatMap valC))) (fun _ v42 _ => xs.length - (intOf v42).toNat)
            case atStart => exact ⟨0, by omega, rfl, Ext.refl _, hide (Own.nil _ _ _ _)⟩
            case round =>
              obtain ⟨k, hk, rfl, hE, HO2⟩ := hrel
              by_cases h8 : k < xs.length
              · obtain ⟨bn, offn, n, rfl, _, hcn4, HN⟩ := ints_at (HRN.out.ext hE) (by omega : k < ns.length)
                have e0 := hE.cell hc0
                have e1 := hE.cell hc1
                have e2 := hE.cell hc2
                have e3 := hE.cell hc3
                have e4 := hE.cell g3
                have hn0 : 0 ≤ n := by have := HNN.out k; rw [HN.out] at this; exact this
                have HHN := hide (fun W => HHAS.out W n hn0)
                go_wp2_with fail
                refine wp_region_vals (by kernel_rfl) (fun j => j + 61) (VhV (.slice (some ⟨bc, offc, none⟩) f.channels.length cap) (.slice (some ⟨bn, offn, none⟩) xs.length capN) (.agg #[.string nm, .int .i64 (wdn : Nat), .int .i64 ev, .int .i64 ph]) n (cn : Nat) k bc offc cn bn offn w.heap.size (decide (n % ev = ph))) [61, 62, 63, 64, 65, 66, 67, 68, 69, 70] (by decide) (by kernel_rfl) (by decide +kernel) (by kernel_rfl) (by kernel_rfl) (by kernel_rfl)
                  Ext ((Ext.refl wr).drew) (fun _ _ _ h k => h.trans k) (fun j v A B h _ => VhV.mono h) ?_ ?_
                · refine ⟨?_, ?_, ?_, ?_, ?_, ?_, ?_, ?_, ?_, ?_, trivial⟩
                  all_goals
                    intro x W hd hR
                    simp [Region.binds, VhV] at hd
                    refine ⟨fun _ K hK => ?_, by intro g b h hn; first | (cases h; done) | (cases h; exact absurd (by simp [hd]) hn)⟩
                    simp only [fill, Act.put, List.setIfInBounds_toArray, List.set_cons_succ, List.set_cons_zero, VhV] at hK ⊢
                    try simp only [hd] at hK ⊢
                    have q0 := hR.cell e0
                    have q1 := hR.cell e1
                    have q2 := hR.cell e2
                    have q3 := hR.cell e3
                    have q4 := hR.cell e4
                    have q5 := hR.cell hcn4
                    go_simp
                    try exact hK _ _ rfl (Ext.refl _)
                  refine (HHN.out W).mono ?_
                  rintro e w4 ⟨rfl, hx4⟩
                  exact hK _ _ rfl hx4
                · intro X W hv hR
                  have x9 : X 70 = .bool (decide (n % ev = ph)) := hv 9 (by decide)
                  have HRR := hide hR
                  clear hv hR
                  simp only [fill, List.setIfInBounds_toArray, List.set_cons_succ, List.set_cons_zero, x9]
                  by_cases hin : n % ev = ph
                  · have hib : decide (n % ev = ph) = true := by simpa using hin
                    have HIN := hide hin
                    have HXE := hide (hE.trans HRR.out)
                    obtain ⟨A6, cap6, rfl, _, _, _⟩ := HO2.out.form
                    clear hin x9
                    rw [hib]
                    obtain ⟨bx, offx, b2, off2, m, capw, x, rfl, _, _, hwm, hcx2, hmw, hmw2, hcxx, HXX⟩ := frs_at (HRL.out.ext HXE.out) (fun y hy => (HWL.out y hy).ext HXE.out) h8 (by rw [HWORDS.out k h8]; omega : wdn < ((ds xs).getD k default).words.length)
                    have HYES := hide (valAt_yes (c := ⟨nm, (wdn : Nat), ev, ph⟩) (fs := ds xs) HN.out HIN.out HXX.out)
                    have HO4 := hide (HO2.out.ext HRR.out)
                    have hvl := valAt_len ⟨nm, (wdn : Nat), ev, ph⟩ ns (ds xs) k
                    generalize valAt ⟨nm, (wdn : Nat), ev, ph⟩ ns (ds xs) k = ps at *
                    have hmw3 : capw ≤ 9223372036854775807 := by simpa [maxLen] using hmw2
                    have r1 := HRR.out.cell e1
                    have r4 := HRR.out.cell e4
                    have r5 := HRR.out.cell hcn4
                    clear e0 e1 e2 e3 e4 hmw2 hcn4
                    go_wp2_with fail
                    refine wp_region_tail (by kernel_rfl) 20 (by decide) (fun j => j + 71) (VrV (.slice A6 ps.length cap6) (.slice (some ⟨bn, offn, none⟩) xs.length capN) (.slice (some ⟨bx, offx, none⟩) xs.length capL) (.slice (some ⟨b2, off2, none⟩) m capw) (.slice (some ⟨bc, offc, none⟩) f.channels.length cap) n x (cn : Nat) k bn offn bx offx bc offc cn b2 off2 w.heap.size wdn) [71, 72, 73, 74, 75, 76, 77, 78, 79, 80, 81, 82, 83, 84, 85, 86, 87, 88, 89, 90] (by decide) (by kernel_rfl) (by decide +kernel) (by kernel_rfl) (by kernel_rfl) (by kernel_rfl) (by kernel_rfl) (by kernel_rfl)
                      Ext ((Ext.refl W).drew) (fun _ _ _ h k => h.trans k) (fun j v A B h k => VrV.mono h k) ?_ ?_
                    · refine ⟨?_, ?_, ?_, ?_, ?_, ?_, ?_, ?_, ?_, ?_, ?_, ?_, ?_, ?_, ?_, ?_, ?_, ?_, ?_, ?_, trivial⟩
                      all_goals
                        intro x W2 hd hR
                        simp [Region.binds, VrV] at hd
                        refine ⟨fun _ K hK => ?_, by intro g b h hn; first | (cases h; done) | (cases h; exact absurd (by simp [hd]) hn)⟩
                        simp only [fill, Act.put, List.setIfInBounds_toArray, List.set_cons_succ, List.set_cons_zero, VrV] at hK ⊢
                        try simp only [hd] at hK ⊢
                        have q1 := hR.cell r1
                        have q2 := hR.cell hcx2
                        have q3 := hR.cell hcxx
                        have q4 := hR.cell r4
                        have q5 := hR.cell r5
                        go_simp
                        try exact hK _ _ rfl (Ext.refl _)
                      exact hK _ _ ⟨W2.heap.size, rfl, (Own.lit W2 0 44 2 1 _ (Nat.zero_le _) rfl (by simp [maxLen])).src⟩ ((Ext.refl W2).alloc _)
                    · intro Y W2 hv hR
                      have x0 : Y 71 = .slice A6 ps.length cap6 := hv 0 (by decide)
                      obtain ⟨g, x12, hsrc⟩ : ∃ g, Y 90 = .slice (some ⟨g, 0, none⟩) 1 1 ∧ Src W2 (some ⟨g, 0, none⟩) 1 2 [.int .i64 n, .int .i64 x] := hv 19 (by decide)
                      have HSRC := hide hsrc
                      have HR4 := hide hR
                      have hsz := (HXE.out.trans hR).size
                      clear hv hR hsrc
                      simp only [fill, List.setIfInBounds_toArray, List.set_cons_succ, List.set_cons_zero, x0, x12, List.drop_succ_cons, List.drop_zero]
                      refine wpList_app rfl (.tmp 71) (.tmp 90) 40 rfl w2.heap.size 44 iV _ 2 16 Try.underlying40 hiV hzV0 hzV1 hzV2 rfl _ ps.length _ rfl (HO4.out.ext HR4.out) _ 1 1 [.int .i64 n, .int .i64 x] rfl HSRC.out (by simp [Value.oneCell']) (by simp [maxLen]; omega) (by omega) hsz ?_
                      intro v6 w6 hown hb6
                      go_wp2
                      go_roundw
                      case rel => exact ⟨k + 1, by omega, by go_num, (HXE.out.trans HR4.out).step hb6 (Nat.le_refl _), by rw [HYES.out, List.length_append, List.flatMap_append]; exact hide hown⟩
                      case measure => simp [intOf]; omega
                  · have hib : decide (n % ev = ph) = false := by simpa using hin
                    have HNO := hide (valAt_no (c := ⟨nm, (wdn : Nat), ev, ph⟩) (fs := ds xs) HN.out hin)
                    clear hin x9
                    rw [hib]
                    go_wp2
                    go_roundw
                    case rel => exact ⟨k + 1, by omega, by go_num, hE.trans HRR.out, by rw [HNO.out]; exact hide (HO2.out.ext HRR.out)⟩
                    case measure => simp [intOf]; omega
              · obtain rfl : k = xs.length := by omega
                obtain ⟨A6, cap6, rfl, _, _, _⟩ := HO2.out.form
                go_wp2
                go_ret2
                exact ⟨_, by rw [HER.out]; rfl, by rw [valsOf_ok HER.out, Int.toNat_natCast, HCH.out, ← HDS.out, HNS.out, hdl]; exact Own.vals HO2.out, HXW.out.trans hE⟩
          · have hzb : (re != 0) = true := by simpa using hz
            have HZ := hide hz
            clear hz
            go_wp2_with (go_at_call 68; refine Calls.mono HRW.out ?_; rintro e w2 ⟨lv, nv, rfl, _, _, hx2⟩; have HX2 := hide hx2; clear hx2)
            go_ret2
            exact ⟨_, by rw [HER.out]; rfl, by rw [valsOf_bad (by rw [HER.out]; exact HZ.out)]; exact ValsV.nil _, (HX0.out.trans HX.out).trans HX2.out⟩
  · have hcb : ((chk f).2.2 == 0) = false := by simpa using hc
    have hcn : ((chk f).2.2 != 0) = true := by simpa using hc
    have ht := tapeErr_chk (n := l.length) (first := first) hc
    have HER := hide ((valErr_tape (ch := ch) (by rw [ht]; exact hc)).trans ht)
    have HC := hide hc
    clear hc ht
    go_enter Try.func30, Try.ntmps30
    go_wp2_with (go_at_call 59; refine Calls.mono HVA.out ?_; rintro e w1 ⟨rfl, hx⟩; have hcc := hx.cells; have HX := hide hx; clear hx)
    go_ret2
    exact ⟨_, by rw [HER.out]; rfl, by rw [valsOf_bad (by rw [HER.out]; exact HC.out)]; exact ValsV.nil _, HX0.out.trans HX.out⟩
end Go.Proofs.Ytjnnkcnnandeeaa
