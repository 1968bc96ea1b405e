/- The walk of Values. -/
import Derived.Test.YtjnnkcnnandeeaaVals
namespace Go.Proofs.Ytjnnkcnnandeeaa
open Go.RowKit
/-- What the operations of the region that puts a value behind leave. -/
def VaV (res lv ws : Value) (n x : Int) (k b off b2 off2 B : Nat) (wd : Nat) : Nat → Value → World → Prop
  | 0, v, _ => v = res
  | 1, v, _ => v = .int .i64 n
  | 2, v, _ => v = lv
  | 3, v, _ => v = .int .i64 (k : Nat)
  | 4, v, _ => v = .pointer (some ⟨b, off + k * 3, none⟩)
  | 5, v, _ => v = .pointer (some ⟨b, off + k * 3 + 2, none⟩)
  | 6, v, _ => v = ws
  | 7, v, _ => v = .pointer (some ⟨B, 1, none⟩)
  | 8, v, _ => v = .int .i64 (wd : Nat)
  | 9, v, _ => v = .pointer (some ⟨b2, off2 + wd, none⟩)
  | 10, v, _ => v = .int .i64 x
  | 11, v, _ => v = .agg #[.int .i64 n, .int .i64 x]
  | _, v, w => ∃ g, v = .slice (some ⟨g, 0, none⟩) 1 1 ∧ Src w (some ⟨g, 0, none⟩) 1 2 [.int .i64 n, .int .i64 x]
theorem VaV.mono {res lv ws : Value} {n x : Int} {k b off b2 off2 B wd j : Nat} {v : Value} {A C : World} (h : VaV res lv ws n x k b off b2 off2 B wd j v A) (e : Ext A C) : VaV res lv ws n x k b off b2 off2 B wd j v C := by
  unfold VaV at h ⊢
  split at h
  all_goals first
    | exact h
    | (obtain ⟨g, e1, h1⟩ := h; exact ⟨g, e1, h1.ext e⟩)
set_option maxRecDepth 100000 in
set_option maxHeartbeats 2000000 in
/-- frame.Values -/
theorem values_any (v b : Value) (f : Fmt) (l : List Nat) (first ch : Int) (w : World) (hwf : (Lit.int .i64 ch).wf = true) (hv : FmtV w v f) (hb : BytesV w b l) :
    Calls Try.prog 29 #[v, .agg #[b, .int .i64 first], .int .i64 ch] w fun e w' => ∃ r, e = .returned (.tuple #[r, .int .i64 (valErr f l first ch)]) ∧ ValsV w' r (valsOf f l first ch) ∧ Ext w w' := by
  have HV := hide hv
  have HB := hide hb
  obtain ⟨_, _, A, cap, rfl, hcapA, hmaxA, hrowA⟩ := hv
  obtain ⟨_, A', cap', rfl, _, _, _⟩ := hb
  have HX0 := hide (((Ext.refl w).alloc (.cells #[.string f.sync, .int .i64 f.words, .int .i64 f.depth, .slice A f.channels.length cap] 28)).alloc (.cells #[.slice A' l.length cap', .int .i64 first] 38))
  have HT := hide (tape_any _ (.slice A' l.length cap') f l first _ (HV.out.ext HX0.out) (HB.out.ext HX0.out))
  have HR := hide hrowA
  clear hrowA hmaxA
  by_cases h : tapeErr f l.length first = 0
  · have h0 : (tapeErr f l.length first != 0) = false := by simp [h]
    have HTZ := hide h
    obtain ⟨h1, h2, h3, h4⟩ := tapeErr_0 h
    have HCK := hide (chk_ok h1)
    have hl12 : f.channels.length ≤ 12 := HCK.out.2.2.1
    clear h1
    cases ho : outB ch 0 ((f.channels.length : Int) - 1) with
    | true =>
      have HER := hide (valErr_chan HTZ.out ho)
      have HO := hide ho
      clear ho h
      go_enter Try.func29, Try.ntmps29
      go_wp2_with fail
      refine Calls.mono HT.out ?_
      rintro e w1 ⟨rfl, hx⟩
      have hcc := hx.cells
      have HX := hide hx
      clear hx
      go_wp2_with (go_at_call 69; refine (out_any _ _ _ _).mono ?_; rintro e w2 ⟨rfl, rfl⟩; rw [HO.out])
      go_ret2
      exact ⟨_, by rw [HER.out]; rfl, by rw [valsOf_bad (by rw [HER.out]; decide)]; exact ValsV.nil _, HX0.out.trans HX.out⟩
    | false =>
      have hch := outB_f.1 ho
      have HER := hide (valErr_read HTZ.out ho)
      have HO := hide ho
      clear ho h
      have HRD := hide (fun w1 (hx : Ext w w1) => read_any _ _ f l first w1 (HV.out.ext hx) (HB.out.ext hx) (by have := HCK.out; omega) (by have := HCK.out; omega) (by have := HCK.out; omega) (by omega) h3 h4)
      obtain ⟨cn, rfl⟩ := Int.eq_ofNat_of_zero_le hch.1
      have hcn : cn < f.channels.length := by omega
      go_enter Try.func29, Try.ntmps29
      go_wp2_with fail
      refine Calls.mono HT.out ?_
      rintro e w1 ⟨rfl, hx⟩
      have hcc := hx.cells
      have HX := hide hx
      clear hx
      go_wp2_with (go_at_call 69; refine (out_any _ _ _ _).mono ?_; rintro e w2 ⟨rfl, rfl⟩; rw [HO.out])
      have HRW := hide (HRD.out w1 (HX0.out.trans HX.out))
      generalize readErr first (framesOf f l) = re at *
      by_cases hz : re = 0
      · subst hz
        go_wp2_with fail
        refine Calls.mono HRW.out ?_
        rintro e w2 ⟨lv, nv, xs, rfl, h1, _, hx2⟩
        obtain ⟨hds, hfrs, hints⟩ := h1 trivial
        have hds : ds xs = framesOf f l := hds
        have g3 := hx2.cell (HX.out.cell (show _ = some (Value.slice A f.channels.length cap) from cell_new w #[.string f.sync, .int .i64 f.words, .int .i64 f.depth, .slice A f.channels.length cap] 28 3 _ rfl |> fun h => (Ext.alloc (Ext.refl _) _).cell h))
        have HXW := hide ((HX0.out.trans HX.out).trans hx2)
        have hww : w.heap.size < w2.heap.size := by have := ((HX.out).trans hx2).size; simp at this; omega
        obtain ⟨bc, offc, nm, wd, ev, ph, rfl, hbc, hc0, hc1, hc2, hc3, HC⟩ := chans_at (HR.out.ext HXW.out) hcn
        have hco := chanErr_ok (HCK.out.2.2.2.2.2.2.2.2 cn hcn)
        rw [HC.out] at hco
        dsimp only at hco
        obtain ⟨_, _, o0, o1, _, _, _⟩ := hco
        obtain ⟨wdn, rfl⟩ := Int.eq_ofNat_of_zero_le (outB_f.1 o0).1
        have hwdn := (outB_f.1 o0).2
        obtain ⟨AL, capL, rfl, hcl, hml, hrl, hwl⟩ := hfrs
        have hnl := nums_length first (framesOf f l)
        have hdl : (ds xs).length = xs.length := by unfold ds; rw [List.length_map]
        rw [← hds, hdl] at hnl
        rw [← hds] at hints
        generalize hns : nums first (ds xs) = ns at *
        obtain ⟨AN, capN, rfl, hcn2, hmn, hrn⟩ := hints
        have hxl : xs.length ≤ 4000 := by rw [← hdl, hds]; exact Nat.le_trans (framesOf_len f l) h2
        have HWORDS : Hid (∀ k, k < xs.length → ((ds xs).getD k default).words.length = f.words.toNat) := hide fun k hk => frames_words (f := f) (l := l) _ (by rw [← hds, List.getD_eq_getElem?_getD, List.getElem?_eq_getElem (by omega), Option.getD_some]; exact List.getElem_mem _)
        have HNN : Hid (∀ k, 0 ≤ ns.getD k 0) := hide (fun k => by rw [← hns]; exact nums_pos h3 _ k)
        have HRL := hide hrl
        have HWL := hide hwl
        have HRN := hide hrn
        have HDS := hide hds
        have HNS := hide hns
        have HX2 := hide hx2
        have hmN : capN ≤ 9223372036854775807 := by simpa [maxLen] using hmn
        have hmL : capL ≤ 9223372036854775807 := by simpa [maxLen] using hml
        clear hrl hwl hrn hds hns hx2 h1 hcc hmn hml
        go_wp2
        have HX3 := hide ((Ext.refl w2).alloc (.cells #[.string nm, .int .i64 (wdn : Nat), .int .i64 ev, .int .i64 ph] 83))
        obtain ⟨c0, c1, c2, c3⟩ := box4 w2 (.string nm) (.int .i64 (wdn : Nat)) (.int .i64 ev) (.int .i64 ph) 83 (Ext.refl _)
        obtain ⟨w3, hw3⟩ : ∃ w3, w2.alloc (.cells #[.string nm, .int .i64 (wdn : Nat), .int .i64 ev, .int .i64 ph] 83) = w3 := ⟨_, rfl⟩
        have hs3 : w3.heap.size = w2.heap.size + 1 := by rw [← hw3, World.size_alloc]
        rw [hw3] at HX3 c0 c1 c2 c3 ⊢
        obtain ⟨iV, hiV, hzV0, hzV1, hzV2⟩ := info_parts value_info
        generalize w2.heap.size = B at *
        go_loopw [6, 42] (fun v6 v42 wr => ∃ k : Nat, k ≤ xs.length ∧ v42 = .int .i64 k ∧ Ext w3 wr ∧ Hid (Own wr w3.heap.size 44 2 v6 (valAt ⟨nm, wdn, ev, ph⟩ ns (ds xs) k).length ((valAt ⟨nm, wdn, ev, ph⟩ ns (ds xs) k).flatMap valC))) (fun _ v42 _ => xs.length - (intOf v42).toNat)
        case atStart => exact ⟨0, by omega, rfl, Ext.refl _, hide (Own.nil _ _ _ _)⟩
        case round =>
          obtain ⟨k, hk, rfl, hE, HO2⟩ := hrel
          by_cases h8 : k < xs.length
          · obtain ⟨bn, offn, n, rfl, _, hcn4, HN⟩ := ints_at (HRN.out.ext (HX3.out.trans hE)) (by omega : k < ns.length)
            have hd0 := hE.cell c0
            have hd1 := hE.cell c1
            have hd2 := hE.cell c2
            have hd3 := hE.cell c3
            have hn0 : 0 ≤ n := by have := HNN.out k; rw [HN.out] at this; exact this
            by_cases hin : n % ev = ph
            · have hib : decide (n % ev = ph) = true := by simpa using hin
              have HIN := hide hin
              clear hin
              go_wp2_with (go_at_call 58; refine (in_any _ _ _ _ _ _ hn0 o1).mono ?_; rintro e w4 ⟨rfl, hx4⟩; have hd1' := hx4.cell hd1; have HX4 := hide hx4; clear hx4)
              obtain ⟨bx, offx, b2, off2, m, capw, x, rfl, _, _, hwm, hcx2, hmw, hmw2, hcxx, HXX⟩ := frs_at (HRL.out.ext (HX3.out.trans (hE.trans HX4.out))) (fun y hy => (HWL.out y hy).ext (HX3.out.trans (hE.trans HX4.out))) h8 (by rw [HWORDS.out k h8]; omega : wdn < ((ds xs).getD k default).words.length)
              have HYES := hide (valAt_yes (c := ⟨nm, (wdn : Nat), ev, ph⟩) (fs := ds xs) HN.out HIN.out HXX.out)
              have HO4 := hide (HO2.out.ext HX4.out)
              have hvl := valAt_len ⟨nm, (wdn : Nat), ev, ph⟩ ns (ds xs) k
              generalize valAt ⟨nm, (wdn : Nat), ev, ph⟩ ns (ds xs) k = ps at *
              have hmw3 : capw ≤ 9223372036854775807 := by simpa [maxLen] using hmw2
              have HX3E := hide (hE.trans HX4.out)
              clear hd0 hd1 hd2 hd3 hmw2 hcn4
              refine wp_region_tail (by kernel_rfl) 13 (by decide) (fun j => j + 50) (VaV u6 (.slice (some ⟨bx, offx, none⟩) xs.length capL) (.slice (some ⟨b2, off2, none⟩) m capw) n x k bx offx b2 off2 B wdn) [50, 51, 52, 53, 54, 55, 56, 57, 58, 59, 60, 61, 62] (by decide) (by kernel_rfl) (by decide +kernel) (by kernel_rfl) (by kernel_rfl) (by kernel_rfl) (by kernel_rfl) (by kernel_rfl)
                Ext ((Ext.refl w4).drew) (fun _ _ _ h k => h.trans k) (fun j v A B h k => VaV.mono h k) ?_ ?_
              · refine ⟨?_, ?_, ?_, ?_, ?_, ?_, ?_, ?_, ?_, ?_, ?_, ?_, ?_, trivial⟩
                all_goals
                  intro x W hd hR
                  simp [Region.binds, VaV] at hd
                  refine ⟨fun _ K hK => ?_, by intro g b h hn; first | (cases h; done) | (cases h; exact absurd (by simp [hd]) hn)⟩
                  simp only [fill, Act.put, List.setIfInBounds_toArray, List.set_cons_succ, List.set_cons_zero, VaV] at hK ⊢
                  try simp only [hd] at hK ⊢
                  have q1 := hR.cell hd1'
                  have q2 := hR.cell hcx2
                  have q3 := hR.cell hcxx
                  go_simp
                  try exact hK _ _ rfl (Ext.refl _)
                exact hK _ _ ⟨W.heap.size, rfl, (Own.lit W 0 44 2 1 _ (Nat.zero_le _) rfl (by simp [maxLen])).src⟩ ((Ext.refl W).alloc _)
              · intro X W hv hR
                have x0 : X 50 = u6 := hv 0 (by decide)
                obtain ⟨g, x12, hsrc⟩ : ∃ g, X 62 = .slice (some ⟨g, 0, none⟩) 1 1 ∧ Src W (some ⟨g, 0, none⟩) 1 2 [.int .i64 n, .int .i64 x] := hv 12 (by decide)
                have HSRC := hide hsrc
                have HR4 := hide hR
                have hsz := (HX3E.out.trans hR).size
                clear hv hR hsrc
                simp only [fill, List.setIfInBounds_toArray, List.set_cons_succ, List.set_cons_zero, x0, x12, List.drop_succ_cons, List.drop_zero]
                refine wpList_app rfl (.tmp 50) (.tmp 62) 40 rfl w3.heap.size 44 iV _ 2 16 Try.underlying40 hiV hzV0 hzV1 hzV2 rfl _ ps.length _ rfl (HO4.out.ext HR4.out) _ 1 1 [.int .i64 n, .int .i64 x] rfl HSRC.out (by simp [Value.oneCell']) (by simp [maxLen]; omega) (by omega) hsz ?_
                intro v6 w6 hown hb6
                go_wp2
                go_roundw
                case rel => exact ⟨k + 1, by omega, by go_num, (HX3E.out.trans HR4.out).step hb6 (Nat.le_refl _), by rw [HYES.out, List.length_append, List.flatMap_append]; exact hide hown⟩
                case measure => simp [intOf]; omega
            · have hib : decide (n % ev = ph) = false := by simpa using hin
              have HNO := hide (valAt_no (c := ⟨nm, wdn, ev, ph⟩) (fs := ds xs) HN.out hin)
              clear hin
              go_wp2_with (go_at_call 58; refine (in_any _ _ _ _ _ _ hn0 o1).mono ?_; rintro e w4 ⟨rfl, hx4⟩)
              go_roundw
              case rel => exact ⟨k + 1, by omega, by go_num, hE.trans hx4, by rw [HNO.out]; exact hide (HO2.out.ext hx4)⟩
              case measure => simp [intOf]; omega
          · obtain rfl : k = xs.length := by omega
            obtain ⟨A6, cap6, rfl, _, _, _⟩ := HO2.out.form
            go_wp2
            go_ret2
            exact ⟨_, by rw [HER.out]; rfl, by rw [valsOf_ok HER.out, Int.toNat_natCast, HC.out, ← HDS.out, HNS.out, hdl]; exact Own.vals HO2.out, (HXW.out.trans HX3.out).trans hE⟩
      · have hzb : (re != 0) = true := by simpa using hz
        have HZ := hide hz
        clear hz
        go_wp2_with (go_at_call 67; refine Calls.mono HRW.out ?_; rintro e w2 ⟨lv, nv, xs, rfl, _, _, hx2⟩; have HX2 := hide hx2; clear hx2)
        go_ret2
        exact ⟨_, by rw [HER.out]; rfl, by rw [valsOf_bad (by rw [HER.out]; exact HZ.out)]; exact ValsV.nil _, (HX0.out.trans HX.out).trans HX2.out⟩
  · have h0 : (tapeErr f l.length first != 0) = true := by simp [h]
    have HER := hide (valErr_tape (ch := ch) h)
    have H := hide h
    clear h
    go_enter Try.func29, Try.ntmps29
    go_wp2_with (go_at_call 66; refine Calls.mono HT.out ?_; rintro e w1 ⟨rfl, hx⟩; have hcc := hx.cells; have HX := hide hx; clear hx)
    go_ret2
    exact ⟨_, by rw [HER.out]; rfl, by rw [valsOf_bad (by rw [HER.out]; exact H.out)]; exact ValsV.nil _, HX0.out.trans HX.out⟩
end Go.Proofs.Ytjnnkcnnandeeaa
