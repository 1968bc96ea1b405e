/- The walk of FrameJoin. -/
import Derived.Test.YtjnnkcnnandeeaaPJoin
import Derived.Test.YtjnnkcnnandeeaaWRound
import Derived.Deep.RegionHeld3
import Derived.Deep.DeepCutAuto
import Derived.BigQuiet
namespace Go.Proofs.Ytjnnkcnnandeeaa
open Go.RowKit Go.Shelf
section
variable {f : Fmt} {x : SentD} {b : List Nat}
theorem framesJ (h : bytesOk f x = true) (hw : ∀ y ∈ x.words, 0 ≤ y ∧ y < 65536) (hb : ∀ x ∈ b, x < 256) :
    framesOf f (sBytes f x ++ b) = framesOf f (sBytes f x) ++ (framesOf f b).map (shiftF (sBytes f x).length) := by
  obtain ⟨b1, b2, b3⟩ := bytesOk_t h
  obtain ⟨c1, c2, c3, c4, c5, _⟩ := chk_ok b1
  rw [frames_sent h hw]
  exact frames_join (sPairs_ok c4 hw _) hb
theorem gapsJ (h : bytesOk f x = true) (hw : ∀ y ∈ x.words, 0 ≤ y ∧ y < 65536) (hb : ∀ x ∈ b, x < 256) :
    gapsOf f (sBytes f x ++ b) = (gapsOf f b).map (shiftG (sBytes f x).length) := by
  obtain ⟨b1, b2, b3⟩ := bytesOk_t h
  obtain ⟨c1, c2, c3, c4, c5, _⟩ := chk_ok b1
  exact gaps_join (sPairs_ok c4 hw _) hb
end
theorem scan_pos (f : Fmt) (l : List Nat) : ∀ k p, ∀ y ∈ scan f l k p, y.pos ≤ l.length
  | 0, _, y, h => by cases h
  | k + 1, p, y, h => by
    rw [scan] at h
    split at h
    · split at h
      · rcases List.mem_cons.1 h with h | h
        · rw [h]; unfold frAt; dsimp only; omega
        · exact scan_pos f l k _ y h
      · exact scan_pos f l k _ y h
    · cases h
theorem gapsFrom_le {z len : Nat} : ∀ (xs : List FrD) (a : Nat), (∀ y ∈ xs, y.pos ≤ len) → ∀ g ∈ gapsFrom z len a xs, g.1 ≤ len ∧ g.2 ≤ len
  | [], a, _, g, h => by
    rw [gapsFrom] at h
    split at h
    · rw [List.mem_singleton.1 h]; exact ⟨by dsimp only; omega, Nat.le_refl _⟩
    · cases h
  | x :: xs, a, hp, g, h => by
    rw [gapsFrom] at h
    rcases List.mem_append.1 h with h | h
    · split at h
      · have := hp x (by simp)
        rw [List.mem_singleton.1 h]
        exact ⟨by dsimp only; omega, this⟩
      · cases h
    · exact gapsFrom_le xs _ (fun y hy => hp y (by simp [hy])) g h
theorem getD_mem' {α : Type} {l : List α} {i : Nat} (d : α) (h : i < l.length) : l.getD i d ∈ l := by
  rw [List.getD_eq_getElem?_getD, List.getElem?_eq_getElem h, Option.getD_some]; exact List.getElem_mem _
theorem frames_pos {f : Fmt} {l : List Nat} {i : Nat} (h : i < (framesOf f l).length) : ((framesOf f l).getD i default).pos ≤ l.length :=
  scan_pos f l _ _ _ (getD_mem' default h)
theorem gaps_pos {f : Fmt} {l : List Nat} {i : Nat} (h : i < (gapsOf f l).length) : ((gapsOf f l).getD i (0, 0)).1 ≤ l.length ∧ ((gapsOf f l).getD i (0, 0)).2 ≤ l.length :=
  gapsFrom_le _ _ (fun y hy => scan_pos f l _ _ y hy) _ (getD_mem' (0, 0) h)
namespace FrameJoinLaw
theorem cell_mj (w : World) (cs : Array Value) (t : TypeId) (k : Nat) (u : Value) (h : cs[k]? = some u) : (w.alloc (.cells cs t)).cell? ⟨w.heap.size, k, none⟩ = some u := by
  have := cell_of_row (w.alloc (.cells cs t)) w.heap.size k cs t (0, 0) (heap_alloc_new w _)
  rw [this]; exact h
theorem size_alloc (w : World) (o : Obj) : (w.alloc o).heap.size = w.heap.size + 1 := by simp
theorem joinB {w : World} {base n : Nat} {v : Value} {a b : List Nat} (h : Own w base 5 1 v n ([] ++ a.map byteV ++ b.map byteV)) (hl : ∀ y ∈ a ++ b, y < 256) : BytesV w v (a ++ b) := by
  rw [List.nil_append, ← List.map_append] at h
  exact Own.bytes h hl
set_option linter.unusedSimpArgs false in
set_option maxRecDepth 100000 in
set_option maxHeartbeats 4000000 in
theorem walk {v u z : Value} {f : Fmt} {x : SentD} {bl : List Nat} {w : World} (hv : FmtV w v f) (hu : SentV w u x) (hb : BytesV w z bl) (hlen : x.steps.length ≤ 1048576) (hbl : bl.length ≤ 1048576) :
    Calls Try.prog 10 #[v, u, z] w fun e w' => e = .returned (.bool true) ∧ Below w.heap.size w w' := by
  have HV := hide hv
  have HU := hide hu
  have HB := hide hb
  have HWB := hide hu.1
  obtain ⟨_, _, AF, capF, rfl, _, _, _⟩ := hv
  obtain ⟨_, s, t, rfl, ⟨hst, As, caps, rfl, _, _, _⟩, ⟨A, cap, rfl, _, _, _⟩⟩ := hu
  obtain ⟨hlt, Ab, capb, rfl, hcb, hmb, _⟩ := hb
  have hmb' : capb ≤ 9223372036854775807 := by simpa [maxLen] using hmb
  have HLT := hide hlt
  clear hst hlt hmb
  obtain ⟨W0, hW0⟩ : ∃ W0, (w.alloc (.cells #[.string f.sync, .int .i64 f.words, .int .i64 f.depth, .slice AF f.channels.length capF] 28)).alloc (.cells #[.int .i64 x.first, .slice As x.steps.length caps, .slice A x.words.length cap] 55) = W0 := ⟨_, rfl⟩
  have hx0 : Ext w W0 := by rw [← hW0]; exact ((Ext.refl w).alloc _).alloc _
  have hA0 : Ext (w.alloc (.cells #[.string f.sync, .int .i64 f.words, .int .i64 f.depth, .slice AF f.channels.length capF] 28)) W0 := by rw [← hW0]; exact (Ext.refl _).alloc _
  have g0 : W0.cell? ⟨w.heap.size, 0, none⟩ = some (.string f.sync) := by have := hA0.cell (cell_mj w _ 28 0 (.string f.sync) rfl); simpa only [size_alloc] using this
  have g1 : W0.cell? ⟨w.heap.size, 1, none⟩ = some (.int .i64 f.words) := by have := hA0.cell (cell_mj w _ 28 1 (.int .i64 f.words) rfl); simpa only [size_alloc] using this
  have g2 : W0.cell? ⟨w.heap.size, 2, none⟩ = some (.int .i64 f.depth) := by have := hA0.cell (cell_mj w _ 28 2 (.int .i64 f.depth) rfl); simpa only [size_alloc] using this
  have g3 : W0.cell? ⟨w.heap.size, 3, none⟩ = some (.slice AF f.channels.length capF) := by have := hA0.cell (cell_mj w _ 28 3 (.slice AF f.channels.length capF) rfl); simpa only [size_alloc] using this
  have hA1 : Ext ((w.alloc (.cells #[.string f.sync, .int .i64 f.words, .int .i64 f.depth, .slice AF f.channels.length capF] 28)).alloc (.cells #[.int .i64 x.first, .slice As x.steps.length caps, .slice A x.words.length cap] 55)) W0 := by rw [← hW0]; exact Ext.refl _
  have s0 : W0.cell? ⟨w.heap.size + 1, 0, none⟩ = some (.int .i64 x.first) := by have := hA1.cell (cell_mj (w.alloc _) _ 55 0 (.int .i64 x.first) rfl); simpa only [size_alloc] using this
  have s1 : W0.cell? ⟨w.heap.size + 1, 1, none⟩ = some (.slice As x.steps.length caps) := by have := hA1.cell (cell_mj (w.alloc _) _ 55 1 (.slice As x.steps.length caps) rfl); simpa only [size_alloc] using this
  have s2 : W0.cell? ⟨w.heap.size + 1, 2, none⟩ = some (.slice A x.words.length cap) := by have := hA1.cell (cell_mj (w.alloc _) _ 55 2 (.slice A x.words.length cap) rfl); simpa only [size_alloc] using this
  clear hA0 hA1
  have HX0 := hide hx0
  have HW0 := hide hW0
  have HA := hide awake_any
  have HSB := hide (sbytes_any _ _ x f W0 (HU.out.ext hx0) (HV.out.ext hx0) hlen)
  unfold SbR at HSB
  clear hW0 hx0
  cases hok : bytesOk f x with
  | false =>
    rw [hok] at HSB
    clear hok
    go_enter Try.func10, Try.ntmps10
    go_wp2_with fail
    rw [HW0.out]
    refine Calls.mono HSB.out ?_
    rintro e w1 ⟨r, l, rfl, _, hx1⟩
    go_wp2_with (go_at_call 21; refine (HA.out _).mono ?_; rintro e w5 ⟨rfl, hx5⟩)
    go_ret
    exact ⟨rfl, (HX0.out.trans hx1).trans hx5⟩
  | true =>
    obtain ⟨b1, b2, b3⟩ := bytesOk_t hok
    have HDE := hide (decErr_sent hok)
    have HGA := hide (gaps_sent hok HWB.out)
    have HFJ := hide (framesJ hok HWB.out HLT.out)
    have HGJ := hide (gapsJ hok HWB.out HLT.out)
    have HCH := hide b1
    rw [hok] at HSB
    have HDC := hide (fun W b l (hx : Ext w W) (hb : BytesV W b l) => decode_any _ b f l W (HV.out.ext hx) hb)
    unfold DecR at HDC
    clear hok b1 b2
    go_enter Try.func10, Try.ntmps10
    go_wp2_with fail
    rw [HW0.out]
    refine Calls.mono HSB.out ?_
    rintro e w1 ⟨r, l, rfl, hrl, hx1⟩
    obtain ⟨hr, hl⟩ := hrl trivial
    have HX1 := hide (HX0.out.trans hx1)
    have HR := hide hr
    obtain ⟨_, Ar, capr, rfl, hcr, hmr, _⟩ := hr
    have hmr' : capr ≤ 9223372036854775807 := by simpa [maxLen] using hmr
    have g0' := hx1.cell g0
    have g1' := hx1.cell g1
    have g2' := hx1.cell g2
    have g3' := hx1.cell g3
    have HLS := hide b3
    clear hx1 hrl hmr hl
    obtain ⟨L, hL⟩ : ∃ L, (sBytes f x).length = L := ⟨_, rfl⟩
    rw [hL] at b3
    have HL := hide hL
    rw [hL] at HR ⊢
    clear hL
    by_cases hbig : 4000 < L + bl.length
    · have hbg1 : decide ((4000 : Int) < (L : Int) + (bl.length : Int)) = true := by simp; omega
      have hbg2 : decide (4000 < L + bl.length) = true := by simp; omega
      go_wp2_with (go_at_call 21; refine (HA.out _).mono ?_; rintro e w5 ⟨rfl, hx5⟩)
      go_ret
      exact ⟨rfl, HX1.out.trans hx5⟩
    · have hbg1 : decide ((4000 : Int) < (L : Int) + (bl.length : Int)) = false := by simp; omega
      have hbg2 : decide (4000 < L + bl.length) = false := by simp; omega
      have HDA := hide (fun W (hx : Ext w1 W) => HDC.out W _ (sBytes f x) (HX1.out.trans hx) (HR.out.ext hx))
      have HDB := hide (fun W (hx : Ext w1 W) => HDC.out W _ bl (HX1.out.trans hx) (HB.out.ext (HX1.out.trans hx)))
      simp only [HDE.out] at HDA
      simp only [decErr_ok HCH.out (show ¬ 4000 < bl.length by omega)] at HDB
      have HDJ := hide (fun W v (hx : Ext w1 W) (hv : BytesV W v (sBytes f x ++ bl)) => HDC.out W v (sBytes f x ++ bl) (HX1.out.trans hx) hv)
      simp only [decErr_ok HCH.out (show ¬ 4000 < (sBytes f x ++ bl).length by rw [List.length_append, HL.out]; omega)] at HDJ
      go_wp2_with fail
      refine (HDA.out _ (Ext.refl _)).mono ?_
      rintro e w2 ⟨lv1, gv1, rfl, h1, _, hx2⟩
      obtain ⟨xs1, hds1, hfr1, hga1⟩ := h1 trivial
      have HDS1 := hide hds1
      have hdl1 := ds_len xs1
      rw [hds1] at hdl1
      obtain ⟨AL1, capL1, rfl, hcL1, hmL1, _, _⟩ := hfr1
      have hgn : gapsOf f (sBytes f x) = [] := HGA.out
      rw [hgn] at hga1
      obtain ⟨AG1, capG1, rfl, _, _, _⟩ := hga1
      have g0'' := hx2.cell g0'
      have g1'' := hx2.cell g1'
      have g2'' := hx2.cell g2'
      have g3'' := hx2.cell g3'
      have hmL1' : capL1 ≤ 9223372036854775807 := by simpa [maxLen] using hmL1
      have hgl : ([] : List (Nat × Nat)).length = 0 := rfl
      have HX2 := hide hx2
      have HDL1 := hide hdl1
      clear h1 hds1 hdl1 hx2 hgn hmL1
      go_wp2_with fail
      refine (HDB.out _ HX2.out).mono ?_
      rintro e w3 ⟨lv2, gv2, rfl, h2, _, hx3⟩
      obtain ⟨xs2, hds2, hfr2, hga2⟩ := h2 trivial
      have HDS2 := hide hds2
      have hdl2 := ds_len xs2
      rw [hds2] at hdl2
      obtain ⟨AL2, capL2, rfl, hcL2, hmL2, hrL2, hwL2⟩ := hfr2
      obtain ⟨AG2, capG2, rfl, hcG2, hmG2, hrG2⟩ := hga2
      have hmL2' : capL2 ≤ 9223372036854775807 := by simpa [maxLen] using hmL2
      have hmG2' : capG2 ≤ 9223372036854775807 := by simpa [maxLen] using hmG2
      have g0''' := hx3.cell g0''
      have g1''' := hx3.cell g1''
      have g2''' := hx3.cell g2''
      have g3''' := hx3.cell g3''
      have HX3 := hide (HX2.out.trans hx3)
      have HDL2 := hide hdl2
      have HRL2 := hide hrL2
      have HWL2 := hide hwL2
      have HRG2 := hide hrG2
      clear h2 hds2 hdl2 hx3 hmL2 hmG2 hrL2 hwL2 hrG2
      have hb0 := World.block_lt_of_cell? _ _ g0'''
      dsimp only at hb0
      obtain ⟨iR, hiR, hzR0, hzR1, hzR2⟩ := info_parts u8_info
      have hs1 := (HR.out.ext HX3.out).src.2
      have HS1 := hide hs1
      have HS2 := hide ((HB.out.ext (HX1.out.trans HX3.out)).src.2)
      have HLTS := hide (show ∀ y ∈ sBytes f x ++ bl, y < 256 from fun y hy => by
        rcases List.mem_append.1 hy with h | h
        · exact HR.out.1 y h
        · exact HLT.out y h)
      clear hs1
      go_upto_region 6 with (fail)
      go_region_held3 (fun w' => w'.cell? ⟨w.heap.size, 0, none⟩ = some (.string f.sync) ∧ w'.cell? ⟨w.heap.size, 1, none⟩ = some (.int .i64 f.words) ∧ w'.cell? ⟨w.heap.size, 2, none⟩ = some (.int .i64 f.depth) ∧ w'.cell? ⟨w.heap.size, 3, none⟩ = some (.slice AF f.channels.length capF))
        (first | go_keep | (go_split_ands; exact ⟨hx9.cell (hE8.cell g0'''), hx9.cell (hE8.cell g1'''), hx9.cell (hE8.cell g2'''), hx9.cell (hE8.cell g3''')⟩) | (go_split_ands; exact ⟨hE8.cell g0''', hE8.cell g1''', hE8.cell g2''', hE8.cell g3'''⟩) | (go_split_ands; exact ⟨hE7.cell g0''', hE7.cell g1''', hE7.cell g2''', hE7.cell g3'''⟩))
        (first
          | ((refine step_app rfl (.tmp 57) (.tmp 58) 22 (by rfl) w3.heap.size 5 iR _ 1 1 Try.underlying22 hiR hzR0 hzR1 hzR2 rfl _ 0 [] (by rfl) ((Own.lit w3 w3.heap.size 5 1 0 #[] (Nat.le_refl _) rfl (by simp [maxLen])).drew) _ L _ ((sBytes f x).map byteV) (by rfl) (HS1.out.ext (((Ext.refl w3).alloc _).drew)) (byteV_one _) (by simp [maxLen]; omega) (by omega) (by simp) ?_; intro v7 w7 hown7 hb7; have hE7 : Ext w3 w7 := Ext.step (((Ext.refl w3).alloc _).drew) hb7 (Nat.le_refl _); have HO7 := hide hown7; clear hown7 hb7))
          | ((refine step_app rfl (.tmp 59) (.tmp 60) 22 (by rfl) w3.heap.size 5 iR _ 1 1 Try.underlying22 hiR hzR0 hzR1 hzR2 rfl _ (0 + L) _ (by rfl) HO7.out _ bl.length _ (bl.map byteV) (by rfl) (HS2.out.ext hE7) (byteV_one _) (by simp [maxLen]; omega) (by omega) hE7.size ?_; intro v8 w8 hown8 hb8; have hE8 : Ext w3 w8 := Ext.step hE7 hb8 (Nat.le_refl _); have HJB := hide (joinB hown8 HLTS.out); clear hown8 hb8))
          | (go_at_call 31; refine (HDJ.out _ _ (HX3.out.trans hE8) HJB.out).mono ?_; rintro e w9 ⟨lv3, gv3, rfl, h3, _, hx9⟩; dsimp only))
      obtain ⟨xs3, hds3, hfr3, hga3⟩ := h3 trivial
      have HDS3 := hide hds3
      have hdl3 := ds_len xs3
      rw [hds3, HFJ.out, List.length_append, List.length_map] at hdl3
      obtain ⟨AL3, capL3, rfl, hcL3, hmL3, hrL3, hwL3⟩ := hfr3
      rw [HGJ.out, HL.out] at hga3
      obtain ⟨AG3, capG3, rfl, hcG3, hmG3, hrG3⟩ := hga3
      have hmL3' : capL3 ≤ 9223372036854775807 := by simpa [maxLen] using hmL3
      have hmG3' : capG3 ≤ 9223372036854775807 := by simpa [maxLen] using hmG3
      have HX9 := hide (HX1.out.trans ((HX3.out.trans hE8).trans hx9))
      have HRL2' := hide (HRL2.out.ext (hE8.trans hx9))
      have HWL2' := hide (fun y hy => (HWL2.out y hy).ext (hE8.trans hx9))
      have HRG2' := hide (HRG2.out.ext (hE8.trans hx9))
      have HRL3 := hide hrL3
      have HWL3 := hide hwL3
      have HRG3 := hide hrG3
      have hgl3 : ((gapsOf f bl).map (shiftG L)).length = (gapsOf f bl).length := List.length_map _
      rw [hgl3] at hcG3 ⊢
      have HGP := hide (fun i (h : i < (gapsOf f bl).length) => gaps_pos h)
      have HFP := hide (fun i (h : i < (framesOf f bl).length) => frames_pos h)
      have HAT := hide (fun i (h : i < (framesOf f (sBytes f x)).length + (framesOf f bl).length) => show (ds xs3).getD i default = if i < (framesOf f (sBytes f x)).length then (framesOf f (sBytes f x)).getD i default else shiftF (sBytes f x).length ((ds xs2).getD (i - (framesOf f (sBytes f x)).length) default) by
        rw [HDS3.out, HFJ.out, HDS2.out]; exact join_at h)
      have HAG := hide (fun i (h : i < (gapsOf f bl).length) => show ((gapsOf f bl).map (shiftG (sBytes f x).length)).getD i (0, 0) = shiftG (sBytes f x).length ((gapsOf f bl).getD i (0, 0)) by
        rw [List.getD_eq_getElem?_getD, List.getElem?_map, List.getElem?_eq_getElem h, List.getD_eq_getElem?_getD, List.getElem?_eq_getElem h]; rfl)
      rw [HL.out] at HAT HAG
      have HF2 := hide (show ∀ i, i < xs2.length → ((ds xs2).getD i default).pos ≤ bl.length from fun i h => by rw [HDS2.out]; exact HFP.out i (by rw [HDL2.out]; exact h))
      rw [HDL1.out, HDL2.out] at HAT hdl3
      generalize hG : gapsOf f bl = G at *
      clear h3 hds3 hx9 hE8 hE7 hmL3 hmG3 hrL3 hwL3 hrG3 hgl3 hG HFP HDL1 HDL2 HDS1 HDS2 HDS3 HFJ HGJ HS1 HS2 HLTS HJB HO7 HDA HDB HDJ HDC HSB
      have HD3 := hide hdl3
      have hn3 : ((xs3.length : Int) != (xs1.length : Int) + (xs2.length : Int)) = false := by rw [bne_eq_false_iff_eq]; omega
      have hn4 : (xs1.length : Int) + (xs2.length : Int) ≤ 9223372036854775807 := by omega
      have hn5 : ((G.length : Int) != (G.length : Int)) = false := by simp
      clear hdl3
      go_wp2_with fail
      clear hn3 hn5
      go_loopw [19] (fun v19 wr => Ext w9 wr ∧ ∃ i : Nat, i ≤ xs3.length ∧ v19 = .int .i64 i) (fun v19 _ => xs3.length - (intOf v19).toNat)
      case atStart => exact ⟨Ext.refl _, 0, by omega, rfl⟩
      case round =>
        obtain ⟨hE, i, hi, rfl⟩ := hrel
        have HE := hide hE
        by_cases h8 : i < xs3.length
        · obtain ⟨bx, ox, Bw, mw, cw, rfl, r0, r1, r2, hiw⟩ := frs_row (HRL3.out.ext hE) (fun y hy => (HWL3.out y hy).ext hE) h8
          have hat := HAT.out i (by have := HD3.out; omega)
          obtain ⟨fr, hfr⟩ : ∃ fr, (ds xs3).getD i default = fr := ⟨_, rfl⟩
          rw [hfr] at r0 r1 hiw hat
          clear hfr
          obtain ⟨fp, fc, fw⟩ := fr
          dsimp only at r0 r1 hiw
          by_cases h7 : i < xs1.length
          · have h71 : decide ((xs1.length : Int) ≤ (i : Int)) = false := by simp; omega
            have h72 : decide (xs1.length ≤ i) = false := by simp; omega
            have HII := hide (fun V (e : Ext wr V) => ints_any (.slice Bw mw cw) (.slice Bw mw cw) fw fw V (hiw.ext e) (hiw.ext e))
            rw [decide_eq_true rfl] at HII
            clear hE hiw hat
            go_wp2_with fail
            obtain ⟨W3, hW3⟩ : ∃ W3, wr.alloc (.cells #[.int .i64 (fp : Nat), .int .i64 (fc : Nat), .slice Bw mw cw] 59) = W3 := ⟨_, rfl⟩
            have hx3 : Ext wr W3 := by rw [← hW3]; exact (Ext.refl _).alloc _
            have z1 : W3.cell? ⟨wr.heap.size, 1, none⟩ = some (.int .i64 (fc : Nat)) := by rw [← hW3]; exact cell_mj wr _ 59 1 _ rfl
            have z2 : W3.cell? ⟨wr.heap.size, 2, none⟩ = some (.slice Bw mw cw) := by rw [← hW3]; exact cell_mj wr _ 59 2 _ rfl
            have q1 := hx3.cell r1
            have q2 := hx3.cell r2
            rw [hW3]
            have HX3' := hide hx3
            have HE3 := hide (HE.out.trans hx3)
            clear hx3 hW3 r0 r1 r2
            have hself : ((fc : Int) != (fc : Int)) = false := by simp
            apply wp_region_f (131 :: 132 :: 133 :: 134 :: 135 :: 136 :: 137 :: 138 :: 139 :: 140 :: 141 :: 142 :: 143 :: 144 :: 145 :: 146 :: 147 :: 148 :: 149 :: [])
              (.is _ :: .is _ :: .is _ :: .is _ :: .is _ :: .is _ :: .is _ :: .is _ :: .is _ :: .is _ :: .is _ :: .is _ :: .is _ :: .is _ :: .is _ :: .is _ :: .is _ :: .is _ :: .is _ :: [])
              [(16, _), (19, _), (20, _)]
            · kernel_rfl
            · decide
            · rfl
            · kernel_rfl
            · decide +kernel
            · kernel_rfl
            · kernel_rfl
            · kernel_rfl
            · kernel_rfl
            · rfl
            · exact ⟨trivial, trivial, trivial, trivial, trivial, trivial, trivial, trivial, trivial, trivial, trivial, trivial, trivial, trivial, trivial, trivial, trivial, trivial, trivial, trivial⟩
            · refine ⟨?_, ?_, ?_, trivial⟩ <;> (simp; rfl)
            · repeat
                refine ⟨?_, ?_⟩
                · intro F W hF hd hR
                  simp [fixedAt] at hF
                  obtain ⟨t16, t19, t20⟩ := hF
                  simp [Region.binds, Ent.holds] at hd
                  refine ⟨fun _ K hK => ?_, by intro g b h hn; first | (cases h; done) | (cases h; exact absurd (by simp [hd, hself]) hn)⟩
                  simp only [Ent.holds, List.getD_cons_zero, List.getD_cons_succ] at hK
                  have r0' := hR.cell z1
                  have r1' := hR.cell z2
                  have r2' := hR.cell q1
                  have r3' := hR.cell q2
                  go_simp
                  first
                    | exact hK _ _ rfl (Ext.refl _)
                    | (with_reducible refine (HII.out _ (HX3'.out.trans hR)).mono ?_
                       rintro e w4 ⟨rfl, hx4⟩
                       exact hK _ _ rfl hx4)
              exact trivial
            intro X W hx hR
            simp only [toldX] at hx
            simp only [fillX, List.setIfInBounds_toArray, List.set_cons_succ, List.set_cons_zero]
            have HE4 := hide (HE3.out.trans hR)
            clear hx hR
            go_wp2_with fail
            go_roundw
            case rel => exact ⟨HE4.out, i + 1, by omega, by go_num⟩
            case measure => simp [intOf]; omega
          · have h71 : decide ((xs1.length : Int) ≤ (i : Int)) = true := by simp; omega
            have h72 : decide (xs1.length ≤ i) = true := by simp; omega
            rw [if_neg h7] at hat
            have hj : i - xs1.length < xs2.length := by have := HD3.out; omega
            obtain ⟨by2, oy2, Bv, mv, cv, rfl, s0, s1, s2, hiv⟩ := frs_row (HRL2'.out.ext hE) (fun y hy => (HWL2'.out y hy).ext hE) hj
            have hpos := HF2.out _ hj
            obtain ⟨gr, hgr⟩ : ∃ gr, (ds xs2).getD (i - xs1.length) default = gr := ⟨_, rfl⟩
            rw [hgr] at s0 s1 hiv hat hpos
            clear hgr
            obtain ⟨gp, gc, gw⟩ := gr
            dsimp only at s0 s1 hiv hpos
            unfold shiftF at hat
            injection hat with hat1 hat2 hat3
            dsimp only at hat1 hat2 hat3
            subst hat2 hat3
            have HII := hide (fun V (e : Ext wr V) => ints_any (.slice Bv mv cv) (.slice Bw mw cw) fw fw V (hiv.ext e) (hiw.ext e))
            rw [decide_eq_true rfl] at HII
            have hkm : IntKind.i64.wrap ((i : Int) - (xs1.length : Int)) = ((i - xs1.length : Nat) : Int) := by rw [IntKind.wrap_i64]; omega
            have hpp : ((gp : Int) + (L : Int) != (fp : Int)) = false := by rw [bne_eq_false_iff_eq]; omega
            have hlt2 := World.block_lt_of_cell? _ _ s0
            dsimp only at hlt2
            clear hE hiw hiv
            have HAT1 := hide hat1
            clear hat1
            go_upto_region 15 with (fail)
            obtain ⟨W3, hW3⟩ : ∃ W3, wr.alloc (.cells #[.int .i64 (gp : Nat), .int .i64 (fc : Nat), .slice Bv mv cv] 59) = W3 := ⟨_, rfl⟩
            have hx3 : Ext wr W3 := by rw [← hW3]; exact (Ext.refl _).alloc _
            have z0 : W3.cell? ⟨wr.heap.size, 0, none⟩ = some (.int .i64 (gp : Nat)) := by rw [← hW3]; exact cell_mj wr _ 59 0 _ rfl
            have z1 : W3.cell? ⟨wr.heap.size, 1, none⟩ = some (.int .i64 (fc : Nat)) := by rw [← hW3]; exact cell_mj wr _ 59 1 _ rfl
            have z2 : W3.cell? ⟨wr.heap.size, 2, none⟩ = some (.slice Bv mv cv) := by rw [← hW3]; exact cell_mj wr _ 59 2 _ rfl
            have q0 := hx3.cell r0
            have q1 := hx3.cell r1
            have q2 := hx3.cell r2
            rw [hW3]
            have HX3' := hide hx3
            have HE3 := hide (HE.out.trans hx3)
            clear hx3 hW3 r0 r1 r2 s0 s1 s2 hkm
            have hsw : IntKind.i64.wrap ((gp : Int) + (L : Int)) = (gp : Int) + (L : Int) := by rw [IntKind.wrap_i64]; omega
            go_quiet (fail)
            clear hsw hpp
            go_wp2_with fail
            have hself : ((fc : Int) != (fc : Int)) = false := by simp
            go_upto_region 17 with (fail)
            apply wp_region_f (131 :: 132 :: 133 :: 134 :: 135 :: 136 :: 137 :: 138 :: 139 :: 140 :: 141 :: 142 :: 143 :: 144 :: 145 :: 146 :: 147 :: 148 :: 149 :: [])
              (.is _ :: .is _ :: .is _ :: .is _ :: .is _ :: .is _ :: .is _ :: .is _ :: .is _ :: .is _ :: .is _ :: .is _ :: .is _ :: .is _ :: .is _ :: .is _ :: .is _ :: .is _ :: .is _ :: [])
              [(16, _), (19, _), (20, _)]
            · kernel_rfl
            · decide
            · rfl
            · kernel_rfl
            · decide +kernel
            · kernel_rfl
            · kernel_rfl
            · kernel_rfl
            · kernel_rfl
            · rfl
            · exact ⟨trivial, trivial, trivial, trivial, trivial, trivial, trivial, trivial, trivial, trivial, trivial, trivial, trivial, trivial, trivial, trivial, trivial, trivial, trivial, trivial⟩
            · refine ⟨?_, ?_, ?_, trivial⟩ <;> (simp; rfl)
            · repeat
                refine ⟨?_, ?_⟩
                · intro F W hF hd hR
                  simp [fixedAt] at hF
                  obtain ⟨t16, t19, t20⟩ := hF
                  simp [Region.binds, Ent.holds] at hd
                  refine ⟨fun _ K hK => ?_, by intro g b h hn; first | (cases h; done) | (cases h; exact absurd (by simp [hd, hself]) hn)⟩
                  simp only [Ent.holds, List.getD_cons_zero, List.getD_cons_succ] at hK
                  have r0' := hR.cell z1
                  have r1' := hR.cell z2
                  have r2' := hR.cell q1
                  have r3' := hR.cell q2
                  go_simp
                  first
                    | exact hK _ _ rfl (Ext.refl _)
                    | (with_reducible refine (HII.out _ (HX3'.out.trans (((Ext.refl _).drewN _).trans hR))).mono ?_
                       rintro e w4 ⟨rfl, hx4⟩
                       exact hK _ _ rfl hx4)
              exact trivial
            intro X W hx hR
            simp only [toldX] at hx
            simp only [fillX, List.setIfInBounds_toArray, List.set_cons_succ, List.set_cons_zero]
            have HE4 := hide (HE3.out.trans ((Ext.refl _).drewN _ |>.trans hR))
            clear hx hR
            go_wp2_with fail
            go_roundw
            case rel => exact ⟨HE4.out, i + 1, by omega, by go_num⟩
            case measure => simp [intOf]; omega
        · have hlen9 := HD3.out
          clear hE
          go_wp2_with fail
          go_loopw [22] (fun v22 wr => Ext w9 wr ∧ ∃ i : Nat, i ≤ G.length ∧ v22 = .int .i64 i) (fun v22 _ => G.length - (intOf v22).toNat)
          case atStart => exact ⟨HE.out, 0, by omega, rfl⟩
          case round =>
            obtain ⟨hE, k, hk, rfl⟩ := hrel
            have HE := hide hE
            by_cases h6 : k < G.length
            · obtain ⟨b1, o1, rfl, p0, p1⟩ := gaps_row (HRG3.out.ext hE) (by rw [List.length_map]; exact h6)
              obtain ⟨b2, o2, rfl, q0, q1⟩ := gaps_row (HRG2'.out.ext hE) h6
              rw [HAG.out k h6] at p0 p1
              obtain ⟨hg1, hg2⟩ := HGP.out k h6
              obtain ⟨⟨ga, gb⟩, hgg⟩ : ∃ g, G.getD k (0, 0) = g := ⟨_, rfl⟩
              rw [hgg] at p0 p1 q0 q1 hg1 hg2
              unfold shiftG at p0 p1
              dsimp only at p0 p1 q0 q1 hg1 hg2
              have hs1 : IntKind.i64.wrap ((ga : Int) + (L : Int)) = (ga : Int) + (L : Int) := by rw [IntKind.wrap_i64]; omega
              have hs2 : IntKind.i64.wrap ((gb : Int) + (L : Int)) = (gb : Int) + (L : Int) := by rw [IntKind.wrap_i64]; omega
              have hs3 : (((ga + L : Nat) : Int) != (ga : Int) + (L : Int)) = false := by rw [bne_eq_false_iff_eq]; omega
              have hs4 : (((gb + L : Nat) : Int) != (gb : Int) + (L : Int)) = false := by rw [bne_eq_false_iff_eq]; omega
              have hs5 : ((ga : Int) + (L : Int) != (ga : Int) + (L : Int)) = false := by simp
              have hs6 : ((gb : Int) + (L : Int) != (gb : Int) + (L : Int)) = false := by simp
              clear hE hgg
              go_upto_region 22 with (fail)
              go_quiet (fail)
              clear hs1 hs2 hs3 hs4 hs5 hs6
              go_wp2_with fail
              go_roundw
              case rel => exact ⟨HE.out.drewN _, k + 1, by omega, by go_num⟩
              case measure => simp [intOf]; omega
            · go_wp2_with (go_at_call 21; refine (HA.out _).mono ?_; rintro e w10 ⟨rfl, hx10⟩)
              go_ret
              exact ⟨rfl, HX9.out.trans (HE.out.trans hx10)⟩
end FrameJoinLaw
end Go.Proofs.Ytjnnkcnnandeeaa

