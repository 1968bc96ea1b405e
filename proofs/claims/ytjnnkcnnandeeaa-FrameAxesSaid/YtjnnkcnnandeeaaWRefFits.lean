/- The walk of the reference's fits. -/
import Derived.Test.YtjnnkcnnandeeaaWFits
import Derived.Test.YtjnnkcnnandeeaaDetT
namespace Go.Proofs.Ytjnnkcnnandeeaa
open Go.RowKit
/-- A pointer to a new channel of zeros. -/
def NewC (base : Nat) (v : Value) (w : World) : Prop := ∃ g, v = .pointer (some ⟨g, 0, none⟩) ∧ base ≤ g ∧ w.heap[g]? = some (.cells #[.string ByteArray.empty, .int .i64 0, .int .i64 0, .int .i64 0] 83 (0, 0))
theorem NewC.ext {base : Nat} {v : Value} {A B : World} (h : NewC base v A) (k : Ext A B) : NewC base v B := by
  obtain ⟨g, h1, h2, h3⟩ := h
  exact ⟨g, h1, h2, (Below.block k g (Array.getElem?_eq_some_iff.1 h3).1).trans h3⟩
set_option maxRecDepth 100000 in
set_option maxHeartbeats 4000000 in
/-- ref.fits -/
theorem refFits_any (v u : Value) (f : Fmt) (s : Sky) (i : Nat) (r : RepH) (B : Option Addr) (m cp : Nat) (w : World) (hv : FmtV w v f) (hu : SkyV w u s) (hok : SkyOk f s) (hi : i < s.dirs.length) (hr : RepOk f r) (hw : IntsV w .i64 (.slice B m cp) r.words) :
    Calls Try.prog 92 #[v, u, .int .i64 i, .agg #[.int .i64 r.num, .int .i64 r.frm, .int .i64 r.agr, .bool r.marked, .slice B m cp]] w fun e w' => e = .returned (.bool (fitsB f s (s.dirs.getD i default) r)) ∧ Ext w w' := by
  have HV := hide hv
  have HOK := hide hok
  have HD := hide (dirErr_0 (hok.dirs i hi)).1
  obtain ⟨_, _, AF, capF, rfl, hcF, hmF, hrF⟩ := hv
  have hmF' : capF ≤ 9223372036854775807 := by simpa [maxLen] using hmF
  obtain ⟨A1, c1, A2, c2, rfl, hl1, hm1, hl2, hm2, hr1, hr2⟩ := hu
  have hn1 : c1 ≤ 9223372036854775807 := by simpa [maxLen] using hm1
  have hn2 : c2 ≤ 9223372036854775807 := by simpa [maxLen] using hm2
  have HRF := hide hrF
  have HR1 := hide hr1
  have HR2 := hide hr2
  obtain ⟨Bw, cw, ew, hcw, hmw, hrw⟩ := hw
  injection ew with e1 e2 e3
  subst e1 e2 e3
  have hmw' : cp ≤ 9223372036854775807 := by simpa [maxLen] using hmw
  have HRW := hide hrw
  have HFT := hide (@fitsB_t f s (s.dirs.getD i default) r)
  have HFF := hide (fun (k : Nat) => @fitsB_f f s (s.dirs.getD i default) r k)
  have HRO := hide hr
  obtain ⟨hwl, hwb, hn0, hnn1⟩ := hr
  have h6 := hok.pre.2.1
  clear hmF hrF hr1 hr2 hm1 hm2 hrw hmw hok hwb
  obtain ⟨W0, hW0⟩ : ∃ W0, ((w.alloc (.cells #[.string f.sync, .int .i64 f.words, .int .i64 f.depth, .slice AF f.channels.length capF] 28)).alloc (.cells #[.slice A1 s.dirs.length c1, .int .i64 s.turn, .slice A2 s.sens.length c2] 76)).alloc (.cells #[.int .i64 r.num, .int .i64 r.frm, .int .i64 r.agr, .bool r.marked, .slice B r.words.length cp] 97) = W0 := ⟨_, rfl⟩
  have hx0 : Ext w W0 := by rw [← hW0]; exact (((Ext.refl w).alloc _).alloc _).alloc _
  have hA : Ext (w.alloc (.cells #[.string f.sync, .int .i64 f.words, .int .i64 f.depth, .slice AF f.channels.length capF] 28)) W0 := by rw [← hW0]; exact ((Ext.refl _).alloc _).alloc _
  have hB : Ext ((w.alloc (.cells #[.string f.sync, .int .i64 f.words, .int .i64 f.depth, .slice AF f.channels.length capF] 28)).alloc (.cells #[.slice A1 s.dirs.length c1, .int .i64 s.turn, .slice A2 s.sens.length c2] 76)) W0 := by rw [← hW0]; exact (Ext.refl _).alloc _
  have hD : Ext (((w.alloc (.cells #[.string f.sync, .int .i64 f.words, .int .i64 f.depth, .slice AF f.channels.length capF] 28)).alloc (.cells #[.slice A1 s.dirs.length c1, .int .i64 s.turn, .slice A2 s.sens.length c2] 76)).alloc (.cells #[.int .i64 r.num, .int .i64 r.frm, .int .i64 r.agr, .bool r.marked, .slice B r.words.length cp] 97)) W0 := by rw [← hW0]; exact Ext.refl _
  have g3 : W0.cell? ⟨w.heap.size, 3, none⟩ = some (.slice AF f.channels.length capF) := by have := hA.cell (cell_mk w _ 28 3 (.slice AF f.channels.length capF) rfl); simpa only [size_alloc] using this
  have s0 : W0.cell? ⟨w.heap.size + 1, 0, none⟩ = some (.slice A1 s.dirs.length c1) := by have := hB.cell (cell_mk (w.alloc _) _ 76 0 (.slice A1 s.dirs.length c1) rfl); simpa only [size_alloc] using this
  have s2 : W0.cell? ⟨w.heap.size + 1, 2, none⟩ = some (.slice A2 s.sens.length c2) := by have := hB.cell (cell_mk (w.alloc _) _ 76 2 (.slice A2 s.sens.length c2) rfl); simpa only [size_alloc] using this
  have r0 : W0.cell? ⟨w.heap.size + 1 + 1, 0, none⟩ = some (.int .i64 r.num) := by have := hD.cell (cell_mk ((w.alloc _).alloc _) _ 97 0 (.int .i64 r.num) rfl); simpa only [size_alloc] using this
  have r1 : W0.cell? ⟨w.heap.size + 1 + 1, 1, none⟩ = some (.int .i64 r.frm) := by have := hD.cell (cell_mk ((w.alloc _).alloc _) _ 97 1 (.int .i64 r.frm) rfl); simpa only [size_alloc] using this
  have r2 : W0.cell? ⟨w.heap.size + 1 + 1, 2, none⟩ = some (.int .i64 r.agr) := by have := hD.cell (cell_mk ((w.alloc _).alloc _) _ 97 2 (.int .i64 r.agr) rfl); simpa only [size_alloc] using this
  have r4 : W0.cell? ⟨w.heap.size + 1 + 1, 4, none⟩ = some (.slice B r.words.length cp) := by have := hD.cell (cell_mk ((w.alloc _).alloc _) _ 97 4 (.slice B r.words.length cp) rfl); simpa only [size_alloc] using this
  clear hA hB hD
  have HX0 := hide hx0
  have HW0 := hide hW0
  clear hx0 hW0
  go_enter Try.func92, Try.ntmps92
  go_wp2_with fail
  rw [HW0.out]
  go_loopw [9] (fun v9 wr => Ext W0 wr ∧ ∃ k : Nat, k ≤ s.sens.length ∧ v9 = .int .i64 k ∧ Hid (∀ j, j < k → fitK f s (s.dirs.getD i default) r j = true)) (fun v9 _ => s.sens.length - (intOf v9).toNat)
  case atStart => exact ⟨Ext.refl _, 0, by omega, rfl, hide (fun j hj => absurd hj (by omega))⟩
  case round =>
    obtain ⟨hE, k, hk, rfl, HSA⟩ := hrel
    have HXR := hide (HX0.out.trans hE)
    have e3 := hE.cell g3
    have e4 := hE.cell s2
    have e5 := hE.cell s0
    have f3 := hE.cell r0
    have f5 := hE.cell r1
    have f6 := hE.cell r2
    have f4 := hE.cell r4
    by_cases h8 : k < s.sens.length
    · obtain ⟨b, off, c, x, y, z, sc, er, su, rfl, _, hc0, hc1, hc2, hc3, hc4, hc5, hc6, HX⟩ := sens_at (HR2.out.ext HXR.out) h8
      obtain ⟨⟨hch0, hch1⟩, hsen⟩ := senErr_zero (HOK.out.sens k h8)
      rw [HX.out] at hch0 hch1 hsen
      dsimp only at hch0 hch1
      obtain ⟨cn, rfl⟩ := Int.eq_ofNat_of_zero_le hch0
      have hcn : cn < f.channels.length := by omega
      obtain ⟨bc, oc, nm, wd, ev, ph, rfl, hbc, hk0, hk1, hk2, hk3, HCC⟩ := chans_at (HRF.out.ext HXR.out) hcn
      obtain ⟨p1, p2, p3, p4, p5⟩ := chan_pos HOK.out.fmt hcn HCC.out
      dsimp only at p1 p2 p3 p4 p5
      obtain ⟨bd, od, dx, dy, dz, rfl, _, hd0, hd1, hd2, HDX⟩ := dirs_at (HR1.out.ext HXR.out) hi
      have HSN := hide hsen
      have HFK := hide (show fitK f s (s.dirs.getD i default) r k = (!decide (r.num % ev = ph) || agreeB (s.dirs.getD i default) ⟨cn, x, y, z, sc, er, su⟩ (r.words.getD wd.toNat 0)) by unfold fitK; rw [HX.out]; dsimp only; rw [Int.toNat_natCast, HCC.out])
      clear hch0 hch1 hsen
      go_wp2_with fail
      apply wp_region_t 11 [18, 19, 20, 21, 22, 23, 24, 25, 26, 27, 10]
        [.is _, .is _, .is _, .is _, .is _, .is _, .is _, .is _, .is _, .is _, .so (NewC wr.heap.size)]
        [(4, _), (5, _), (9, _)]
      · kernel_rfl
      · decide
      · decide
      · rfl
      · kernel_rfl
      · decide +kernel
      · kernel_rfl
      · kernel_rfl
      · kernel_rfl
      · kernel_rfl
      · kernel_rfl
      · kernel_rfl
      · rfl
      · exact ⟨trivial, trivial, trivial, trivial, trivial, trivial, trivial, trivial, trivial, trivial, fun _ _ _ h k => h.ext k, trivial⟩
      · refine ⟨?_, ?_, ?_, trivial⟩ <;> (simp; rfl)
      · repeat
          refine ⟨?_, ?_⟩
          · intro F W hF hd hR
            simp [fixedAt] at hF
            obtain ⟨t4, t5, t9⟩ := hF
            simp [Region.binds, Ent.holds] at hd
            refine ⟨fun _ K hK => ?_, by intro g b h hn; first | (cases h; done) | (cases h; exact absurd (by simp [hd]) hn)⟩
            simp only [Ent.holds, List.getD_cons_zero, List.getD_cons_succ] at hK
            have q0 := hR.cell e3
            have q1 := hR.cell e4
            have q2 := hR.cell hc0
            have q3 := hR.cell hk0
            have q4 := hR.cell hk1
            have q5 := hR.cell hk2
            have q6 := hR.cell hk3
            go_simp
            first
              | exact hK _ _ rfl (Ext.refl _)
              | (exact hK _ _ ⟨_, rfl, hR.size, heap_alloc_new _ _⟩ ((Ext.refl _).alloc _))
        exact trivial
      intro X W hx hR
      simp only [toldX] at hx
      simp only [fillX, List.setIfInBounds_toArray, List.set_cons_succ, List.set_cons_zero]
      have HER := hide hR
      have HEE := hide hE
      obtain ⟨⟨g, eg, hg, hblk⟩, _⟩ := hx
      clear hR hk0 hk1 hk2 hk3 hE
      rw [eg]
      have z0 : W.cell? ⟨g, 0, none⟩ = some (.string ByteArray.empty) := cell_of_row W g 0 _ 83 (0, 0) hblk
      have z1 : W.cell? ⟨g, 1, none⟩ = some (.int .i64 0) := cell_of_row W g 1 _ 83 (0, 0) hblk
      have z2 : W.cell? ⟨g, 2, none⟩ = some (.int .i64 0) := cell_of_row W g 2 _ 83 (0, 0) hblk
      have z3 : W.cell? ⟨g, 3, none⟩ = some (.int .i64 0) := cell_of_row W g 3 _ 83 (0, 0) hblk
      have fz : ∀ k, W.frozen? ⟨g, k, none⟩ = false := fun k => by simp [World.frozen?, hblk]
      have fz0 := fz 0
      have fz1 := fz 1
      have fz2 := fz 2
      have fz3 := fz 3
      have HBLK := hide hblk
      clear fz hblk eg
      simp only [List.drop_succ_cons, List.drop_zero]
      go_wp2_with fail
      obtain ⟨W5, hW5⟩ : ∃ W5, (((W.setCell ⟨g, 0, none⟩ (.string nm)).setCell ⟨g, 1, none⟩ (.int .i64 wd)).setCell ⟨g, 2, none⟩ (.int .i64 ev)).setCell ⟨g, 3, none⟩ (.int .i64 ph) = W5 := ⟨_, rfl⟩
      rw [hW5]
      have hx5 : Ext wr W5 := by rw [← hW5]; exact (((HER.out.setCell (p := ⟨g, 0, none⟩) hg _).setCell (p := ⟨g, 1, none⟩) hg _).setCell (p := ⟨g, 2, none⟩) hg _).setCell (p := ⟨g, 3, none⟩) hg _
      have hb5 : W5.heap[g]? = some (.cells #[.string nm, .int .i64 wd, .int .i64 ev, .int .i64 ph] 83 (0, 0)) := by rw [← hW5]; simp [World.setCell, Array.getElem?_modify, HBLK.out]
      have z0 : W5.cell? ⟨g, 0, none⟩ = some (.string nm) := cell_of_row W5 g 0 _ 83 (0, 0) hb5
      have z1 : W5.cell? ⟨g, 1, none⟩ = some (.int .i64 wd) := cell_of_row W5 g 1 _ 83 (0, 0) hb5
      have z2 : W5.cell? ⟨g, 2, none⟩ = some (.int .i64 ev) := cell_of_row W5 g 2 _ 83 (0, 0) hb5
      have z3 : W5.cell? ⟨g, 3, none⟩ = some (.int .i64 ph) := cell_of_row W5 g 3 _ 83 (0, 0) hb5
      have HE5 := hide (HEE.out.trans hx5)
      have m0 := hx5.cell e3
      have m1 := hx5.cell e4
      have m2 := hx5.cell e5
      have m3 := hx5.cell f3
      have m4 := hx5.cell f5
      have m5 := hx5.cell f6
      have m6 := hx5.cell f4
      have m7 := hx5.cell hc0
      have m8 := hx5.cell hc1
      have m9 := hx5.cell hc2
      have m10 := hx5.cell hc3
      have m11 := hx5.cell hc4
      have m12 := hx5.cell hc5
      have m13 := hx5.cell hc6
      have m14 := hx5.cell hd0
      have m15 := hx5.cell hd1
      have m16 := hx5.cell hd2
      clear hW5 hb5 fz0 fz1 fz2 fz3 hx5
      by_cases hin : r.num % ev = ph
      · have hdi : decide (r.num % ev = ph) = true := by simp [hin]
        rw [hdi] at HFK
        have HHA := hide (fun V => has_any nm wd ev ph r.num V hn0 p1)
        rw [hdi] at HHA
        obtain ⟨hwd0, hwd1⟩ : 0 ≤ wd ∧ wd.toNat < r.words.length := by omega
        obtain ⟨wn, hwn⟩ := Int.eq_ofNat_of_zero_le hwd0
        subst hwn
        rw [Int.toNat_natCast] at hwd1 HFK
        obtain ⟨bw, ow, rfl, _, hcw2⟩ := (HRW.out.ext (HX0.out.trans HE5.out)) (by omega)
        have hcwn := hcw2 wn hwd1
        dsimp only at hcwn
        have hwv := HRO.out.2.1 _ (getD_in (0 : Int) hwd1)
        obtain ⟨wv, hwve⟩ : ∃ wv, r.words.getD wn 0 = wv := ⟨_, rfl⟩
        rw [hwve] at HFK hcwn hwv
        have HAG := hide (fun V => agrees_any (s.dirs.getD i default) ⟨cn, x, y, z, sc, er, su⟩ wv V HD.out HSN.out hwv.1 hwv.2)
        have HFK := hide (show fitK f s (s.dirs.getD i default) r k = (!true || agreeB ⟨dx, dy, dz⟩ ⟨cn, x, y, z, sc, er, su⟩ wv) by rw [HFK.out, HDX.out])
        rw [HDX.out] at HAG
        unfold Dir.val at HAG
        dsimp only at HAG
        generalize agreeB ⟨dx, dy, dz⟩ _ wv = ag at *
        have HWE := hide hwve
        clear hcw2 hwve hin hdi
        go_wp2_with fail
        apply wp_region_f (28 :: 29 :: 30 :: 31 :: 32 :: 33 :: 34 :: 35 :: 36 :: 37 :: 38 :: 39 :: 40 :: 41 :: 42 :: 43 :: 44 :: 45 :: 46 :: 47 :: 48 :: 49 :: 50 :: 51 :: [])
          (.is _ :: .is _ :: .is _ :: .is _ :: .is _ :: .is _ :: .is _ :: .is _ :: .is _ :: .is _ :: .is _ :: .is _ :: .is _ :: .is _ :: .is _ :: .is _ :: .is _ :: .is _ :: .is _ :: .is _ :: .is _ :: .is _ :: .is _ :: .is _ :: [])
          [(2, _), (4, _), (5, _), (7, _), (9, _), (10, _)]
        · kernel_rfl
        · decide
        · rfl
        · kernel_rfl
        · decide +kernel
        · kernel_rfl
        · kernel_rfl
        · kernel_rfl
        · kernel_rfl
        · rfl
        · exact ⟨trivial, trivial, trivial, trivial, trivial, trivial, trivial, trivial, trivial, trivial, trivial, trivial, trivial, trivial, trivial, trivial, trivial, trivial, trivial, trivial, trivial, trivial, trivial, trivial, trivial⟩
        · refine ⟨?_, ?_, ?_, ?_, ?_, ?_, trivial⟩ <;> (simp; rfl)
        · repeat
            refine ⟨?_, ?_⟩
            · intro F W hF hd hR
              simp [fixedAt] at hF
              obtain ⟨t2, t4, t5, t7, t9, t10⟩ := hF
              simp [Region.binds, Ent.holds] at hd
              refine ⟨fun _ K hK => ?_, by intro g b h hn; first | (cases h; done) | (cases h; exact absurd (by simp [hd]) hn)⟩
              simp only [Ent.holds, List.getD_cons_zero, List.getD_cons_succ] at hK
              have q0 := hR.cell m0
              have q1 := hR.cell m1
              have q2 := hR.cell m2
              have q3 := hR.cell m3
              have q4 := hR.cell m4
              have q5 := hR.cell m5
              have q6 := hR.cell m6
              have q7 := hR.cell m7
              have q8 := hR.cell m8
              have q9 := hR.cell m9
              have q10 := hR.cell m10
              have q11 := hR.cell m11
              have q12 := hR.cell m12
              have q13 := hR.cell m13
              have q14 := hR.cell m14
              have q15 := hR.cell m15
              have q16 := hR.cell m16
              have q20 := hR.cell z0
              have q21 := hR.cell z1
              have q22 := hR.cell z2
              have q23 := hR.cell z3
              have q30 := hR.cell hcwn
              go_simp
              first
                | exact hK _ _ rfl (Ext.refl _)
                | (with_reducible refine (HHA.out _).mono ?_
                   rintro e w4 ⟨rfl, hx4⟩
                   exact hK _ _ rfl hx4)
                | (with_reducible refine (HAG.out _).mono ?_
                   rintro e w4 ⟨rfl, hx4⟩
                   exact hK _ _ rfl hx4)
          exact trivial
        intro X W hx hR
        simp only [toldX] at hx
        simp only [fillX, List.setIfInBounds_toArray, List.set_cons_succ, List.set_cons_zero]
        have HE6 := hide (HE5.out.trans hR)
        clear hx hR
        cases ag with
        | true =>
          go_wp2_with fail
          go_roundw
          case rel => exact ⟨HE6.out, k + 1, by omega, by go_num, hide (fun j hj => by
            by_cases hjk : j = k
            · rw [hjk, HFK.out]; rfl
            · exact HSA.out j (by omega))⟩
          case measure => simp [intOf]; omega
        | false =>
          have HF := hide (HFF.out k h8 (by rw [HFK.out]; rfl))
          go_wp2_with fail
          go_ret
          exact ⟨ret_bool HF.out.symm, HX0.out.trans HE6.out⟩
      · have hdi : decide (r.num % ev = ph) = false := by simp [hin]
        rw [hdi] at HFK
        have HHA := hide (fun V => has_any nm wd ev ph r.num V hn0 p1)
        rw [hdi] at HHA
        clear hdi hin
        go_wp2_with fail
        apply wp_region_f (28 :: 29 :: 30 :: 31 :: 32 :: 33 :: 34 :: 35 :: 36 :: 37 :: 38 :: 39 :: 40 :: 41 :: 42 :: 43 :: 44 :: 45 :: 46 :: 47 :: 48 :: 49 :: 50 :: 51 :: [])
          (.is _ :: .is _ :: .is _ :: .is _ :: .is _ :: .is _ :: .is _ :: .is _ :: .is _ :: .is _ :: .is _ :: .is _ :: .is _ :: .is _ :: .is _ :: .is _ :: .is _ :: .is _ :: .is _ :: .is _ :: .is _ :: .is _ :: .is _ :: .is _ :: [])
          [(2, _), (4, _), (5, _), (7, _), (9, _), (10, _)]
        · kernel_rfl
        · decide
        · rfl
        · kernel_rfl
        · decide +kernel
        · kernel_rfl
        · kernel_rfl
        · kernel_rfl
        · kernel_rfl
        · rfl
        · exact ⟨trivial, trivial, trivial, trivial, trivial, trivial, trivial, trivial, trivial, trivial, trivial, trivial, trivial, trivial, trivial, trivial, trivial, trivial, trivial, trivial, trivial, trivial, trivial, trivial, trivial⟩
        · refine ⟨?_, ?_, ?_, ?_, ?_, ?_, trivial⟩ <;> (simp; rfl)
        · repeat
            refine ⟨?_, ?_⟩
            · intro F W hF hd hR
              simp [fixedAt] at hF
              obtain ⟨t2, t4, t5, t7, t9, t10⟩ := hF
              simp [Region.binds, Ent.holds] at hd
              refine ⟨fun hgd K hK => ?_, by intro g b h hn; first | (cases h; done) | (cases h; refine absurd ?_ hn; simp [hd]; done) | (cases h; exact ⟨rfl, Ext.refl _⟩)⟩
              first
                | (refine absurd (hgd _ _ rfl) ?_; simp [hd]; done)
                | (refine absurd (hgd _ _ rfl) ?_; simp [hd]; simp [undef]; done)
                | (simp only [Ent.holds, List.getD_cons_zero, List.getD_cons_succ] at hK
                   have q0 := hR.cell m0
                   have q1 := hR.cell m1
                   have q2 := hR.cell m2
                   have q3 := hR.cell m3
                   have q4 := hR.cell m4
                   have q5 := hR.cell m5
                   have q6 := hR.cell m6
                   have q7 := hR.cell m7
                   have q8 := hR.cell m8
                   have q9 := hR.cell m9
                   have q10 := hR.cell m10
                   have q11 := hR.cell m11
                   have q12 := hR.cell m12
                   have q13 := hR.cell m13
                   have q14 := hR.cell m14
                   have q15 := hR.cell m15
                   have q16 := hR.cell m16
                   have q20 := hR.cell z0
                   have q21 := hR.cell z1
                   have q22 := hR.cell z2
                   have q23 := hR.cell z3
                   go_simp
                   first
                     | exact hK _ _ rfl (Ext.refl _)
                     | (with_reducible refine (HHA.out _).mono ?_
                        rintro e w4 ⟨rfl, hx4⟩
                        exact hK _ _ rfl hx4)
                     | (with_reducible refine (HAG.out _).mono ?_
                        rintro e w4 ⟨rfl, hx4⟩
                        exact hK _ _ rfl hx4))
          exact trivial
        intro X W hx hR
        simp only [toldX] at hx
        simp only [fillX, List.setIfInBounds_toArray, List.set_cons_succ, List.set_cons_zero]
        have HE6 := hide (HE5.out.trans hR)
        clear hx hR
        go_wp2_with fail
        go_roundw
        case rel => exact ⟨HE6.out, k + 1, by omega, by go_num, hide (fun j hj => by
          by_cases hjk : j = k
          · rw [hjk, HFK.out]; rfl
          · exact HSA.out j (by omega))⟩
        case measure => simp [intOf]; omega
    · obtain rfl : k = s.sens.length := by omega
      have HF := hide (HFT.out HSA.out)
      go_wp2_with fail
      go_ret
      exact ⟨ret_bool HF.out.symm, HXR.out⟩
end Go.Proofs.Ytjnnkcnnandeeaa

