/- The walk of frame.fits. -/
import Derived.Test.YtjnnkcnnandeeaaReps
namespace Go.Proofs.Ytjnnkcnnandeeaa
open Go.RowKit
theorem cell_mk (w : World) (cs : Array Value) (t : TypeId) (k : Nat) (u : Value) (h : cs[k]? = some u) : (w.alloc (.cells cs t)).cell? ⟨w.heap.size, k, none⟩ = some u := by
  have := cell_of_row (w.alloc (.cells cs t)) w.heap.size k cs t (0, 0) (heap_alloc_new w _)
  rw [this]; exact h
theorem getD_in {α : Type} {l : List α} {i : Nat} (d : α) (h : i < l.length) : l.getD i d ∈ l := by
  rw [List.getD_eq_getElem?_getD, List.getElem?_eq_getElem h, Option.getD_some]; exact List.getElem_mem _
theorem chan_pos {f : Fmt} (h : (chk f).2.2 = 0) {c : Nat} (hc : c < f.channels.length) {ch : Chan} (he : f.channels.getD c default = ch) : 1 ≤ ch.every ∧ 0 ≤ ch.phase ∧ ch.phase < ch.every ∧ 0 ≤ ch.word ∧ ch.word < f.words := by
  obtain ⟨_, _, _, _, _, _, _, _, q9⟩ := chk_ok h
  obtain ⟨_, _, a3, q4, _, q6, _⟩ := chanErr_ok (q9 c hc)
  rw [he] at a3 q4 q6
  have h1 := outB_f.1 a3
  have h2 := outB_f.1 q6
  omega
/-- The test of fits, as Go spells it. -/
theorem agree_out (d : Dir) (s : Sen) (wd : Int) : agreeB d s wd = !outB (offBy d s wd) (-10000 * s.err) (10000 * s.err) := by
  rw [Bool.eq_iff_iff]
  unfold agreeB
  simp only [decide_eq_true_eq, Bool.not_eq_true', outB_f]
  omega
theorem offBy_bd {d : Dir} {s : Sen} {wd : Int} (hd : DirOk d) (hs : SenOk s) (h0 : 0 ≤ wd) (h1 : wd ≤ 65535) :
    (-30000000000 ≤ seen d s ∧ seen d s ≤ 30000000000) ∧ (-327680000000 ≤ 10000 * s.scale * (wd - 32768) ∧ 10000 * s.scale * (wd - 32768) ≤ 327680000000) := by
  have hdt := dotW_eq (a := d) (b := ⟨s.x, s.y, s.z⟩) hd hs.1
  obtain ⟨_, a1, a2, a3, a4⟩ := hs
  have hmb := mul_bd (a := 10000 * s.scale) (b := wd - 32768) (m := 10000000) (n := 32768) (by omega) (by omega) (by omega) (by omega)
  refine ⟨?_, by omega⟩
  unfold seen
  split <;> omega
set_option maxRecDepth 100000 in
set_option maxHeartbeats 4000000 in
/-- frame.fits -/
theorem fits_any (v u : Value) (f : Fmt) (s : Sky) (d : Dir) (r : RepH) (B : Option Addr) (m cp : Nat) (w : World) (hv : FmtV w v f) (hu : SkyV w u s) (hok : SkyOk f s) (hd : DirOk d) (hr : RepOk f r) (hw : IntsV w .i64 (.slice B m cp) r.words) :
    Calls Try.prog 89 #[v, u, d.val, .agg #[.int .i64 r.num, .int .i64 r.frm, .int .i64 r.agr, .bool r.marked, .slice B m cp]] w fun e w' => e = .returned (.bool (fitsB f s d r)) ∧ Ext w w' := by
  have HV := hide hv
  have HOK := hide hok
  have HD := hide hd
  obtain ⟨_, _, AF, capF, rfl, hcF, hmF, hrF⟩ := hv
  have hmF' : capF ≤ 9223372036854775807 := by simpa [maxLen] using hmF
  obtain ⟨A1, c1, A2, c2, rfl, hl1, hm1, hl2, hm2, hr1, hr2⟩ := hu
  have hn2 : c2 ≤ 9223372036854775807 := by simpa [maxLen] using hm2
  have HRF := hide hrF
  have HR2 := hide hr2
  have HIW := hide hw
  obtain ⟨Bw, cw, ew, hcw, hmw, hrw⟩ := hw
  injection ew with e1 e2 e3
  subst e1 e2 e3
  have hmw' : cp ≤ 9223372036854775807 := by simpa [maxLen] using hmw
  have HRW := hide hrw
  have HFT := hide (@fitsB_t f s d r)
  have HFF := hide (fun (k : Nat) => @fitsB_f f s d r k)
  have HRO := hide hr
  obtain ⟨hwl, hwb, hn0, hn1⟩ := hr
  have h6 := hok.pre.2.1
  clear hmF hrF hr1 hr2 hm1 hm2 hrw hmw hok hd hwb
  obtain ⟨W0, hW0⟩ : ∃ W0, (((w.alloc (.cells #[.string f.sync, .int .i64 f.words, .int .i64 f.depth, .slice AF f.channels.length capF] 28)).alloc (.cells #[.slice A1 s.dirs.length c1, .int .i64 s.turn, .slice A2 s.sens.length c2] 76)).alloc (.cells #[.int .i64 d.x, .int .i64 d.y, .int .i64 d.z] 94)).alloc (.cells #[.int .i64 r.num, .int .i64 r.frm, .int .i64 r.agr, .bool r.marked, .slice B r.words.length cp] 97) = W0 := ⟨_, rfl⟩
  have hx0 : Ext w W0 := by rw [← hW0]; exact ((((Ext.refl w).alloc _).alloc _).alloc _).alloc _
  have hA : Ext (w.alloc (.cells #[.string f.sync, .int .i64 f.words, .int .i64 f.depth, .slice AF f.channels.length capF] 28)) W0 := by rw [← hW0]; exact (((Ext.refl _).alloc _).alloc _).alloc _
  have hB : Ext ((w.alloc (.cells #[.string f.sync, .int .i64 f.words, .int .i64 f.depth, .slice AF f.channels.length capF] 28)).alloc (.cells #[.slice A1 s.dirs.length c1, .int .i64 s.turn, .slice A2 s.sens.length c2] 76)) W0 := by rw [← hW0]; exact ((Ext.refl _).alloc _).alloc _
  have hC : Ext (((w.alloc (.cells #[.string f.sync, .int .i64 f.words, .int .i64 f.depth, .slice AF f.channels.length capF] 28)).alloc (.cells #[.slice A1 s.dirs.length c1, .int .i64 s.turn, .slice A2 s.sens.length c2] 76)).alloc (.cells #[.int .i64 d.x, .int .i64 d.y, .int .i64 d.z] 94)) W0 := by rw [← hW0]; exact (Ext.refl _).alloc _
  have hD : Ext ((((w.alloc (.cells #[.string f.sync, .int .i64 f.words, .int .i64 f.depth, .slice AF f.channels.length capF] 28)).alloc (.cells #[.slice A1 s.dirs.length c1, .int .i64 s.turn, .slice A2 s.sens.length c2] 76)).alloc (.cells #[.int .i64 d.x, .int .i64 d.y, .int .i64 d.z] 94)).alloc (.cells #[.int .i64 r.num, .int .i64 r.frm, .int .i64 r.agr, .bool r.marked, .slice B r.words.length cp] 97)) W0 := by rw [← hW0]; exact Ext.refl _
  have g3 : W0.cell? ⟨w.heap.size, 3, none⟩ = some (.slice AF f.channels.length capF) := by have := hA.cell (cell_mk w _ 28 3 (.slice AF f.channels.length capF) rfl); simpa only [size_alloc] using this
  have s2 : W0.cell? ⟨w.heap.size + 1, 2, none⟩ = some (.slice A2 s.sens.length c2) := by have := hB.cell (cell_mk (w.alloc _) _ 76 2 (.slice A2 s.sens.length c2) rfl); simpa only [size_alloc] using this
  have d0 : W0.cell? ⟨w.heap.size + 1 + 1, 0, none⟩ = some (.int .i64 d.x) := by have := hC.cell (cell_mk ((w.alloc _).alloc _) _ 94 0 (.int .i64 d.x) rfl); simpa only [size_alloc] using this
  have d1 : W0.cell? ⟨w.heap.size + 1 + 1, 1, none⟩ = some (.int .i64 d.y) := by have := hC.cell (cell_mk ((w.alloc _).alloc _) _ 94 1 (.int .i64 d.y) rfl); simpa only [size_alloc] using this
  have d2 : W0.cell? ⟨w.heap.size + 1 + 1, 2, none⟩ = some (.int .i64 d.z) := by have := hC.cell (cell_mk ((w.alloc _).alloc _) _ 94 2 (.int .i64 d.z) rfl); simpa only [size_alloc] using this
  have r0 : W0.cell? ⟨w.heap.size + 1 + 1 + 1, 0, none⟩ = some (.int .i64 r.num) := by have := hD.cell (cell_mk (((w.alloc _).alloc _).alloc _) _ 97 0 (.int .i64 r.num) rfl); simpa only [size_alloc] using this
  have r4 : W0.cell? ⟨w.heap.size + 1 + 1 + 1, 4, none⟩ = some (.slice B r.words.length cp) := by have := hD.cell (cell_mk (((w.alloc _).alloc _).alloc _) _ 97 4 (.slice B r.words.length cp) rfl); simpa only [size_alloc] using this
  clear hA hB hC hD
  have HX0 := hide hx0
  have HW0 := hide hW0
  clear hx0 hW0
  unfold Dir.val
  go_enter Try.func89, Try.ntmps89
  go_wp2_with fail
  rw [HW0.out]
  go_loopw [16] (fun v16 wr => Ext W0 wr ∧ ∃ k : Nat, k ≤ s.sens.length ∧ v16 = .int .i64 k ∧ Hid (∀ j, j < k → fitK f s d r j = true)) (fun v16 _ => s.sens.length - (intOf v16).toNat)
  case atStart => exact ⟨Ext.refl _, 0, by omega, rfl, hide (fun j hj => absurd hj (by omega))⟩
  case round =>
    obtain ⟨hE, k, hk, rfl, HSA⟩ := hrel
    have HXR := hide (HX0.out.trans hE)
    have e3 := hE.cell g3
    have e4 := hE.cell s2
    have f0 := hE.cell d0
    have f1 := hE.cell d1
    have f2 := hE.cell d2
    have f3 := hE.cell r0
    have f4 := hE.cell r4
    have hb3 := World.block_lt_of_cell? _ _ f3
    have hb2 := World.block_lt_of_cell? _ _ f2
    have hb1 := World.block_lt_of_cell? _ _ e4
    have hb0 := World.block_lt_of_cell? _ _ e3
    dsimp only at hb0 hb1 hb2 hb3
    by_cases h8 : k < s.sens.length
    · obtain ⟨b, off, c, x, y, z, sc, er, su, rfl, _, hc0, hc1, hc2, hc3, hc4, hc5, hc6, HX⟩ := sens_at (HR2.out.ext HXR.out) h8
      obtain ⟨⟨hch0, hch1⟩, hsen⟩ := senErr_zero (HOK.out.sens k h8)
      rw [HX.out] at hch0 hch1 hsen
      dsimp only at hch0 hch1
      obtain ⟨cn, rfl⟩ := Int.eq_ofNat_of_zero_le hch0
      have hcn : cn < f.channels.length := by omega
      obtain ⟨bc, oc, nm, wd, ev, ph, rfl, hbc, hk0, hk1, hk2, hk3, HCC⟩ := chans_at (HRF.out.ext HXR.out) hcn
      obtain ⟨p1, p2, p3, p4, p5⟩ := chan_pos HOK.out.fmt hcn HCC.out
      dsimp only at p1 p2 p3 p4 p5
      have HSN := hide hsen
      have HFK := hide (show fitK f s d r k = (!decide (r.num % ev = ph) || agreeB d ⟨cn, x, y, z, sc, er, su⟩ (r.words.getD wd.toNat 0)) by unfold fitK; rw [HX.out]; dsimp only; rw [Int.toNat_natCast, HCC.out])
      clear hch0 hch1 hsen
      go_wp2_with fail
      refine (in_any _ _ _ _ _ _ hn0 p1).mono ?_
      rintro e w3 ⟨rfl, hx3⟩
      have hY : Ext (wr.alloc (.cells #[.int .i64 (cn : Nat), .int .i64 x, .int .i64 y, .int .i64 z, .int .i64 sc, .int .i64 er, .bool su] 100)) w3 := ((Ext.refl _).alloc _).trans hx3
      have b1 := hY.cell (cell_mk wr _ 100 1 (.int .i64 x) rfl)
      have b2 := hY.cell (cell_mk wr _ 100 2 (.int .i64 y) rfl)
      have b3 := hY.cell (cell_mk wr _ 100 3 (.int .i64 z) rfl)
      have b4 := hY.cell (cell_mk wr _ 100 4 (.int .i64 sc) rfl)
      have b5 := hY.cell (cell_mk wr _ 100 5 (.int .i64 er) rfl)
      have b6 := hY.cell (cell_mk wr _ 100 6 (.bool su) rfl)
      have b8 := hx3.cell (cell_mk (wr.alloc (.cells #[.int .i64 (cn : Nat), .int .i64 x, .int .i64 y, .int .i64 z, .int .i64 sc, .int .i64 er, .bool su] 100)) _ 83 1 (.int .i64 wd) rfl)
      rw [size_alloc] at b8
      have hW3 : Ext wr w3 := ((Ext.refl _).alloc _).trans hY
      have i3 := hW3.cell e3
      have i4 := hW3.cell e4
      have j0 := hW3.cell f0
      have j1 := hW3.cell f1
      have j2 := hW3.cell f2
      have j3 := hW3.cell f3
      have j4 := hW3.cell f4
      have HE3 := hide (hE.trans hW3)
      clear hx3 hY hW3 e3 e4 f0 f1 f2 f3 f4 hc0 hc1 hc2 hc3 hc4 hc5 hc6 hk0 hk1 hk2 hk3 hE
      by_cases hin : r.num % ev = ph
      · have hdi : decide (r.num % ev = ph) = true := by simp [hin]
        rw [hdi] at HFK ⊢
        have hdt := dotW_eq (a := d) (b := ⟨x, y, z⟩) HD.out HSN.out.1
        have HTM := hide (fun W => times_any d ⟨x, y, z⟩ W)
        rw [hdt.1] at HTM
        obtain ⟨hwd0, hwd1⟩ : 0 ≤ wd ∧ wd.toNat < r.words.length := by omega
        obtain ⟨wn, hwn⟩ := Int.eq_ofNat_of_zero_le hwd0
        subst hwn
        rw [Int.toNat_natCast] at hwd1 HFK
        obtain ⟨bw, ow, rfl, _, hcw2⟩ := (HRW.out.ext (HX0.out.trans HE3.out)) (by omega)
        have hcwn := hcw2 wn hwd1
        dsimp only at hcwn
        have hwv := HRO.out.2.1 _ (getD_in (0 : Int) hwd1)
        obtain ⟨wv, hwve⟩ : ∃ wv, r.words.getD wn 0 = wv := ⟨_, rfl⟩
        rw [hwve] at HFK hcwn hwv
        rw [agree_out] at HFK
        obtain ⟨⟨hs0, hs1⟩, hm0, hm1⟩ := offBy_bd HD.out HSN.out hwv.1 hwv.2
        have HOB : Hid (offBy d ⟨cn, x, y, z, sc, er, su⟩ wv = seen d ⟨cn, x, y, z, sc, er, su⟩ - 10000 * sc * (wv - 32768)) := rfl
        have HSE : Hid (seen d ⟨cn, x, y, z, sc, er, su⟩ = if su = true then max (dotI d ⟨x, y, z⟩) 0 else dotI d ⟨x, y, z⟩) := rfl
        obtain ⟨_, hsc0, hsc1, her0, her1⟩ := HSN.out
        obtain ⟨-, hp0, hp1⟩ := hdt
        have HWE := hide hwve
        unfold Dir.val at HTM
        dsimp only at HTM hm0 hm1 hs0 hs1 hsc0 hsc1 her0 her1 HFK
        generalize offBy d _ wv = ob at *
        generalize seen d _ = se at *
        generalize dotI d _ = p at *
        clear hdi hcw2 hwve hin
        go_wp2_with fail
        refine (HTM.out _).mono ?_
        rintro e w4 ⟨rfl, hx4⟩
        have b4' := hx4.cell b4
        have b5' := hx4.cell b5
        have b6' := hx4.cell b6
        have b8' := hx4.cell b8
        have j4' := hx4.cell j4
        have hcwn' := hx4.cell hcwn
        have HE4 := hide (HE3.out.trans hx4)
        clear b1 b2 b3 b4 b5 b6 b8 i3 i4 j0 j1 j2 j3 j4 hcwn hx4
        cases su with
        | false =>
          have hse : se = p := HSE.out
          subst hse
          go_wp2_with fail
          have m1 : IntKind.i64.wrap (10000 * sc) = 10000 * sc := by rw [IntKind.wrap_i64]; omega
          have m2 : IntKind.i64.wrap (wv - 32768) = wv - 32768 := by rw [IntKind.wrap_i64]; omega
          have m3 : IntKind.i64.wrap (10000 * sc * (wv - 32768)) = 10000 * sc * (wv - 32768) := by rw [IntKind.wrap_i64]; omega
          have m4 : IntKind.i64.wrap (se - 10000 * sc * (wv - 32768)) = ob := by rw [HOB.out, IntKind.wrap_i64]; omega
          go_quiet (fail)
          clear m1 m2 m3 m4
          go_wp2_with fail
          refine (out_any _ _ _ _).mono ?_
          rintro e w5 ⟨rfl, rfl⟩
          cases ho : outB ob (-10000 * er) (10000 * er) with
          | true =>
            have HF := hide (HFF.out k h8 (by rw [HFK.out, ho]; rfl))
            clear ho
            go_wp2_with fail
            go_ret
            exact ⟨ret_bool HF.out.symm, (HX0.out.trans HE4.out).drewN _⟩
          | false =>
            have HF := hide (show fitK f s d r k = true by rw [HFK.out, ho]; rfl)
            clear ho
            go_wp2_with fail
            go_roundw
            case rel => exact ⟨HE4.out.drewN _, k + 1, by omega, by go_num, hide (fun j hj => by
              by_cases hjk : j = k
              · rw [hjk]; exact HF.out
              · exact HSA.out j (by omega))⟩
            case measure => simp [intOf]; omega
        | true =>
          have hse : se = max p 0 := HSE.out
          by_cases hp : p < 0
          · obtain rfl : se = 0 := by omega
            clear hse
            go_wp2_with fail
            have m1 : IntKind.i64.wrap (10000 * sc) = 10000 * sc := by rw [IntKind.wrap_i64]; omega
            have m2 : IntKind.i64.wrap (wv - 32768) = wv - 32768 := by rw [IntKind.wrap_i64]; omega
            have m3 : IntKind.i64.wrap (10000 * sc * (wv - 32768)) = 10000 * sc * (wv - 32768) := by rw [IntKind.wrap_i64]; omega
            have m4 : IntKind.i64.wrap (-(10000 * sc * (wv - 32768))) = ob := by rw [HOB.out, IntKind.wrap_i64]; omega
            go_quiet (fail)
            clear m1 m2 m3 m4
            go_wp2_with fail
            refine (out_any _ _ _ _).mono ?_
            rintro e w5 ⟨rfl, rfl⟩
            cases ho : outB ob (-10000 * er) (10000 * er) with
            | true =>
              have HF := hide (HFF.out k h8 (by rw [HFK.out, ho]; rfl))
              clear ho
              go_wp2_with fail
              go_ret
              exact ⟨ret_bool HF.out.symm, (HX0.out.trans HE4.out).drewN _⟩
            | false =>
              have HF := hide (show fitK f s d r k = true by rw [HFK.out, ho]; rfl)
              clear ho
              go_wp2_with fail
              go_roundw
              case rel => exact ⟨HE4.out.drewN _, k + 1, by omega, by go_num, hide (fun j hj => by
                by_cases hjk : j = k
                · rw [hjk]; exact HF.out
                · exact HSA.out j (by omega))⟩
              case measure => simp [intOf]; omega
          · by_cases hpz : p = 0
            · obtain rfl : se = 0 := by omega
              subst hpz
              clear hse hp
              go_wp2_with fail
              have m1 : IntKind.i64.wrap (10000 * sc) = 10000 * sc := by rw [IntKind.wrap_i64]; omega
              have m2 : IntKind.i64.wrap (wv - 32768) = wv - 32768 := by rw [IntKind.wrap_i64]; omega
              have m3 : IntKind.i64.wrap (10000 * sc * (wv - 32768)) = 10000 * sc * (wv - 32768) := by rw [IntKind.wrap_i64]; omega
              have m4 : IntKind.i64.wrap (-(10000 * sc * (wv - 32768))) = ob := by rw [HOB.out, IntKind.wrap_i64]; omega
              go_quiet (fail)
              clear m1 m2 m3 m4
              go_wp2_with fail
              refine (out_any _ _ _ _).mono ?_
              rintro e w5 ⟨rfl, rfl⟩
              cases ho : outB ob (-10000 * er) (10000 * er) with
              | true =>
                have HF := hide (HFF.out k h8 (by rw [HFK.out, ho]; rfl))
                clear ho
                go_wp2_with fail
                go_ret
                exact ⟨ret_bool HF.out.symm, (HX0.out.trans HE4.out).drewN _⟩
              | false =>
                have HF := hide (show fitK f s d r k = true by rw [HFK.out, ho]; rfl)
                clear ho
                go_wp2_with fail
                go_roundw
                case rel => exact ⟨HE4.out.drewN _, k + 1, by omega, by go_num, hide (fun j hj => by
                  by_cases hjk : j = k
                  · rw [hjk]; exact HF.out
                  · exact HSA.out j (by omega))⟩
                case measure => simp [intOf]; omega
            · have hse2 : se = p := by omega
              subst hse2
              clear hse
              go_wp2_with fail
              have m1 : IntKind.i64.wrap (10000 * sc) = 10000 * sc := by rw [IntKind.wrap_i64]; omega
              have m2 : IntKind.i64.wrap (wv - 32768) = wv - 32768 := by rw [IntKind.wrap_i64]; omega
              have m3 : IntKind.i64.wrap (10000 * sc * (wv - 32768)) = 10000 * sc * (wv - 32768) := by rw [IntKind.wrap_i64]; omega
              have m4 : IntKind.i64.wrap (se - 10000 * sc * (wv - 32768)) = ob := by rw [HOB.out, IntKind.wrap_i64]; omega
              go_quiet (fail)
              clear m1 m2 m3 m4
              go_wp2_with fail
              refine (out_any _ _ _ _).mono ?_
              rintro e w5 ⟨rfl, rfl⟩
              cases ho : outB ob (-10000 * er) (10000 * er) with
              | true =>
                have HF := hide (HFF.out k h8 (by rw [HFK.out, ho]; rfl))
                clear ho
                go_wp2_with fail
                go_ret
                exact ⟨ret_bool HF.out.symm, (HX0.out.trans HE4.out).drewN _⟩
              | false =>
                have HF := hide (show fitK f s d r k = true by rw [HFK.out, ho]; rfl)
                clear ho
                go_wp2_with fail
                go_roundw
                case rel => exact ⟨HE4.out.drewN _, k + 1, by omega, by go_num, hide (fun j hj => by
                  by_cases hjk : j = k
                  · rw [hjk]; exact HF.out
                  · exact HSA.out j (by omega))⟩
                case measure => simp [intOf]; omega
      · have hdi : decide (r.num % ev = ph) = false := by simp [hin]
        rw [hdi] at HFK ⊢
        clear hdi hin
        go_wp2_with fail
        go_roundw
        case rel => exact ⟨HE3.out, k + 1, by omega, by go_num, hide (fun j hj => by
          by_cases hjk : j = k
          · rw [hjk, HFK.out]; rfl
          · exact HSA.out j (by omega))⟩
        case measure => simp [intOf]; omega
    · obtain rfl : k = s.sens.length := by omega
      have HF := hide (HFT.out HSA.out)
      go_wp2_with fail
      go_ret
      exact ⟨ret_bool HF.out.symm, HXR.out⟩
end Go.Proofs.Ytjnnkcnnandeeaa

