/- The walk of frame.Axes. -/
import Derived.Test.YtjnnkcnnandeeaaEntV
import Derived.Deep.DeepCutAuto
import Derived.BigQuiet
namespace Go.Proofs.Ytjnnkcnnandeeaa
open Go.RowKit
theorem axesOut_sky {f : Fmt} {s : Sky} {xs : List RepX} (h : (skyOut f s).2 ≠ 0) : axesOut f s xs = ([], (skyOut f s).2) := if_pos h
theorem axesOut_rep {f : Fmt} {s : Sky} {xs : List RepX} (h : (skyOut f s).2 = 0) (h1 : repErr f xs ≠ 0) : axesOut f s xs = ([], repErr f xs) := by
  unfold axesOut
  rw [if_neg (by rw [h]; decide), if_pos h1]
theorem axesOut_ok {f : Fmt} {s : Sky} {xs : List RepX} (h : (skyOut f s).2 = 0) (h1 : repErr f xs = 0) : axesOut f s xs = (axesK f s xs xs.length, 0) := by
  unfold axesOut
  rw [if_neg (by rw [h]; decide), if_neg (by rw [h1]; decide)]
/-- What stands at the head of the loop over the reports. -/
def AxR (f : Fmt) (s : Sky) (xs : List RepX) (W2 : World) (v6 v8 v37 : Value) (wr : World) : Prop :=
  Ext W2 wr ∧ ∃ (k M : Nat) (ys : List AxX), k ≤ xs.length ∧ v37 = .int .i64 k ∧ v8 = .int .u32 M ∧ M < 4294967296 ∧ OutV wr W2.heap.size v6 ys ∧ ys.map Prod.fst = axesK f s xs k ∧ MaskIs s M (axesK f s xs k)
/-- What stands at the head of the loop over the numbers. -/
def AxM (f : Fmt) (s : Sky) (xs : List RepX) (r : RepH) (k B : Nat) (blk : Obj) (W2 : World) (v6 v8 v11 : Value) (wr : World) : Prop :=
  Ext W2 wr ∧ wr.heap[B]? = some blk ∧ v6.ownBlock ≠ some B ∧ ∃ (c M : Nat) (ys : List AxX), (c : Int) ≤ r.num - firstN xs k + 1 ∧ v11 = .int .i64 (firstN xs k + c) ∧ v8 = .int .u32 M ∧ M < 4294967296 ∧ OutV wr W2.heap.size v6 ys ∧
    ys.map Prod.fst = fillN f s r (axesK f s xs k) (firstN xs k) c ∧ MaskIs s M (fillN f s r (axesK f s xs k) (firstN xs k) c)
/-- What stands at the head of the loop over the directions. -/
def AxD (f : Fmt) (s : Sky) (r : RepH) (out : List AxN) (N : Int) (B : Nat) (Wx : World) (v8 v70 : Value) (wr : World) : Prop :=
  ∃ k M : Nat, k ≤ s.dirs.length ∧ v70 = .int .i64 k ∧ v8 = .int .u32 M ∧ M < 4294967296 ∧ EntV N B (dirsUp (keepB f s r out N) k) Wx wr ∧ (∀ l, l < k → M.testBit l = keepB f s r out N l) ∧ ∀ l, l < s.dirs.length → k ≤ l → M.testBit l = fromB s out l
/-- The first number of a report. -/
def AxCut1 (xs : List RepX) (k : Nat) (W1 : World) (v11 : Value) (wx : World) : Prop := v11 = .int .i64 (firstN xs k) ∧ wx = W1
/-- The mask at a number. -/
def AxCut2 (s : Sky) (out : List AxN) (Wx : World) (v8 : Value) (wx : World) : Prop := Ext Wx wx ∧ ∃ M : Nat, v8 = .int .u32 M ∧ M < 4294967296 ∧ ∀ l, l < s.dirs.length → M.testBit l = fromB s out l
/-- Whether a direction is taken out. -/
def AxCut3 (b : Bool) (Wx : World) (v91 : Value) (wx : World) : Prop := Ext Wx wx ∧ v91 = .bool (!b)
/-- The mask behind a direction. -/
def AxCut4 (f : Fmt) (s : Sky) (r : RepH) (out : List AxN) (N : Int) (k : Nat) (Wx : World) (v8 : Value) (wx : World) : Prop :=
  Ext Wx wx ∧ ∃ M : Nat, v8 = .int .u32 M ∧ M < 4294967296 ∧ (∀ l, l < k + 1 → M.testBit l = keepB f s r out N l) ∧ ∀ l, l < s.dirs.length → k + 1 ≤ l → M.testBit l = fromB s out l
set_option maxRecDepth 100000 in
set_option maxHeartbeats 4000000 in
/-- frame.Axes -/
theorem axes_any (v u t : Value) (f : Fmt) (s : Sky) (xs : List RepX) (w : World) (hv : FmtV w v f) (hu : SkyV w u s) (ht : RepsV w t xs) :
    Calls Try.prog 43 #[v, u, t] w fun e w' => ∃ r ys, e = .returned (.tuple #[r, .int .i64 (axesOut f s xs).2]) ∧ AxesV w' r ys ∧ ys.map Prod.fst = (axesOut f s xs).1 ∧ Ext w w' := by
  have HV := hide hv
  have HU := hide hu
  have HT := hide ht
  obtain ⟨_, _, AF, capF, rfl, hcF, hmF, hrF⟩ := hv
  have hmF' : capF ≤ 9223372036854775807 := by simpa [maxLen] using hmF
  obtain ⟨A1, c1, A2, c2, rfl, hl1, hm1, hl2, hm2, hr1, hr2⟩ := hu
  have hn1 : c1 ≤ 9223372036854775807 := by simpa [maxLen] using hm1
  have hn2 : c2 ≤ 9223372036854775807 := by simpa [maxLen] using hm2
  obtain ⟨AT, capT, rfl, hcT, hmT, hrT, hwT⟩ := ht
  have hmT' : capT ≤ 9223372036854775807 := by simpa [maxLen] using hmT
  have HR1 := hide hr1
  have HRT := hide hrT
  have HWT := hide hwT
  have HAS := hide (@axesOut_sky f s xs)
  have HAR := hide (@axesOut_rep f s xs)
  have HAO := hide (@axesOut_ok f s xs)
  have HSO := hide (fun h => @SkyOk.of f s h)
  have HSKY := hide (fun V (e : Ext w V) => sky_any _ _ f s V (HV.out.ext e) (HU.out.ext e))
  have HREP := hide (fun V (e : Ext w V) => reports_any _ _ f xs V (HV.out.ext e) (HT.out.ext e))
  generalize axesOut f s xs = ao at *
  generalize hso : skyOut f s = so at *
  generalize hre : repErr f xs = re at *
  have HSO' := hide hso
  have HRE' := hide hre
  clear hmF hrF hr1 hr2 hm1 hm2 hrT hwT hmT hso hre
  obtain ⟨W0, hW0⟩ : ∃ W0, (w.alloc (.cells #[.string f.sync, .int .i64 f.words, .int .i64 f.depth, .slice AF f.channels.length capF] 28)).alloc (.cells #[.slice A1 s.dirs.length c1, .int .i64 s.turn, .slice A2 s.sens.length c2] 76) = W0 := ⟨_, rfl⟩
  have hx0 : Ext w W0 := by rw [← hW0]; exact ((Ext.refl w).alloc _).alloc _
  have hA : Ext (w.alloc (.cells #[.string f.sync, .int .i64 f.words, .int .i64 f.depth, .slice AF f.channels.length capF] 28)) W0 := by rw [← hW0]; exact (Ext.refl _).alloc _
  have hB : Ext ((w.alloc (.cells #[.string f.sync, .int .i64 f.words, .int .i64 f.depth, .slice AF f.channels.length capF] 28)).alloc (.cells #[.slice A1 s.dirs.length c1, .int .i64 s.turn, .slice A2 s.sens.length c2] 76)) W0 := by rw [← hW0]; exact Ext.refl _
  have g0 : W0.cell? ⟨w.heap.size, 0, none⟩ = some (.string f.sync) := by have := hA.cell (cell_mk w _ 28 0 (.string f.sync) rfl); simpa only [size_alloc] using this
  have g1 : W0.cell? ⟨w.heap.size, 1, none⟩ = some (.int .i64 f.words) := by have := hA.cell (cell_mk w _ 28 1 (.int .i64 f.words) rfl); simpa only [size_alloc] using this
  have g2 : W0.cell? ⟨w.heap.size, 2, none⟩ = some (.int .i64 f.depth) := by have := hA.cell (cell_mk w _ 28 2 (.int .i64 f.depth) rfl); simpa only [size_alloc] using this
  have g3 : W0.cell? ⟨w.heap.size, 3, none⟩ = some (.slice AF f.channels.length capF) := by have := hA.cell (cell_mk w _ 28 3 (.slice AF f.channels.length capF) rfl); simpa only [size_alloc] using this
  have s0 : W0.cell? ⟨w.heap.size + 1, 0, none⟩ = some (.slice A1 s.dirs.length c1) := by have := hB.cell (cell_mk (w.alloc _) _ 76 0 (.slice A1 s.dirs.length c1) rfl); simpa only [size_alloc] using this
  have s1 : W0.cell? ⟨w.heap.size + 1, 1, none⟩ = some (.int .i64 s.turn) := by have := hB.cell (cell_mk (w.alloc _) _ 76 1 (.int .i64 s.turn) rfl); simpa only [size_alloc] using this
  have s2 : W0.cell? ⟨w.heap.size + 1, 2, none⟩ = some (.slice A2 s.sens.length c2) := by have := hB.cell (cell_mk (w.alloc _) _ 76 2 (.slice A2 s.sens.length c2) rfl); simpa only [size_alloc] using this
  clear hA hB
  have HX0 := hide hx0
  have HW0 := hide hW0
  clear hx0 hW0
  go_enter Try.func43, Try.ntmps43
  go_wp2_with fail
  rw [HW0.out]
  refine (HSKY.out _ HX0.out).mono ?_
  rintro e w1 ⟨rfl, hx1⟩
  have HX1 := hide (HX0.out.trans hx1)
  have g0' := hx1.cell g0
  have g1' := hx1.cell g1
  have g2' := hx1.cell g2
  have g3' := hx1.cell g3
  have s0' := hx1.cell s0
  have s1' := hx1.cell s1
  have s2' := hx1.cell s2
  clear hx1
  by_cases hsk : so.2 = 0
  · have hd1 : (so.2 != 0) = false := by simp [hsk]
    go_wp2_with fail
    refine (HREP.out _ HX1.out).mono ?_
    rintro e w2 ⟨rfl, hx2⟩
    have HX2 := hide (HX1.out.trans hx2)
    have g0'' := hx2.cell g0'
    have g1'' := hx2.cell g1'
    have g2'' := hx2.cell g2'
    have g3'' := hx2.cell g3'
    have s0'' := hx2.cell s0'
    have s1'' := hx2.cell s1'
    have s2'' := hx2.cell s2'
    clear hx2
    by_cases hrk : re = 0
    · subst hrk
      have HO := hide (HAO.out hsk rfl)
      have HOK := hide (HSO.out hsk)
      have h30 : s.dirs.length ≤ 30 := by have := (outB_f.1 HOK.out.pre.1).2; omega
      have h31 : 1 ≤ s.dirs.length := by have := (outB_f.1 HOK.out.pre.1).1; omega
      have h32 : s.dirs.length < 32 := by omega
      have HRX := hide HRE'.out
      have HG2 := hide h30
      clear h30
      go_wp2_with fail
      obtain ⟨hm0, hm1, hm2⟩ := mask0 s.dirs.length h32
      rw [hm0]
      have HMI := hide (MaskIs.start hm2)
      clear hm0 hm2
      generalize 2 ^ s.dirs.length - 1 = M0 at *
      have HM1 := hide hm1
      clear hm1
      go_loopw [6, 8, 37] (AxR f s xs w2) (fun _ _ v37 _ => xs.length - (intOf v37).toNat)
      case atStart => exact ⟨Ext.refl _, 0, M0, [], by omega, rfl, rfl, HM1.out, OutV.nil _ _, rfl, HMI.out⟩
      case round =>
        obtain ⟨hE, k, M, ys, hk, rfl, rfl, hM, HOV, HYS, HMS⟩ := hrel
        have HEE := hide hE
        have HOV' := hide HOV
        have HYS' := hide HYS
        have HMS' := hide HMS
        have HMM := hide hM
        clear HOV HYS HMS hM
        have e0 := hE.cell g0''
        have e1 := hE.cell g1''
        have e2 := hE.cell g2''
        have e3 := hE.cell g3''
        have e4 := hE.cell s0''
        have e5 := hE.cell s1''
        have e6 := hE.cell s2''
        have HXR := hide (HX2.out.trans hE)
        have hb1 := World.block_lt_of_cell? _ _ e4
        have hb0 := World.block_lt_of_cell? _ _ e0
        dsimp only at hb0 hb1
        by_cases h8 : k < xs.length
        · obtain ⟨b, off, r, Bw, m, cw, hA, hbb0, q0, q1, q2, q3, q4, hiw, HR⟩ := reps_row HRT.out HWT.out h8
          have hbb : b < wr.heap.size := Nat.lt_of_lt_of_le hbb0 HXR.out.size
          replace q0 := HXR.out.cell q0
          replace q1 := HXR.out.cell q1
          replace q2 := HXR.out.cell q2
          replace q3 := HXR.out.cell q3
          replace q4 := HXR.out.cell q4
          clear hbb0
          subst hA
          have HIW := hide hiw
          have HRO := hide (RepOk.at HRX.out h8)
          rw [show repAt xs k = r from HR.out] at HRO
          obtain ⟨p0, p1⟩ := HRO.out.2.2
          have hfl : firstN xs k ≤ r.num := by have := firstN_le (Rise.of (repErr_0 HRX.out).1) h8; rwa [show repAt xs k = r from HR.out] at this
          have HFL := hide hfl
          clear hiw hE hfl
          go_upto_if 45 with (fail)
          obtain ⟨W1, hW1⟩ : ∃ W1, wr.alloc (.cells #[.int .i64 r.num, .int .i64 r.frm, .int .i64 r.agr, .bool r.marked, .slice Bw m cw] 97) = W1 := ⟨_, rfl⟩
          have hx1 : Ext wr W1 := by rw [← hW1]; exact (Ext.refl _).alloc _
          have hblk : W1.heap[wr.heap.size]? = some (.cells #[.int .i64 r.num, .int .i64 r.frm, .int .i64 r.agr, .bool r.marked, .slice Bw m cw] 97) := by rw [← hW1]; exact heap_alloc_new _ _
          have hnb : u6.ownBlock ≠ some wr.heap.size := fun e => absurd (HOV'.out.1.block _ e).2 (by omega)
          rw [hW1]
          obtain ⟨B, hB⟩ : ∃ B, wr.heap.size = B := ⟨_, rfl⟩
          rw [hB] at hblk hnb
          rw [hB]
          have HEX := hide (HEE.out.trans hx1)
          have HXR1 := hide (HXR.out.trans hx1)
          have HOX := hide (HOV'.out.ext hx1)
          have HNB := hide hnb
          have HBK := hide hblk
          clear hnb hW1 hB
          go_cut [11] (AxCut1 xs k W1)
          case first =>
            by_cases hk0 : 0 < k
            · obtain ⟨b', off', r', Bw', m', cw', hA', _, c0', _, _, _, _, _, HR'⟩ := reps_row (HRT.out.ext HXR1.out) (fun x hx => (HWT.out x hx).ext HXR1.out) (show k - 1 < xs.length by omega)
              injection hA' with hA'
              injection hA' with hA1 hA2
              subst hA1 hA2
              have HRO2 := hide (RepOk.at HRX.out (show k - 1 < xs.length by omega))
              rw [show repAt xs (k - 1) = r' from HR'.out] at HRO2
              obtain ⟨p2, p3⟩ := HRO2.out.2.2
              have HFN := hide (show r'.num + 1 = firstN xs k by unfold firstN; rw [if_pos hk0, show repAt xs (k - 1) = r' from HR'.out])
              have hkm : IntKind.i64.wrap ((k : Int) - 1) = ((k - 1 : Nat) : Int) := by rw [IntKind.wrap_i64]; omega
              have HKM := hide hkm
              have hdk : decide ((0 : Int) < (k : Int)) = true := by simp; omega
              have hdk2 : decide (0 < k) = true := by simp; omega
              have hkl : k - 1 < xs.length := by omega
              clear hkm hblk hx1
              go_wp2_with fail
              go_meet
              exact ⟨by rw [HFN.out], rfl⟩
            · have hdk : decide ((0 : Int) < (k : Int)) = false := by simp; omega
              have hdk2 : decide (0 < k) = false := by simp; omega
              have HFN := hide (show r.num = firstN xs k by unfold firstN; rw [if_neg hk0]; exact (congrArg RepH.num HR.out).symm)
              have b0 : W1.cell? ⟨B, 0, none⟩ = some (.int .i64 r.num) := cell_of_row W1 B 0 _ 97 (0, 0) hblk
              clear hblk hx1
              go_wp2_with fail
              go_meet
              exact ⟨by rw [HFN.out], rfl⟩
          case rest =>
            obtain ⟨rfl, hwx⟩ := hcut
            subst hwx
            have HF0 := hide (show 0 ≤ firstN xs k by
              unfold firstN
              split
              · have := (RepOk.at HRX.out (show k - 1 < xs.length by omega)).2.2.1; omega
              · have := (RepOk.at HRX.out h8).2.2.1; omega)
            clear hblk hx1
            go_wp2_with fail
            go_loopw [6, 8, 11] (AxM f s xs r k B (.cells #[.int .i64 r.num, .int .i64 r.frm, .int .i64 r.agr, .bool r.marked, .slice Bw m cw] 97) w2) (fun _ _ v11 _ => (r.num + 1 - intOf v11).toNat)
            case atStart => exact ⟨HEX.out, HBK.out, HNB.out, 0, M, ys, by have := HFL.out; omega, by simp, rfl, HMM.out, HOX.out, HYS'.out, HMS'.out⟩
            case round =>
              obtain ⟨hF, hbk, hnb, c, M, ys, hc, rfl, rfl, hM, HOV, HYS, HMS⟩ := hrel
              have HFF := hide hF
              have HBK := hide hbk
              have HNB := hide hnb
              have HOV := hide HOV
              have HYS := hide HYS
              have HMS := hide HMS
              have HMM := hide hM
              have HCC := hide hc
              have b0 : wr.cell? ⟨B, 0, none⟩ = some (.int .i64 r.num) := cell_of_row wr B 0 _ 97 (0, 0) hbk
              have b1 : wr.cell? ⟨B, 1, none⟩ = some (.int .i64 r.frm) := cell_of_row wr B 1 _ 97 (0, 0) hbk
              have b2 : wr.cell? ⟨B, 2, none⟩ = some (.int .i64 r.agr) := cell_of_row wr B 2 _ 97 (0, 0) hbk
              have b3 : wr.cell? ⟨B, 3, none⟩ = some (.bool r.marked) := cell_of_row wr B 3 _ 97 (0, 0) hbk
              have b4 : wr.cell? ⟨B, 4, none⟩ = some (.slice Bw m cw) := cell_of_row wr B 4 _ 97 (0, 0) hbk
              have f0 := hF.cell g0''
              have f1 := hF.cell g1''
              have f2 := hF.cell g2''
              have f3 := hF.cell g3''
              have f4 := hF.cell s0''
              have f5 := hF.cell s1''
              have f6 := hF.cell s2''
              have hbB := World.block_lt_of_cell? _ _ b0
              have hbS := World.block_lt_of_cell? _ _ f4
              have hbF := World.block_lt_of_cell? _ _ f0
              dsimp only at hbB hbS hbF
              obtain ⟨N, hN⟩ : ∃ N, firstN xs k + (c : Int) = N := ⟨_, rfl⟩
              rw [hN]
              have HN := hide hN
              have hfl0 : 0 ≤ firstN xs k := HF0.out
              have hN0 : 0 ≤ N := by omega
              clear hF hbk hnb hM hc hN hfl0
              by_cases hle : N ≤ r.num
              · have hN1 : N ≤ 1000000 := by omega
                have hyl : ys.length = (fillN f s r (axesK f s xs k) (firstN xs k) c).length := by rw [← HYS.out, List.length_map]
                have HYL := hide hyl
                obtain ⟨Ao, co, rfl, hco1, hco2, _⟩ := HOV.out.1.form
                have hco3 : co ≤ 9223372036854775807 := by simpa [maxLen] using hco2
                clear hyl hco2
                obtain ⟨out, hout⟩ : ∃ out, fillN f s r (axesK f s xs k) (firstN xs k) c = out := ⟨_, rfl⟩
                rw [hout] at HYS HMS HYL
                have HOUT := hide hout
                clear hout
                go_upto_if 61 with (fail)
                go_cut [8] (AxCut2 s out wr)
                case first =>
                  by_cases hy0 : ys.length = 0
                  · have hyd : decide (0 < ys.length) = false := decide_eq_false (by omega)
                    have hyd2 : decide ((0 : Int) < (ys.length : Int)) = false := decide_eq_false (by omega)
                    have HMB := hide (show ∀ l, l < s.dirs.length → M.testBit l = fromB s out l by
                      have h0 : out = [] := List.eq_nil_of_length_eq_zero (by rw [← HYL.out]; exact hy0)
                      have h1 := HMS.out
                      rw [h0] at h1 ⊢
                      exact fun l hl => h1.first hl)
                    go_wp2_with fail
                    go_meet
                    exact ⟨Ext.refl _, M, rfl, HMM.out, HMB.out⟩
                  · have hyd : decide (0 < ys.length) = true := decide_eq_true (by omega)
                    have hyd2 : decide ((0 : Int) < (ys.length : Int)) = true := decide_eq_true (by omega)
                    have HMB := hide (show ∀ l, l < s.dirs.length → (turnedN s M).testBit l = fromB s out l from
                      fun l hl => HMS.out.next (fun h0 => hy0 (by rw [HYL.out, h0]; rfl)) hl)
                    go_wp2_with fail
                    refine (turned_any _ s M wr (HU.out.ext (HX2.out.trans HFF.out)) (fun i hi => (dirErr_0 (HOK.out.dirs i hi)).1) HG2.out HMM.out).mono ?_
                    rintro e w4 ⟨rfl, hx4⟩
                    have HX4 := hide hx4
                    clear hx4
                    go_wp2_with fail
                    go_meet
                    exact ⟨HX4.out, _, rfl, upTo_lt s M _ h32, HMB.out⟩
                case rest =>
                  obtain ⟨hx4, M2, rfl, hM2, hMB2⟩ := hcut
                  have HM2 := hide hM2
                  have HMB2 := hide hMB2
                  have HX4 := hide hx4
                  have k0 := hx4.cell f0
                  have k1 := hx4.cell f1
                  have k2 := hx4.cell f2
                  have k3 := hx4.cell f3
                  have k4 := hx4.cell f4
                  have k5 := hx4.cell f5
                  have k6 := hx4.cell f6
                  have b0' := hx4.cell b0
                  have b1' := hx4.cell b1
                  have b2' := hx4.cell b2
                  have b3' := hx4.cell b3
                  have b4' := hx4.cell b4
                  have hcS := World.block_lt_of_cell? _ _ k4
                  have hcF := World.block_lt_of_cell? _ _ k0
                  have hcB := World.block_lt_of_cell? _ _ b0'
                  dsimp only at hcS hcF hcB
                  clear hx4 hM2 hMB2
                  go_wp2_with fail
                  have HEN := hide (EntV.start wc N)
                  have HB2L : Hid (wc.heap.size ≤ wc.heap.size) := Nat.le_refl _
                  obtain ⟨B2, hB2⟩ : ∃ B2, wc.heap.size = B2 := ⟨_, rfl⟩
                  rw [hB2] at HEN
                  rw [hB2]
                  have HB2 := hide hB2
                  clear hB2
                  go_loopw [8, 70] (AxD f s r out N B2 wc) (fun _ v70 _ => s.dirs.length - (intOf v70).toNat)
                  case atStart => exact ⟨0, M2, by omega, rfl, rfl, HM2.out, HEN.out, fun l hl => absurd hl (by omega), fun l hl _ => HMB2.out l hl⟩
                  case round =>
                    obtain ⟨kk, M', hkk, rfl, rfl, hM', hent, hb1, hb2⟩ := hrel
                    have HENT := hide hent
                    have HB1 := hide hb1
                    have HB2' := hide hb2
                    have HM' := hide hM'
                    obtain ⟨hD, hBB, fv, hbx, hfb, hfo⟩ := hent
                    have HDD := hide hD
                    have HFO := hide hfo
                    have HFB := hide hfb
                    have HBX := hide hbx
                    have d0 : wr.cell? ⟨B2, 0, none⟩ = some (.int .i64 N) := cell_of_row wr B2 0 _ 103 (0, 0) hbx
                    have d1 : wr.cell? ⟨B2, 1, none⟩ = some fv := cell_of_row wr B2 1 _ 103 (0, 0) hbx
                    have m0 := hD.cell k0
                    have m1 := hD.cell k1
                    have m2 := hD.cell k2
                    have m3 := hD.cell k3
                    have m4 := hD.cell k4
                    have m5 := hD.cell k5
                    have m6 := hD.cell k6
                    have c0 := hD.cell b0'
                    have c1 := hD.cell b1'
                    have c2 := hD.cell b2'
                    have c3 := hD.cell b3'
                    have c4 := hD.cell b4'
                    have HXI := hide ((HX2.out.trans HFF.out).trans (HX4.out.trans hD))
                    have hdS := World.block_lt_of_cell? _ _ m4
                    have hdF := World.block_lt_of_cell? _ _ m0
                    have hdB := World.block_lt_of_cell? _ _ c0
                    have hd2 := World.block_lt_of_cell? _ _ d0
                    dsimp only at hdS hdF hdB hd2
                    clear hD hfb hb1 hb2 hM' hBB
                    by_cases hkn : kk < s.dirs.length
                    · obtain ⟨bd, od, dx, dy, dz, rfl, hbd, hf0, hf1, hf2, HDK⟩ := dirs_at (HR1.out.ext HXI.out) hkn
                      have hk32 : kk < 32 := by omega
                      go_upto_region 22 with (fail)
                      obtain ⟨W3, hW3⟩ : ∃ W3, wr.alloc (.cells #[.int .i64 dx, .int .i64 dy, .int .i64 dz] 94) = W3 := ⟨_, rfl⟩
                      have hx3 : Ext wr W3 := by rw [← hW3]; exact (Ext.refl _).alloc _
                      have z0 : W3.cell? ⟨wr.heap.size, 0, none⟩ = some (.int .i64 dx) := by rw [← hW3]; exact cell_mk wr _ 94 0 _ rfl
                      have z1 : W3.cell? ⟨wr.heap.size, 1, none⟩ = some (.int .i64 dy) := by rw [← hW3]; exact cell_mk wr _ 94 1 _ rfl
                      have z2 : W3.cell? ⟨wr.heap.size, 2, none⟩ = some (.int .i64 dz) := by rw [← hW3]; exact cell_mk wr _ 94 2 _ rfl
                      have n0 := hx3.cell m0
                      have n1 := hx3.cell m1
                      have n2 := hx3.cell m2
                      have n3 := hx3.cell m3
                      have n4 := hx3.cell m4
                      have n5 := hx3.cell m5
                      have n6 := hx3.cell m6
                      have c0' := hx3.cell c0
                      have c1' := hx3.cell c1
                      have c2' := hx3.cell c2
                      have c3' := hx3.cell c3
                      have c4' := hx3.cell c4
                      rw [hW3]
                      have HXJ := hide (HXI.out.trans hx3)
                      have HX3 := hide hx3
                      clear hx3 hW3 hbx hfo
                      have HFN := hide (show fitN f s r N kk = (!decide (r.num = N) || r.marked || fitsB f s ⟨dx, dy, dz⟩ r) by unfold fitN; rw [HDK.out])
                      have HDO := hide (show DirOk ⟨dx, dy, dz⟩ by rw [← HDK.out]; exact (dirErr_0 (HOK.out.dirs kk hkn)).1)
                      have HFC := hide (fun V (e : Ext W3 V) => fits_any _ _ f s ⟨dx, dy, dz⟩ r Bw m cw V (HV.out.ext (HXJ.out.trans e)) (HU.out.ext (HXJ.out.trans e)) HOK.out HDO.out HRO.out (HIW.out.ext (HXJ.out.trans e)))
                      unfold Dir.val at HFC
                      dsimp only at HFC
                      obtain ⟨ft, hft⟩ : ∃ ft, fitN f s r N kk = ft := ⟨_, rfl⟩
                      rw [hft] at HFN
                      have HFT := hide hft
                      clear hft
                      generalize fitsB f s _ r = fb at *
                      go_cut [91] (AxCut3 ft W3)
                      case first =>
                        by_cases hNr : N = r.num
                        · have hq1 : (N == r.num) = true := by simp [hNr]
                          have hq2 : decide (N = r.num) = true := by simp [hNr]
                          have hq3 : decide (r.num = N) = true := by simp [hNr]
                          rw [hq3] at HFN
                          clear hq3
                          have HNr := hide hNr
                          clear hNr
                          obtain ⟨mk, hmk⟩ : ∃ mk, r.marked = mk := ⟨_, rfl⟩
                          rw [hmk] at c3' HFN HFC
                          have HMK := hide hmk
                          clear hmk
                          cases mk with
                          | true =>
                            go_wp2_with fail
                            go_meet
                            exact ⟨Ext.refl _, by rw [HFN.out]; rfl⟩
                          | false =>
                            go_wp2_with fail
                            refine (HFC.out _ (Ext.refl _)).mono ?_
                            rintro e w4 ⟨rfl, hx4⟩
                            have HX4 := hide hx4
                            clear hx4
                            go_wp2_with fail
                            go_meet
                            exact ⟨HX4.out, by rw [HFN.out]; rfl⟩
                        · have hq1 : (N == r.num) = false := by simp [hNr]
                          have hq3 : decide (r.num = N) = false := by simp; omega
                          rw [hq3] at HFN
                          clear hq3
                          go_wp2_with fail
                          go_meet
                          exact ⟨Ext.refl _, by rw [HFN.out]; rfl⟩
                      case rest =>
                        obtain ⟨hx5, rfl⟩ := hcut
                        have HX5 := hide (HX3.out.trans hx5)
                        clear hx5 c0' c1' c2' c3' c4' n0 n1 n2 n3 n4 n5 n6 z0 z1 z2 HFC HFN
                        obtain ⟨W5, hW5⟩ : ∃ W5 : World, wc = W5 := ⟨_, rfl⟩
                        rw [hW5] at HX5 ⊢
                        clear hW5
                        have HKB := hide (show keepB f s r out N kk = (fromB s out kk && ft) by unfold keepB; rw [HFT.out])
                        have HKL := hide (fun (l : Nat) (h : l < kk) => HB1.out l h)
                        go_upto_if 91 with (fail)
                        go_cut [8] (AxCut4 f s r out N kk W5)
                        case first =>
                          cases ft with
                          | true =>
                            simp only [Bool.not_true]
                            go_wp2_with fail
                            go_meet
                            exact ⟨Ext.refl _, M', rfl, HM'.out, fun l hl => by
                              by_cases hlk : l = kk
                              · rw [hlk, HKB.out, Bool.and_true]; exact HB2'.out kk hkn (Nat.le_refl _)
                              · exact HB1.out l (by omega), fun l hl hl2 => HB2'.out l hl (by omega)⟩
                          | false =>
                            simp only [Bool.not_false]
                            obtain ⟨M3, hc1, hc2, hc3⟩ := u32_clear M' kk HM'.out hk32
                            have HC1 := hide hc1
                            have HC2 := hide hc2
                            have HC3 := hide hc3
                            clear hc1 hc2 hc3
                            go_wp2_with fail
                            go_meet
                            exact ⟨Ext.refl _, M3, by rw [HC1.out], HC2.out, fun l hl => by
                              by_cases hlk : l = kk
                              · rw [hlk, HKB.out, Bool.and_false, HC3.out kk]; simp
                              · rw [HC3.out l, HB1.out l (by omega)]; simp; omega, fun l hl hl2 => by rw [HC3.out l, HB2'.out l hl (by omega)]; simp; omega⟩
                        case rest =>
                          obtain ⟨hx6, M3, rfl, hM3, hb31, hb32⟩ := hcut
                          have HM3 := hide hM3
                          have HB31 := hide hb31
                          have HB32 := hide hb32
                          have HX6 := hide (HX5.out.trans hx6)
                          have HE6 := hide (HENT.out.ext HX6.out)
                          obtain ⟨W6, hW6⟩ : ∃ W6 : World, wc = W6 := ⟨_, rfl⟩
                          rw [hW6] at HX6 HE6 ⊢
                          have HUB := hide (u32_bit M3 kk hM3)
                          clear hM3 hb31 hb32 hx6 hW6
                          have HKK := hide (HB31.out kk (by omega))
                          obtain ⟨kp, hkp⟩ : ∃ kp, keepB f s r out N kk = kp := ⟨_, rfl⟩
                          rw [hkp] at HKK
                          rw [HKK.out] at HUB
                          have HKP := hide hkp
                          clear hkp
                          have HUP := hide (show dirsUp (keepB f s r out N) (kk + 1) = if kp = true then dirsUp (keepB f s r out N) kk ++ [(kk : Int)] else dirsUp (keepB f s r out N) kk by rw [← HKP.out]; rfl)
                          have hdl := dirsUp_len (keepB f s r out N) kk
                          obtain ⟨dl, hdl2⟩ : ∃ dl, dirsUp (keepB f s r out N) kk = dl := ⟨_, rfl⟩
                          rw [hdl2] at HE6 HUP hdl
                          clear hdl2
                          cases kp with
                          | true =>
                            have hgt : decide ((0 : Int) < bits .and .u32 ((M3 : Int) / 2 ^ kk) 1) = true := HUB.out
                            have hgt2 : ((0 : Int) < bits .and .u32 ((M3 : Int) / 2 ^ kk) 1) = True := by simpa using hgt
                            obtain ⟨hx7, hBB, fv, hbx, hfb, hfo⟩ := HE6.out
                            have HX7 := hide hx7
                            have HBB := hide hBB
                            have HBX := hide hbx
                            have HFB := hide hfb
                            have HFO := hide hfo
                            have p0 : W6.cell? ⟨B2, 0, none⟩ = some (.int .i64 N) := cell_of_row W6 B2 0 _ 103 (0, 0) hbx
                            have p1 : W6.cell? ⟨B2, 1, none⟩ = some fv := cell_of_row W6 B2 1 _ 103 (0, 0) hbx
                            have hb6 := World.block_lt_of_cell? _ _ p0
                            dsimp only at hb6
                            obtain ⟨iI, hiI, hzI0, hzI1, hzI2⟩ := info_parts int_info
                            have HSRC := hide ((Own.lit W6 0 3 1 1 #[.int .i64 (kk : Int)] (Nat.zero_le _) rfl (by simp [maxLen])).src)
                            have HOW := hide (HFO.out.ext ((Ext.refl W6).alloc (.cells #[.int .i64 (kk : Int)] 3)))
                            have hdk : dl.length ≤ 30 := by omega
                            clear hgt hx7 hBB hbx hfb hfo hdl HUB HKK
                            go_wp2_with (
                              at_builtin
                              refine wpList_append rfl (.tmp 102) (.tmp 104) 29 rfl B2 3 iI _ 1 8 Try.underlying29 hiI hzI0 hzI1 hzI2 rfl _ dl.length _ rfl HOW.out _ 1 1 [.int .i64 (kk : Int)] rfl HSRC.out (by simp [Value.oneCell']) (by simp [maxLen]; omega) (by omega) (by simp; omega) ?_
                              intro v7 w7 hown7 hg7 hv7
                              have hwb7 : w7.heap[B2]? = some (.cells #[.int .i64 N, fv] 103) := by
                                rw [hg7.block B2 (by simp; omega) (fun e => HFB.out e.symm), Below.block ((Ext.refl W6).alloc _) B2 hb6]
                                exact HBX.out
                              have p7 : w7.cell? ⟨B2, 1, none⟩ = some fv := cell_of_row w7 B2 1 _ 103 (0, 0) hwb7
                              have q7 : w7.frozen? ⟨B2, 1, none⟩ = false := by simp [World.frozen?, hwb7]
                              have HO7 := hide hown7
                              have HG7 := hide hg7
                              have HV7 := hide hv7
                              obtain ⟨A7, cap7, rfl, _, _, _⟩ := hown7.form
                              clear hown7 hg7 hv7 hwb7)
                            go_roundw
                            case rel => exact ⟨kk + 1, M3, by omega, by go_num, rfl, HM3.out, by rw [HUP.out, if_pos rfl]; exact EntV.app HX7.out HBB.out HBX.out HFB.out HFO.out ((Ext.refl W6).alloc _) HO7.out HG7.out HV7.out, HB31.out, HB32.out⟩
                            case measure => simp [intOf]; omega
                          | false =>
                            have hgt : decide ((0 : Int) < bits .and .u32 ((M3 : Int) / 2 ^ kk) 1) = false := HUB.out
                            have hgt2 : ((0 : Int) < bits .and .u32 ((M3 : Int) / 2 ^ kk) 1) = False := by simpa using hgt
                            clear hgt hdl HUB HKK
                            go_wp2_with fail
                            go_roundw
                            case rel => exact ⟨kk + 1, M3, by omega, by go_num, rfl, HM3.out, by rw [HUP.out, if_neg (by decide)]; exact HE6.out, HB31.out, HB32.out⟩
                            case measure => simp [intOf]; omega
                    · have hkq : kk = s.dirs.length := by omega
                      have HKQ := hide hkq
                      clear hkq
                      obtain ⟨iA, hiA, hzA0, hzA1, hzA2⟩ := info_parts axis_info
                      have HSRC := hide ((Own.lit wr 0 103 2 1 #[.int .i64 N, fv] (Nat.zero_le _) rfl (by simp [maxLen])).src)
                      have HOV4 := hide (HOV.out.ext (HX4.out.trans HDD.out))
                      have HOV5 := hide (HOV4.out.ext ((Ext.refl wr).alloc (.cells #[.int .i64 N, fv] 103)))
                      have HYB := hide (HOV.out.1.block)
                      have hyl5 : ys.length ≤ 1000000 := by
                        have h1 := axesK_len (f := f) (s := s) (Rise.of (repErr_0 HRX.out).1) h8
                        have h2 := fillN_len (f := f) (s := s) r (axesK f s xs k) (firstN xs k) c
                        rw [HOUT.out] at h2
                        have h3 := HYL.out
                        have h4 := HN.out
                        have h5 := (RepOk.at HRX.out (show 0 < xs.length by omega)).2.2.1
                        omega
                      have HFO5 := hide (show Own wr B2 3 1 fv (dirsUp (keepB f s r out N) s.dirs.length).length ((dirsUp (keepB f s r out N) s.dirs.length).map (Value.int .i64)) by rw [← HKQ.out]; exact HFO.out)
                      have HBW := hide hbB
                      have o1 : fv.oneCell' = true := by
                        rcases HFO.out.2 with ⟨rfl, _⟩ | ⟨g, cap, cur, lo, hi, rfl, _⟩ <;> rfl
                      have O1 := hide (show ∀ u ∈ [Value.int .i64 N, fv], u.oneCell' = true by
                        intro u hu
                        rcases List.mem_cons.1 hu with rfl | hu
                        · rfl
                        · rw [List.mem_singleton.1 hu]; exact o1)
                      have HBK2 := hide (show wr.heap[B]? = some (.cells #[.int .i64 r.num, .int .i64 r.frm, .int .i64 r.agr, .bool r.marked, .slice Bw m cw] 97) by
                        rw [Below.block (HX4.out.trans HDD.out) B hbB]
                        exact HBK.out)
                      clear hbx hfo o1
                      go_wp2_with (
                        at_builtin
                        refine wpList_append rfl (.tmp 108) (.tmp 110) 85 rfl w2.heap.size 103 iA _ 2 32 Try.underlying85 hiA hzA0 hzA1 hzA2 rfl _ ys.length _ rfl HOV5.out.1 _ 1 1 [.int .i64 N, fv] rfl HSRC.out O1.out (by simp [maxLen]; omega) (by omega) (by have := HFF.out.size; have := HX4.out.size; have := HDD.out.size; simp; omega) ?_
                        intro v7 w7 hown7 hg7 hv7
                        have HO7 := hide hown7
                        have HG7 := hide hg7
                        have HV7 := hide hv7
                        clear hown7 hg7 hv7)
                      have hs7 := HG7.out.size
                      have hlB : B < wr.heap.size := hdB
                      have hB2l : wc.heap.size = B2 := HB2.out
                      have hwc := HX4.out.size
                      have hw2 := HFF.out.size
                      have hv7b : v7.ownBlock = (Value.slice Ao ys.length co).ownBlock ∨ v7.ownBlock = some (wr.alloc (.cells #[.int .i64 N, fv] 103)).heap.size := HV7.out
                      go_roundw
                      case rel =>
                        refine ⟨((HFF.out.trans (HX4.out.trans HDD.out)).trans ((Ext.refl wr).alloc _)).grown HG7.out (fun j hj => (HYB.out j hj).1), ?_, ?_, c + 1, M', ys ++ [((N, dirsUp (keepB f s r out N) s.dirs.length), fv)], by have := HN.out; omega, by rw [← HN.out]; simp [Int.add_assoc], rfl, HM'.out, ?_, ?_, ?_⟩
                        · rw [HG7.out.block B (by simp; omega) (fun e => HNB.out e.symm), Below.block ((Ext.refl wr).alloc _) B hlB]
                          exact HBK2.out
                        · rcases hv7b with e | e
                          · rw [e]; exact HNB.out
                          · rw [e]; intro e2; injection e2 with e2; simp at e2; omega
                        · refine HOV5.out.more ((HFO5.out.ext ((Ext.refl wr).alloc _)).mono (by omega)) (fun g hg hvg => ?_) HO7.out HG7.out HV7.out
                          have h1 := (HFO.out.block g hg).1
                          have h2 := (HYB.out g hvg).2
                          omega
                        · rw [List.map_append, HYS.out, fillN, HOUT.out, HN.out]; rfl
                        · rw [fillN, HOUT.out, HN.out]
                          exact MaskIs.entry (fun l hl => HB1.out l (by rw [HKQ.out]; exact hl))
                      case measure => simp [intOf]; have := HN.out; omega
              · have hcc : c = (r.num - firstN xs k + 1).toNat := by have := HCC.out; have := HN.out; omega
                have HAK := hide (show axesK f s xs (k + 1) = fillN f s r (axesK f s xs k) (firstN xs k) c by rw [axesK, show repAt xs k = r from HR.out, hcc])
                clear hcc
                go_wp2_with fail
                go_roundw
                case rel => exact ⟨HFF.out, k + 1, M, ys, by omega, by go_num, rfl, HMM.out, HOV.out, by rw [HAK.out]; exact HYS.out, by rw [HAK.out]; exact HMS.out⟩
                case measure => simp [intOf]; omega
        · have hkn : k = xs.length := by omega
          go_wp2_with fail
          go_ret2
          exact ⟨_, ys, by rw [HO.out]; rfl, HOV'.out.axes, by rw [HO.out, HYS'.out, hkn], HXR.out⟩
    · have hd2 : (re != 0) = true := by simp [hrk]
      have HO := hide (HAR.out hsk hrk)
      go_wp2_with fail
      go_ret2
      exact ⟨_, [], by rw [HO.out]; rfl, ⟨none, 0, rfl, Nat.le_refl _, by simp [maxLen], fun h => absurd h (by simp), by simp⟩, by rw [HO.out]; rfl, HX2.out⟩
  · have hd1 : (so.2 != 0) = true := by simp [hsk]
    have HO := hide (HAS.out hsk)
    go_wp2_with fail
    go_ret2
    exact ⟨_, [], by rw [HO.out]; rfl, ⟨none, 0, rfl, Nat.le_refl _, by simp [maxLen], fun h => absurd h (by simp), by simp⟩, by rw [HO.out]; rfl, HX1.out⟩
end Go.Proofs.Ytjnnkcnnandeeaa

