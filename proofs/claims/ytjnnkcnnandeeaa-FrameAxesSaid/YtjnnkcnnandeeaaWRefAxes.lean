/- The walk of the reference's Axes. -/
import Derived.Test.YtjnnkcnnandeeaaWAxes
import Derived.Test.YtjnnkcnnandeeaaWRefReps
import Derived.Test.YtjnnkcnnandeeaaWRefFits
import Derived.Test.YtjnnkcnnandeeaaWRefSky
namespace Go.Proofs.Ytjnnkcnnandeeaa
open Go.RowKit
def lenV : Value → Nat
  | .slice _ n _ => n
  | _ => 0
/-- What stands at the head of the loop. -/
def RAxO (f : Fmt) (s : Sky) (xs : List RepX) (W2 : World) (v10 v11 : Value) (wr : World) : Prop :=
  Ext W2 wr ∧ ∃ (k c : Nat) (ys : List AxX), k ≤ xs.length ∧ v11 = .int .i64 k ∧ OutV wr W2.heap.size v10 ys ∧ ys.map Prod.fst = fillN f s (repAt xs k) (axesK f s xs k) (firstN xs k) c ∧ (k < xs.length → firstN xs k + c ≤ (repAt xs k).num) ∧ (k = xs.length → c = 0)
/-- What stands at the head of the loop over the directions. -/
def RAxD (f : Fmt) (s : Sky) (r : RepH) (out : List AxN) (N : Int) (B : Nat) (Wx : World) (v14 : Value) (wr : World) : Prop :=
  ∃ k : Nat, k ≤ s.dirs.length ∧ v14 = .int .i64 k ∧ EntV N B (dirsUp (keepB f s r out N) k) Wx wr
def RCut (b : Bool) (Wx : World) (v : Value) (wx : World) : Prop := Ext Wx wx ∧ v = .bool b
theorem fillN_len2 {f : Fmt} {s : Sky} {xs : List RepX} (hr : Rise xs) {k c : Nat} (hk : k < xs.length) (hc : firstN xs k + c ≤ (repAt xs k).num) :
    ((fillN f s (repAt xs k) (axesK f s xs k) (firstN xs k) c).length : Int) = firstN xs k + c - (repAt xs 0).num ∧ (fillN f s (repAt xs k) (axesK f s xs k) (firstN xs k) c).length < (axesK f s xs xs.length).length := by
  have h1 := axesK_len (f := f) (s := s) hr hk
  have h2 := axesK_all (f := f) (s := s) hr (show 0 < xs.length by omega)
  have h3 := rep_le hr (show k ≤ xs.length - 1 by omega) (by omega)
  rw [fillN_len]
  omega
theorem entry_dirs {f : Fmt} {s : Sky} (r : RepH) (out : List AxN) (n : Int) (c : Nat) (h : ∀ a ∈ out, ∀ x ∈ a.2, 0 ≤ x ∧ x < (s.dirs.length : Int)) : ∀ a ∈ fillN f s r out n c, ∀ x ∈ a.2, 0 ≤ x ∧ x < (s.dirs.length : Int) := by
  induction c with
  | zero => exact h
  | succ c ih =>
    intro a ha x hx
    rw [fillN] at ha
    rcases List.mem_append.1 ha with ha | ha
    · exact ih a ha x hx
    · rw [List.mem_singleton.1 ha] at hx
      obtain ⟨l, h1, _, h3⟩ := mem_dirsUp.1 hx
      omega
theorem axes_dirs {f : Fmt} {s : Sky} {xs : List RepX} (k : Nat) : ∀ a ∈ axesK f s xs k, ∀ x ∈ a.2, 0 ≤ x ∧ x < (s.dirs.length : Int) := by
  induction k with
  | zero => intro a ha; cases ha
  | succ k ih => exact entry_dirs _ _ _ _ ih
set_option linter.unusedSimpArgs false in
set_option maxRecDepth 100000 in
set_option maxHeartbeats 4000000 in
/-- ref.Axes -/
theorem refAxes_any (v u t : Value) (f : Fmt) (s : Sky) (xs : List RepX) (w : World) (hv : FmtV w v f) (hu : SkyV w u s) (ht : RepsV w t xs) :
    Calls Try.prog 44 #[v, u, t] w fun e w' => ∃ r ys, e = .returned (.tuple #[r, .int .i64 (axesOut f s xs).2]) ∧ AxesV w' r ys ∧ ys.map Prod.fst = (axesOut f s xs).1 ∧ Ext w w' := by
  have HV := hide hv
  have HU := hide hu
  have HT := hide ht
  obtain ⟨_, _, AF, capF, rfl, hcF, hmF, hrF⟩ := hv
  have hmF' : capF ≤ 9223372036854775807 := by simpa [maxLen] using hmF
  obtain ⟨A1, c1, A2, c2, rfl, hl1, hm1, hl2, hm2, hr1, hr2⟩ := hu
  have hn1 : c1 ≤ 9223372036854775807 := by simpa [maxLen] using hm1
  have hn2 : c2 ≤ 9223372036854775807 := by simpa [maxLen] using hm2
  obtain ⟨AT, capT, rfl, hcT, hmT, hrT, hwT⟩ := ht
  have hmT' : capT ≤ 9223372036854775807 := by simpa [maxLen] using hmT
  have HR1 := hide hr1
  have HRT := hide hrT
  have HWT := hide hwT
  have HAS := hide (@axesOut_sky f s xs)
  have HAR := hide (@axesOut_rep f s xs)
  have HAO := hide (@axesOut_ok f s xs)
  have HSO := hide (fun h => @SkyOk.of f s h)
  have HSKY := hide (fun V (e : Ext w V) => refSky_any _ _ f s V (HV.out.ext e) (HU.out.ext e))
  have HREP := hide (fun V (e : Ext w V) => refReports_any _ _ f xs V (HV.out.ext e) (HT.out.ext e))
  generalize axesOut f s xs = ao at *
  generalize hso : skyOut f s = so at *
  generalize hre : repErr f xs = re at *
  have HRE' := hide hre
  clear hmF hrF hr1 hr2 hm1 hm2 hrT hwT hmT hre
  have HSO' := hide hso
  clear hso
  obtain ⟨W0, hW0⟩ : ∃ W0, (w.alloc (.cells #[.string f.sync, .int .i64 f.words, .int .i64 f.depth, .slice AF f.channels.length capF] 28)).alloc (.cells #[.slice A1 s.dirs.length c1, .int .i64 s.turn, .slice A2 s.sens.length c2] 76) = W0 := ⟨_, rfl⟩
  have hx0 : Ext w W0 := by rw [← hW0]; exact ((Ext.refl w).alloc _).alloc _
  have hA : Ext (w.alloc (.cells #[.string f.sync, .int .i64 f.words, .int .i64 f.depth, .slice AF f.channels.length capF] 28)) W0 := by rw [← hW0]; exact (Ext.refl _).alloc _
  have hB : Ext ((w.alloc (.cells #[.string f.sync, .int .i64 f.words, .int .i64 f.depth, .slice AF f.channels.length capF] 28)).alloc (.cells #[.slice A1 s.dirs.length c1, .int .i64 s.turn, .slice A2 s.sens.length c2] 76)) W0 := by rw [← hW0]; exact Ext.refl _
  have g0 : W0.cell? ⟨w.heap.size, 0, none⟩ = some (.string f.sync) := by have := hA.cell (cell_mk w _ 28 0 (.string f.sync) rfl); simpa only [size_alloc] using this
  have g1 : W0.cell? ⟨w.heap.size, 1, none⟩ = some (.int .i64 f.words) := by have := hA.cell (cell_mk w _ 28 1 (.int .i64 f.words) rfl); simpa only [size_alloc] using this
  have g2 : W0.cell? ⟨w.heap.size, 2, none⟩ = some (.int .i64 f.depth) := by have := hA.cell (cell_mk w _ 28 2 (.int .i64 f.depth) rfl); simpa only [size_alloc] using this
  have g3 : W0.cell? ⟨w.heap.size, 3, none⟩ = some (.slice AF f.channels.length capF) := by have := hA.cell (cell_mk w _ 28 3 (.slice AF f.channels.length capF) rfl); simpa only [size_alloc] using this
  have s0 : W0.cell? ⟨w.heap.size + 1, 0, none⟩ = some (.slice A1 s.dirs.length c1) := by have := hB.cell (cell_mk (w.alloc _) _ 76 0 (.slice A1 s.dirs.length c1) rfl); simpa only [size_alloc] using this
  have s1 : W0.cell? ⟨w.heap.size + 1, 1, none⟩ = some (.int .i64 s.turn) := by have := hB.cell (cell_mk (w.alloc _) _ 76 1 (.int .i64 s.turn) rfl); simpa only [size_alloc] using this
  have s2 : W0.cell? ⟨w.heap.size + 1, 2, none⟩ = some (.slice A2 s.sens.length c2) := by have := hB.cell (cell_mk (w.alloc _) _ 76 2 (.slice A2 s.sens.length c2) rfl); simpa only [size_alloc] using this
  clear hA hB
  have HX0 := hide hx0
  have HW0 := hide hW0
  clear hx0 hW0
  go_enter Try.func44, Try.ntmps44
  go_wp2_with fail
  rw [HW0.out]
  refine (HSKY.out _ HX0.out).mono ?_
  rintro e w1 ⟨rfl, hx1⟩
  have HX1 := hide (HX0.out.trans hx1)
  have g0' := hx1.cell g0
  have g1' := hx1.cell g1
  have g2' := hx1.cell g2
  have g3' := hx1.cell g3
  have s0' := hx1.cell s0
  have s1' := hx1.cell s1
  have s2' := hx1.cell s2
  clear hx1
  by_cases hsk : so.2 = 0
  · have hd1 : (so.2 == 0) = true := by simp [hsk]
    go_wp2_with fail
    refine (HREP.out _ HX1.out).mono ?_
    rintro e w2 ⟨rfl, hx2⟩
    have HX2 := hide (HX1.out.trans hx2)
    have g0'' := hx2.cell g0'
    have g1'' := hx2.cell g1'
    have g2'' := hx2.cell g2'
    have g3'' := hx2.cell g3'
    have s0'' := hx2.cell s0'
    have s1'' := hx2.cell s1'
    have s2'' := hx2.cell s2'
    clear hx2
    by_cases hrk : re = 0
    · subst hrk
      have HO := hide (HAO.out hsk rfl)
      have HOK := hide (HSO.out hsk)
      have h30 : s.dirs.length ≤ 30 := by have := (outB_f.1 HOK.out.pre.1).2; omega
      have h31 : 1 ≤ s.dirs.length := by have := (outB_f.1 HOK.out.pre.1).1; omega
      have HRX := hide HRE'.out
      have HRI := hide (Rise.of (repErr_0 HRX.out).1)
      have HB2 : Hid (∀ k, (k < xs.length → firstN xs k ≤ (repAt xs k).num)) := fun k hk => firstN_le HRI.out hk
      go_wp2_with fail
      go_loopw [10, 11] (RAxO f s xs w2) (fun v10 _ _ => (axesK f s xs xs.length).length - lenV v10)
      case atStart => exact ⟨Ext.refl _, 0, 0, [], by omega, rfl, OutV.nil _ _, rfl, fun h => by have := HB2.out 0 h; simpa using this, fun _ => rfl⟩
      case round =>
        obtain ⟨hE, k, c, ys, hk, rfl, HOV, HYS, hck, hc0⟩ := hrel
        have HEE := hide hE
        have HOV := hide HOV
        have HYS := hide HYS
        have HC0 := hide hc0
        have HCK := hide hck
        have e0 := hE.cell g0''
        have e1 := hE.cell g1''
        have e2 := hE.cell g2''
        have e3 := hE.cell g3''
        have e4 := hE.cell s0''
        have e5 := hE.cell s1''
        have e6 := hE.cell s2''
        have HXR := hide (HX2.out.trans hE)
        have hb1 := World.block_lt_of_cell? _ _ e4
        have hb0 := World.block_lt_of_cell? _ _ e0
        dsimp only at hb0 hb1
        obtain ⟨Ao, co, rfl, hco1, hco2, _⟩ := HOV.out.1.form
        have hco3 : co ≤ 9223372036854775807 := by simpa [maxLen] using hco2
        clear hc0 hck hco2 hE
        by_cases h8 : k < xs.length
        · obtain ⟨b, off, r, Bw, m, cw, hA, hbb0, q0, q1, q2, q3, q4, hiw, HR⟩ := reps_row HRT.out HWT.out h8
          have hbb : b < wr.heap.size := Nat.lt_of_lt_of_le hbb0 HXR.out.size
          obtain ⟨b', off', r0, Bw', m', cw', hA', _, c0', _, _, _, _, _, HR0⟩ := reps_row HRT.out HWT.out (show 0 < xs.length by omega)
          subst hA
          injection hA' with hA'
          injection hA' with hA1 hA2
          subst hA1 hA2
          replace q0 := HXR.out.cell q0
          replace q1 := HXR.out.cell q1
          replace q2 := HXR.out.cell q2
          replace q3 := HXR.out.cell q3
          replace q4 := HXR.out.cell q4
          replace c0' := HXR.out.cell c0'
          rw [Nat.zero_mul, Nat.add_zero] at c0'
          have h0l : 0 < xs.length := by omega
          have HIW := hide hiw
          have hrr : repAt xs k = r := HR.out
          have hr0 : repAt xs 0 = r0 := HR0.out
          have HRO := hide (RepOk.at HRX.out h8)
          have HRO0 := hide (RepOk.at HRX.out (show 0 < xs.length by omega))
          obtain ⟨hlen, hlt⟩ := fillN_len2 (f := f) (s := s) HRI.out h8 (HCK.out h8)
          have hcn := HCK.out h8
          have hsp := span_le HRX.out (show 0 < xs.length by omega)
          have hrl := rep_le HRI.out (show k ≤ xs.length - 1 by omega) (by omega)
          have HAK := hide (show (repAt xs k).num = firstN xs k + c → axesK f s xs (k + 1) = fillN f s (repAt xs k) (axesK f s xs k) (firstN xs k) (c + 1) from fun h => by rw [axesK, h]; congr 1; omega)
          have HFI := hide (show fillN f s (repAt xs k) (axesK f s xs k) (firstN xs k) (c + 1) = fillN f s (repAt xs k) (axesK f s xs k) (firstN xs k) c ++ [entry f s (repAt xs k) (fillN f s (repAt xs k) (axesK f s xs k) (firstN xs k) c) (firstN xs k + c)] from rfl)
          have HDI := hide (entry_dirs (f := f) (repAt xs k) (axesK f s xs k) (firstN xs k) c (axes_dirs k))
          rw [hrr] at HRO hlen hlt hcn hrl HAK HFI HYS HDI
          rw [hr0] at HRO0 hsp hlen
          obtain ⟨p0, p1⟩ := HRO.out.2.2
          obtain ⟨p2, p3⟩ := HRO0.out.2.2
          obtain ⟨N, hN⟩ : ∃ N, firstN xs k + (c : Int) = N := ⟨_, rfl⟩
          rw [hN] at hlen hcn HAK HFI
          obtain ⟨out, hout⟩ : ∃ out, fillN f s r (axesK f s xs k) (firstN xs k) c = out := ⟨_, rfl⟩
          rw [hout] at hlen hlt HYS HFI HDI
          have hyl : ys.length = out.length := by rw [← HYS.out, List.length_map]
          have hNn : N = r0.num + (ys.length : Int) := by omega
          have HNN := hide hNn
          have HYL := hide hyl
          have HLT := hide hlt
          have HN := hide hN
          have hyl5 : ys.length ≤ 301 := by omega
          have hN0 : 0 ≤ N := by omega
          have hN1 : N ≤ 1000000 := by omega
          have HCN := hide hcn
          have HRR := hide hrr
          clear hiw hbb0 hrr hr0 hlen hlt hsp hrl hout hyl hN hcn hNn
          go_wp2_with fail
          rw [← HNN.out]
          have HEN := hide (EntV.start wr N)
          obtain ⟨B2, hB2⟩ : ∃ B2, wr.heap.size = B2 := ⟨_, rfl⟩
          obtain ⟨wo, hwo⟩ : ∃ wo : World, wr = wo := ⟨_, rfl⟩
          rw [hwo] at hB2
          subst hwo
          rw [hB2] at HEN ⊢
          have HB2' := hide hB2
          clear hB2
          go_loopw [14] (RAxD f s r out N B2 wr) (fun v14 _ => s.dirs.length - (intOf v14).toNat)
          case atStart => exact ⟨0, by omega, rfl, HEN.out⟩
          case round =>
            obtain ⟨i, hi, rfl, hent⟩ := hrel
            have HENT := hide hent
            obtain ⟨hD, hBB, fv, hbx, hfb, hfo⟩ := hent
            have HDD := hide hD
            have HFO := hide hfo
            have HFB := hide hfb
            have HBX := hide hbx
            have d0 : wr.cell? ⟨B2, 0, none⟩ = some (.int .i64 N) := cell_of_row wr B2 0 _ 103 (0, 0) hbx
            have d1 : wr.cell? ⟨B2, 1, none⟩ = some fv := cell_of_row wr B2 1 _ 103 (0, 0) hbx
            have m0 := hD.cell e0
            have m1 := hD.cell e1
            have m2 := hD.cell e2
            have m3 := hD.cell e3
            have m4 := hD.cell e4
            have m5 := hD.cell e5
            have m6 := hD.cell e6
            have n0 := hD.cell q0
            have n1 := hD.cell q1
            have n2 := hD.cell q2
            have n3 := hD.cell q3
            have n4 := hD.cell q4
            have HXI := hide (HXR.out.trans hD)
            have hdS := World.block_lt_of_cell? _ _ m4
            have hdF := World.block_lt_of_cell? _ _ m0
            have hdQ := World.block_lt_of_cell? _ _ n0
            have hd2 := World.block_lt_of_cell? _ _ d0
            dsimp only at hdS hdF hdQ hd2
            by_cases hin : i < s.dirs.length
            · clear hD hfb hBB hbx hfo
              go_upto_region 14 with (fail)
              obtain ⟨can, hcan⟩ : ∃ can, fromB s out i = can := ⟨_, rfl⟩
              have HCAN := hide hcan
              clear hcan
              obtain ⟨W3, hW3⟩ : ∃ W3 : World, wr = W3 := ⟨_, rfl⟩
              have HENT3 := hide HENT.out
              have HXJ := hide HXI.out
              go_cut [15] (RCut can wr)
              case first =>
                by_cases hy0 : ys.length = 0
                · have hq1 : ((ys.length : Int) == 0) = true := beq_iff_eq.2 (by omega)
                  have hq2 : (ys.length == 0) = true := beq_iff_eq.2 (by omega)
                  have hct : can = true := by
                    rw [← HCAN.out, show out = [] from List.eq_nil_of_length_eq_zero (by rw [← HYL.out]; exact hy0)]; rfl
                  go_quiet (fail)
                  go_wp2_with fail
                  go_meet
                  exact ⟨(Ext.refl _).drewN _, by rw [hct]⟩
                · have hq1 : ((ys.length : Int) == 0) = false := beq_eq_false_iff_ne.2 (by omega)
                  have hq2 : (ys.length == 0) = false := beq_eq_false_iff_ne.2 (by omega)
                  obtain ⟨Ax, cpx, hax, hax1, hax2, hax3, hax4⟩ := HOV.out.axes
                  injection hax with hax5 hax6 hax7
                  subst hax5 hax7
                  obtain ⟨bo, oo, nl, ll, Bl, ml, cl, rfl, hbo, ho0, ho1, hol, HOL⟩ := axes_row hax3 hax4 (show ys.length - 1 < ys.length by omega)
                  have hkm : IntKind.i64.wrap ((ys.length : Int) - 1) = ((ys.length - 1 : Nat) : Int) := by rw [IntKind.wrap_i64]; omega
                  have ho1' := HDD.out.cell ho1
                  have HLL := hide (show out.getLast? = some (nl, ll) by
                    have h1 := HYS.out
                    have h2 : (ys.map Prod.fst)[ys.length - 1]? = some (nl, ll) := by rw [getD_fst (by omega), HOL.out]
                    rw [h1] at h2
                    rw [List.getLast?_eq_getElem?, ← HYL.out]; exact h2)
                  have HCT := hide (show turnsB s ll i = can by rw [← HCAN.out]; unfold fromB; rw [HLL.out])
                  have HDL := hide (show ∀ j, j < ll.length → 0 ≤ ll.getD j 0 ∧ ll.getD j 0 < s.dirs.length from fun j hj => HDI.out (nl, ll) (List.mem_of_getLast? HLL.out) _ (getD_in 0 hj))
                  have HTC := hide (fun V (e : Ext wr V) => turns_any _ s ll Bl ml cl i V (HU.out.ext (HXI.out.trans e)) (fun j hj => (dirErr_0 (HOK.out.dirs j hj)).1) (hol.ext (HDD.out.trans e)) HDL.out hin)
                  rw [HCT.out] at HTC
                  have hix : ys.length - 1 < ys.length := by omega
                  have HKM := hide hkm
                  clear hkm hax1 hax2 hax3 hax4 hol ho0 ho1
                  apply wp_region_f (50 :: 51 :: 52 :: 53 :: 54 :: 55 :: 56 :: 57 :: 58 :: 59 :: 60 :: 61 :: 62 :: 63 :: 64 :: 15 :: [])
                    (.is _ :: .is _ :: .is _ :: .is _ :: .is _ :: .is _ :: .is _ :: .is _ :: .is _ :: .is _ :: .is _ :: .is _ :: .is _ :: .is _ :: .is _ :: .is _ :: [])
                    [(4, _), (10, _), (14, _)]
                  · kernel_rfl
                  · decide
                  · rfl
                  · kernel_rfl
                  · decide +kernel
                  · kernel_rfl
                  · kernel_rfl
                  · kernel_rfl
                  · kernel_rfl
                  · rfl
                  · exact ⟨trivial, trivial, trivial, trivial, trivial, trivial, trivial, trivial, trivial, trivial, trivial, trivial, trivial, trivial, trivial, trivial, trivial⟩
                  · refine ⟨?_, ?_, ?_, trivial⟩ <;> (simp; rfl)
                  · repeat
                      refine ⟨?_, ?_⟩
                      · intro F W hF hd hR
                        simp [fixedAt] at hF
                        obtain ⟨t4, t10, t14⟩ := hF
                        simp [Region.binds, Ent.holds] at hd
                        refine ⟨fun _ K hK => ?_, by intro g b h hn; first | (cases h; done) | (cases h; exact absurd (by simp [hd, hq1, hq2]) hn)⟩
                        simp only [Ent.holds, List.getD_cons_zero, List.getD_cons_succ] at hK
                        have r0 := hR.cell m4
                        have r1 := hR.cell m5
                        have r2 := hR.cell m6
                        have r3 := hR.cell ho1'
                        have HKM' := HKM.out
                        go_simp
                        first
                          | exact hK _ _ rfl (Ext.refl _)
                          | (with_reducible refine (HTC.out _ hR).mono ?_
                             rintro e w4 ⟨rfl, hx4⟩
                             exact hK _ _ rfl hx4)
                    exact trivial
                  intro X W hx hR
                  simp only [toldX] at hx
                  simp only [fillX, List.setIfInBounds_toArray, List.set_cons_succ, List.set_cons_zero]
                  go_wp2_with fail
                  go_meet
                  exact ⟨hR, rfl⟩
              case rest =>
                obtain ⟨hx5, rfl⟩ := hcut
                obtain ⟨W5, hW5⟩ : ∃ W5 : World, wc = W5 := ⟨_, rfl⟩
                rw [hW5] at hx5 ⊢
                have HXK := hide (HXI.out.trans hx5)
                have HX5 := hide hx5
                have u0 := hx5.cell m0
                have u1 := hx5.cell m1
                have u2 := hx5.cell m2
                have u3 := hx5.cell m3
                have u4 := hx5.cell m4
                have u5 := hx5.cell m5
                have u6 := hx5.cell m6
                have rr0 := hx5.cell n0
                have rr1 := hx5.cell n1
                have rr2 := hx5.cell n2
                have rr3 := hx5.cell n3
                have rr4 := hx5.cell n4
                clear hW5 hx5
                have HKB := hide (show keepB f s r out N i = (can && (!decide (r.num = N) || r.marked || fitsB f s (s.dirs.getD i default) r)) by rw [← HCAN.out]; rfl)
                have HFC := hide (fun V (e : Ext W5 V) => refFits_any _ _ f s i r Bw m cw V (HV.out.ext (HXK.out.trans e)) (HU.out.ext (HXK.out.trans e)) HOK.out hin HRO.out (HIW.out.ext (HXK.out.trans e)))
                generalize fitsB f s _ r = fb at *
                obtain ⟨kp, hkp⟩ : ∃ kp, keepB f s r out N i = kp := ⟨_, rfl⟩
                rw [hkp] at HKB
                have HKP := hide hkp
                clear hkp
                go_upto_region 15 with (fail)
                go_cut [91] (RCut kp W5)
                case first =>
                  cases can with
                  | false =>
                    go_quiet (fail)
                    go_wp2_with fail
                    go_meet
                    exact ⟨(Ext.refl _).drewN _, by rw [HKB.out]; rfl⟩
                  | true =>
                    by_cases hNr : r.num = N
                    · have hq1 : (r.num != N) = false := by simp [hNr]
                      have hq3 : decide (r.num = N) = true := by simp [hNr]
                      rw [hq3] at HKB
                      clear hq3
                      have HNr := hide hNr
                      clear hNr
                      obtain ⟨mk, hmk⟩ : ∃ mk, r.marked = mk := ⟨_, rfl⟩
                      rw [hmk] at rr3 HKB HFC
                      have HMK := hide hmk
                      clear hmk
                      cases mk with
                      | true =>
                        go_quiet (fail)
                        go_wp2_with fail
                        go_meet
                        exact ⟨(Ext.refl _).drewN _, by rw [HKB.out]; rfl⟩
                      | false =>
                        apply wp_region_f (65 :: 66 :: 67 :: 68 :: 69 :: 70 :: 71 :: 72 :: 73 :: 74 :: 75 :: 76 :: 77 :: 78 :: 79 :: 80 :: 81 :: 82 :: 83 :: 84 :: 85 :: 86 :: 87 :: 88 :: 89 :: 90 :: 91 :: [])
                          (.is _ :: .is _ :: .is _ :: .is _ :: .is _ :: .is _ :: .is _ :: .is _ :: .is _ :: .is _ :: .is _ :: .is _ :: .is _ :: .is _ :: .is _ :: .is _ :: .is _ :: .is _ :: .is _ :: .is _ :: .is _ :: .is _ :: .is _ :: .is _ :: .is _ :: .is _ :: .is _ :: [])
                          [(2, _), (3, _), (4, _), (11, _), (12, _), (14, _), (15, _)]
                        · kernel_rfl
                        · decide
                        · rfl
                        · kernel_rfl
                        · decide +kernel
                        · kernel_rfl
                        · kernel_rfl
                        · kernel_rfl
                        · kernel_rfl
                        · rfl
                        · exact ⟨trivial, trivial, trivial, trivial, trivial, trivial, trivial, trivial, trivial, trivial, trivial, trivial, trivial, trivial, trivial, trivial, trivial, trivial, trivial, trivial, trivial, trivial, trivial, trivial, trivial, trivial, trivial, trivial⟩
                        · refine ⟨?_, ?_, ?_, ?_, ?_, ?_, ?_, trivial⟩ <;> (simp; rfl)
                        · repeat
                            refine ⟨?_, ?_⟩
                            · intro F W hF hd hR
                              simp [fixedAt] at hF
                              obtain ⟨t2, t3, t4, t11, t12, t14, t15⟩ := hF
                              simp [Region.binds, Ent.holds] at hd
                              refine ⟨fun _ K hK => ?_, by intro g b h hn; first | (cases h; done) | (cases h; exact absurd (by simp [hd, hq1]) hn)⟩
                              simp only [Ent.holds, List.getD_cons_zero, List.getD_cons_succ] at hK
                              have r0 := hR.cell u0
                              have r1 := hR.cell u1
                              have r2 := hR.cell u2
                              have r3 := hR.cell u3
                              have r4 := hR.cell u4
                              have r5 := hR.cell u5
                              have r6 := hR.cell u6
                              have r7 := hR.cell rr0
                              have r8 := hR.cell rr1
                              have r9 := hR.cell rr2
                              have r10 := hR.cell rr3
                              have r11 := hR.cell rr4
                              go_simp
                              first
                                | exact hK _ _ rfl (Ext.refl _)
                                | (with_reducible refine (HFC.out _ hR).mono ?_
                                   rintro e w4 ⟨rfl, hx4⟩
                                   exact hK _ _ rfl hx4)
                          exact trivial
                        intro X W hx hR
                        simp only [toldX] at hx
                        simp only [fillX, List.setIfInBounds_toArray, List.set_cons_succ, List.set_cons_zero]
                        go_wp2_with fail
                        go_meet
                        exact ⟨hR, by rw [HKB.out]; rfl⟩
                    · have hq1 : (r.num != N) = true := by simp [hNr]
                      have hq3 : decide (r.num = N) = false := by simp [hNr]
                      rw [hq3] at HKB
                      clear hq3
                      go_quiet (fail)
                      go_wp2_with fail
                      go_meet
                      exact ⟨(Ext.refl _).drewN _, by rw [HKB.out]; rfl⟩
                case rest =>
                  obtain ⟨hx6, rfl⟩ := hcut
                  have HX6 := hide (HX5.out.trans hx6)
                  have HE6 := hide (HENT.out.ext HX6.out)
                  obtain ⟨W6, hW6⟩ : ∃ W6 : World, wc = W6 := ⟨_, rfl⟩
                  rw [hW6] at HX6 HE6 ⊢
                  clear hx6 hW6
                  have HUP := hide (show dirsUp (keepB f s r out N) (i + 1) = if kp = true then dirsUp (keepB f s r out N) i ++ [(i : Int)] else dirsUp (keepB f s r out N) i by rw [← HKP.out]; rfl)
                  have hdl := dirsUp_len (keepB f s r out N) i
                  obtain ⟨dl, hdl2⟩ : ∃ dl, dirsUp (keepB f s r out N) i = dl := ⟨_, rfl⟩
                  rw [hdl2] at HE6 HUP hdl
                  clear hdl2
                  cases kp with
                  | true =>
                    obtain ⟨hx7, hBB, fv, hbx, hfb, hfo⟩ := HE6.out
                    have HX7 := hide hx7
                    have HBB := hide hBB
                    have HBX := hide hbx
                    have HFB := hide hfb
                    have HFO := hide hfo
                    have p0 : W6.cell? ⟨B2, 0, none⟩ = some (.int .i64 N) := cell_of_row W6 B2 0 _ 103 (0, 0) hbx
                    have p1 : W6.cell? ⟨B2, 1, none⟩ = some fv := cell_of_row W6 B2 1 _ 103 (0, 0) hbx
                    have hb6 := World.block_lt_of_cell? _ _ p0
                    dsimp only at hb6
                    obtain ⟨iI, hiI, hzI0, hzI1, hzI2⟩ := info_parts int_info
                    have HSRC := hide ((Own.lit W6 0 3 1 1 #[.int .i64 (i : Int)] (Nat.zero_le _) rfl (by simp [maxLen])).src)
                    have HOW := hide (HFO.out.ext ((Ext.refl W6).alloc (.cells #[.int .i64 (i : Int)] 3)))
                    have hdk : dl.length ≤ 30 := by omega
                    clear hx7 hBB hbx hfb hfo hdl
                    go_wp2_with (
                      at_builtin
                      refine wpList_append rfl (.tmp 93) (.tmp 95) 29 rfl B2 3 iI _ 1 8 Try.underlying29 hiI hzI0 hzI1 hzI2 rfl _ dl.length _ rfl HOW.out _ 1 1 [.int .i64 (i : Int)] rfl HSRC.out (by simp [Value.oneCell']) (by simp [maxLen]; omega) (by omega) (by simp; omega) ?_
                      intro v7 w7 hown7 hg7 hv7
                      have hwb7 : w7.heap[B2]? = some (.cells #[.int .i64 N, fv] 103) := by
                        rw [hg7.block B2 (by simp; omega) (fun e => HFB.out e.symm), Below.block ((Ext.refl W6).alloc _) B2 hb6]
                        exact HBX.out
                      have p7 : w7.cell? ⟨B2, 1, none⟩ = some fv := cell_of_row w7 B2 1 _ 103 (0, 0) hwb7
                      have q7 : w7.frozen? ⟨B2, 1, none⟩ = false := by simp [World.frozen?, hwb7]
                      have HO7 := hide hown7
                      have HG7 := hide hg7
                      have HV7 := hide hv7
                      obtain ⟨A7, cap7, rfl, _, _, _⟩ := hown7.form
                      clear hown7 hg7 hv7 hwb7)
                    go_roundw
                    case rel => exact ⟨i + 1, by omega, by go_num, by rw [HUP.out, if_pos rfl]; exact EntV.app HX7.out HBB.out HBX.out HFB.out HFO.out ((Ext.refl W6).alloc _) HO7.out HG7.out HV7.out⟩
                    case measure => simp [intOf]; omega
                  | false =>
                    clear hdl
                    go_wp2_with fail
                    go_roundw
                    case rel => exact ⟨i + 1, by omega, by go_num, by rw [HUP.out, if_neg (by decide)]; exact HE6.out⟩
                    case measure => simp [intOf]; omega
            · have hkq : i = s.dirs.length := by omega
              have HKQ := hide hkq
              clear hkq
              obtain ⟨iA, hiA, hzA0, hzA1, hzA2⟩ := info_parts axis_info
              have HSRC := hide ((Own.lit wr 0 103 2 1 #[.int .i64 N, fv] (Nat.zero_le _) rfl (by simp [maxLen])).src)
              have HOV4 := hide (HOV.out.ext HDD.out)
              have HOV5 := hide (HOV4.out.ext ((Ext.refl wr).alloc (.cells #[.int .i64 N, fv] 103)))
              have HYB := hide (HOV.out.1.block)
              have HFO5 := hide (show Own wr B2 3 1 fv (dirsUp (keepB f s r out N) s.dirs.length).length ((dirsUp (keepB f s r out N) s.dirs.length).map (Value.int .i64)) by rw [← HKQ.out]; exact HFO.out)
              have o1 : fv.oneCell' = true := by
                rcases HFO.out.2 with ⟨rfl, _⟩ | ⟨g, cap, cur, lo, hi, rfl, _⟩ <;> rfl
              have O1 := hide (show ∀ u ∈ [Value.int .i64 N, fv], u.oneCell' = true by
                intro u hu
                rcases List.mem_cons.1 hu with rfl | hu
                · rfl
                · rw [List.mem_singleton.1 hu]; exact o1)
              clear hbx hfo o1 hD hfb hBB
              by_cases hNr : r.num = N
              · have hq1 : (r.num == N) = true := by simp [hNr]
                have HNr := hide hNr
                clear hNr
                go_wp2_with (
                  at_builtin
                  refine wpList_append rfl (.tmp 107) (.tmp 109) 85 rfl w2.heap.size 103 iA _ 2 32 Try.underlying85 hiA hzA0 hzA1 hzA2 rfl _ ys.length _ rfl HOV5.out.1 _ 1 1 [.int .i64 N, fv] rfl HSRC.out O1.out (by simp [maxLen]; omega) (by omega) (by have := HEE.out.size; have := HDD.out.size; simp; omega) ?_
                  intro v7 w7 hown7 hg7 hv7
                  have HO7 := hide hown7
                  have HG7 := hide hg7
                  have HV7 := hide hv7
                  obtain ⟨A7, cap7, rfl, _, _, _⟩ := hown7.form
                  clear hown7 hg7 hv7)
                have hB2l := HB2'.out
                go_roundw
                case rel =>
                  refine ⟨((HEE.out.trans HDD.out).trans ((Ext.refl wr).alloc _)).grown HG7.out (fun j hj => (HYB.out j hj).1), k + 1, 0, ys ++ [((N, dirsUp (keepB f s r out N) s.dirs.length), fv)], by omega, by go_num, ?_, ?_, fun h => by have := HB2.out (k + 1) h; simpa using this, fun _ => rfl⟩
                  · refine HOV5.out.more ((HFO5.out.ext ((Ext.refl wr).alloc _)).mono (by have := HEE.out.size; omega)) (fun g hg hvg => ?_) HO7.out HG7.out HV7.out
                    have h1 := (HFO.out.block g hg).1
                    have h2 := (HYB.out g hvg).2
                    omega
                  · rw [fillN, HAK.out HNr.out]
                    rw [List.map_append, HYS.out, HFI.out]; rfl
                case measure => simp [lenV]; have := HLT.out; have := HYL.out; omega
              · have hq1 : (r.num == N) = false := by simp [hNr]
                have HNr := hide hNr
                clear hNr
                go_wp2_with (
                  at_builtin
                  refine wpList_append rfl (.tmp 107) (.tmp 109) 85 rfl w2.heap.size 103 iA _ 2 32 Try.underlying85 hiA hzA0 hzA1 hzA2 rfl _ ys.length _ rfl HOV5.out.1 _ 1 1 [.int .i64 N, fv] rfl HSRC.out O1.out (by simp [maxLen]; omega) (by omega) (by have := HEE.out.size; have := HDD.out.size; simp; omega) ?_
                  intro v7 w7 hown7 hg7 hv7
                  have HO7 := hide hown7
                  have HG7 := hide hg7
                  have HV7 := hide hv7
                  obtain ⟨A7, cap7, rfl, _, _, _⟩ := hown7.form
                  clear hown7 hg7 hv7)
                have hB2l := HB2'.out
                go_roundw
                case rel =>
                  refine ⟨((HEE.out.trans HDD.out).trans ((Ext.refl wr).alloc _)).grown HG7.out (fun j hj => (HYB.out j hj).1), k, c + 1, ys ++ [((N, dirsUp (keepB f s r out N) s.dirs.length), fv)], by omega, by go_num, ?_, ?_, fun h => by have := HCN.out; have := HNr.out; have := HN.out; have := HRR.out; rw [HRR.out]; push_cast; omega, fun h => absurd h (by omega)⟩
                  · refine HOV5.out.more ((HFO5.out.ext ((Ext.refl wr).alloc _)).mono (by have := HEE.out.size; omega)) (fun g hg hvg => ?_) HO7.out HG7.out HV7.out
                    have h1 := (HFO.out.block g hg).1
                    have h2 := (HYB.out g hvg).2
                    omega
                  · rw [HRR.out]
                    rw [List.map_append, HYS.out, HFI.out]; rfl
                case measure => simp [lenV]; have := HLT.out; have := HYL.out; omega
        · have hkn : k = xs.length := by omega
          go_wp2_with fail
          go_ret2
          exact ⟨_, ys, by rw [HO.out]; rfl, HOV.out.axes, by rw [HO.out, HYS.out, HC0.out hkn, hkn]; rfl, HXR.out⟩
    · have hd2 : (re != 0) = true := by simp [hrk]
      have HO := hide (HAR.out hsk hrk)
      go_wp2_with fail
      go_ret2
      exact ⟨_, [], by rw [HO.out]; rfl, ⟨none, 0, rfl, Nat.le_refl _, by simp [maxLen], fun h => absurd h (by simp), by simp⟩, by rw [HO.out]; rfl, HX2.out⟩
  · have hd1 : (so.2 == 0) = false := by simp [hsk]
    have hd2 : (so.2 != 0) = true := by simp [hsk]
    have HO := hide (HAS.out hsk)
    go_wp2_with fail
    go_ret2
    exact ⟨_, [], by rw [HO.out]; rfl, ⟨none, 0, rfl, Nat.le_refl _, by simp [maxLen], fun h => absurd h (by simp), by simp⟩, by rw [HO.out]; rfl, HX1.out⟩
end Go.Proofs.Ytjnnkcnnandeeaa

