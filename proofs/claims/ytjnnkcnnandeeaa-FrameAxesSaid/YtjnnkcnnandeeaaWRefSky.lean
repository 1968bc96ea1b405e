/- The walk of the reference's CheckSky. -/
import Derived.Test.YtjnnkcnnandeeaaWSky
import Derived.Test.YtjnnkcnnandeeaaWRefFrm
namespace Go.Proofs.Ytjnnkcnnandeeaa
open Go.RowKit
theorem out_of_in {n lo hi : Int} (h : inB n lo hi = true) : outB n lo hi = false := outB_f.2 (inB_t.1 h)
theorem in_of_out {n lo hi : Int} (h : inB n lo hi = false) : outB n lo hi = true := outB_t.2 (inB_f.1 h)
theorem far3_of {m x y z : Int} (h1 : outB x (-m) m = false) (h2 : outB y (-m) m = false) (h3 : outB z (-m) m = false) : farL m [x, y, z] = false := by
  rw [farL_three, h1, h2, h3]; rfl
set_option maxRecDepth 100000 in
set_option maxHeartbeats 4000000 in
/-- ref.CheckSky -/
theorem refSky_any (v u : Value) (f : Fmt) (s : Sky) (w : World) (hv : FmtV w v f) (hu : SkyV w u s) :
    Calls Try.prog 41 #[v, u] w fun e w' => e = .returned (.tuple #[.int .i64 (skyOut f s).1, .int .i64 (skyOut f s).2]) ∧ Ext w w' := by
  have HV := hide hv
  obtain ⟨_, _, AF, capF, rfl, hfl, hfm, _⟩ := hv
  have hmf : f.channels.length ≤ 9223372036854775807 := by unfold maxLen at hfm; omega
  clear hfl hfm
  obtain ⟨dirs, turn, sens⟩ := s
  obtain ⟨A1, c1, A2, c2, rfl, hl1, hm1, hl2, hm2, hr1, hr2⟩ := hu
  dsimp only at *
  have hn1 : c1 ≤ 9223372036854775807 := by simpa [maxLen] using hm1
  have hn2 : c2 ≤ 9223372036854775807 := by simpa [maxLen] using hm2
  have HR1 := hide hr1
  have HR2 := hide hr2
  clear hm1 hm2 hr1 hr2
  obtain ⟨W0, hW0⟩ : ∃ W0, (w.alloc (.cells #[.string f.sync, .int .i64 f.words, .int .i64 f.depth, .slice AF f.channels.length capF] 28)).alloc (.cells #[.slice A1 dirs.length c1, .int .i64 turn, .slice A2 sens.length c2] 76) = W0 := ⟨_, rfl⟩
  have hx0 : Ext w W0 := by rw [← hW0]; exact ((Ext.refl w).alloc _).alloc _
  have g3 : W0.cell? ⟨w.heap.size, 3, none⟩ = some (.slice AF f.channels.length capF) := by rw [← hW0]; simp
  have s0 : W0.cell? ⟨w.heap.size + 1, 0, none⟩ = some (.slice A1 dirs.length c1) := by rw [← hW0]; simp
  have s1 : W0.cell? ⟨w.heap.size + 1, 1, none⟩ = some (.int .i64 turn) := by rw [← hW0]; simp
  have s2 : W0.cell? ⟨w.heap.size + 1, 2, none⟩ = some (.slice A2 sens.length c2) := by rw [← hW0]; simp
  have HX0 := hide hx0
  have HW0 := hide hW0
  clear hW0
  have HCH := hide (valid_any _ f W0 (HV.out.ext hx0))
  clear hx0
  have HS : Hid (skyOut f ⟨dirs, turn, sens⟩ = if (chk f).2.2 ≠ 0 then (0, (chk f).2.2) else skyIn f.channels.length ⟨dirs, turn, sens⟩) := rfl
  generalize skyOut f ⟨dirs, turn, sens⟩ = out at *
  generalize chk f = ck at *
  obtain ⟨k1, k2, k3⟩ := ck
  dsimp only at HCH HS
  have G3 := hide g3
  have S0 := hide s0
  have S1 := hide s1
  have S2 := hide s2
  clear g3 s0 s1 s2
  go_enter Try.func41, Try.ntmps41
  go_wp2_with fail
  rw [HW0.out]
  refine Calls.mono HCH.out ?_
  rintro e w1 ⟨rfl, hx1⟩
  have g3 := hx1.cell G3.out
  have s0 := hx1.cell S0.out
  have s1 := hx1.cell S1.out
  have s2 := hx1.cell S2.out
  have HX1 := hide (HX0.out.trans hx1)
  clear hx1 HCH HX0 G3 S0 S1 S2 HV
  by_cases h0 : k3 = 0
  · subst h0
    have HS' := hide (show out = skyIn f.channels.length ⟨dirs, turn, sens⟩ by rw [HS.out]; simp)
    clear HS
    go_wp2_with fail
    refine (refIn_any _ _ _ _).mono ?_
    rintro e w4 ⟨rfl, rfl⟩
    cases ho1 : inB dirs.length 1 30 with
    | false =>
      have HS2 := hide (show out = (0, 3) by rw [HS'.out]; exact skyIn_len (.inl (in_of_out ho1)))
      clear ho1
      go_wp2_with fail
      go_ret2
      exact ⟨by rw [HS2.out]; rfl, HX1.out⟩
    | true =>
      have Hho1 := hide (out_of_in ho1)
      clear ho1
      by_cases h6 : 6 < sens.length
      · have HS2 := hide (show out = (0, 3) by rw [HS'.out]; exact skyIn_len (.inr h6))
        go_wp2_with fail
        go_ret2
        exact ⟨by rw [HS2.out]; rfl, HX1.out⟩
      · have h6' : True := trivial
        go_wp2_with fail
        refine (refIn_any _ _ _ _).mono ?_
        rintro e w4 ⟨rfl, rfl⟩
        cases ho2 : inB turn (-100000000) 100000000 with
        | false =>
          have HS2 := hide (show out = (0, 7) by rw [HS'.out]; exact skyIn_turn Hho1.out h6 (in_of_out ho2))
          clear ho2
          go_wp2_with fail
          go_ret2
          exact ⟨by rw [HS2.out]; rfl, HX1.out⟩
        | true =>
          have Hho2 := hide (out_of_in ho2)
          clear ho2
          have HPRE := hide (show SkyPre ⟨dirs, turn, sens⟩ from ⟨Hho1.out, h6, Hho2.out⟩)
          have hl30 := outB_f.1 Hho1.out
          go_wp2_with fail
          go_loopw [7] (fun i wr => Ext w1 wr ∧ ∃ k : Nat, k ≤ dirs.length ∧ i = .int .i64 k ∧ DirsOk ⟨dirs, turn, sens⟩ k) (fun i _ => dirs.length - (intOf i).toNat)
          case atStart => exact ⟨Ext.refl _, 0, by omega, rfl, fun j hj => absurd hj (by omega)⟩
          case round =>
            obtain ⟨hext, k, hk, rfl, hsame⟩ := hrel
            have HSA := hide hsame
            clear hsame
            have q0 := hext.cell s0
            have q1 := hext.cell s1
            have hb1 := World.block_lt_of_cell? _ _ q1
            dsimp only at hb1
            by_cases h8 : k < dirs.length
            · obtain ⟨b, off, x, y, z, rfl, _, hc0, hc1, hc2, HX⟩ := dirs_at (HR1.out.ext (HX1.out.trans hext)) h8
              go_wp2_with fail
              refine (part_any _ _).mono ?_
              rintro e w4 ⟨rfl, rfl⟩
              cases hox : inB x (-10000) 10000 with
              | false =>
                have HS2 := hide (show out = ((k : Int), 7) by rw [HS'.out]; exact skyIn_dir HPRE.out HSA.out h8 (by dsimp only; rw [HX.out]; exact dirErr_far (far3_t.2 (.inl (in_of_out hox)))) (by decide))
                clear hox
                go_wp2_with fail
                go_ret2
                exact ⟨by rw [HS2.out]; rfl, (HX1.out.trans hext).alloc _⟩
              | true =>
                have Hhox := hide (out_of_in hox)
                clear hox
                go_wp2_with fail
                refine (part_any _ _).mono ?_
                rintro e w4 ⟨rfl, rfl⟩
                cases hoy : inB y (-10000) 10000 with
                | false =>
                  have HS2 := hide (show out = ((k : Int), 7) by rw [HS'.out]; exact skyIn_dir HPRE.out HSA.out h8 (by dsimp only; rw [HX.out]; exact dirErr_far (far3_t.2 (.inr (.inl (in_of_out hoy))))) (by decide))
                  clear hoy
                  go_wp2_with fail
                  go_ret2
                  exact ⟨by rw [HS2.out]; rfl, (HX1.out.trans hext).alloc _⟩
                | true =>
                  have Hhoy := hide (out_of_in hoy)
                  clear hoy
                  go_wp2_with fail
                  refine (part_any _ _).mono ?_
                  rintro e w4 ⟨rfl, rfl⟩
                  cases hoz : inB z (-10000) 10000 with
                  | false =>
                    have HS2 := hide (show out = ((k : Int), 7) by rw [HS'.out]; exact skyIn_dir HPRE.out HSA.out h8 (by dsimp only; rw [HX.out]; exact dirErr_far (far3_t.2 (.inr (.inr (in_of_out hoz))))) (by decide))
                    clear hoz
                    go_wp2_with fail
                    go_ret2
                    exact ⟨by rw [HS2.out]; rfl, (HX1.out.trans hext).alloc _⟩
                  | true =>
                    have Hhoz := hide (out_of_in hoz)
                    clear hoz
                    have HNE := hide (dirErr_near (t := turn) (far3_of Hhox.out Hhoy.out Hhoz.out))
                    have HTM := hide (product_any ⟨x, y, z⟩ ⟨x, y, z⟩)
                    unfold Dir.val at HTM
                    dsimp only at HTM
                    have hx3' : Ext wr _ := (Ext.refl wr).alloc (.cells #[.int .i64 x, .int .i64 y, .int .i64 z] 94)
                    obtain ⟨w3, hw3⟩ : ∃ w3, wr.alloc (.cells #[.int .i64 x, .int .i64 y, .int .i64 z] 94) = w3 := ⟨_, rfl⟩
                    have HW3 := hide hw3
                    have r0 : w3.cell? ⟨wr.heap.size, 0, none⟩ = some (.int .i64 x) := by rw [← hw3]; simp
                    have r1 : w3.cell? ⟨wr.heap.size, 1, none⟩ = some (.int .i64 y) := by rw [← hw3]; simp
                    have r2 : w3.cell? ⟨wr.heap.size, 2, none⟩ = some (.int .i64 z) := by rw [← hw3]; simp
                    rw [hw3] at hx3'
                    have r3 := hx3'.cell q1
                    have HX3 := hide (hext.trans hx3')
                    clear hx3' hext q1 q0 hw3
                    go_wp2_with fail
                    rw [HW3.out]
                    apply wp_region_det [60, 61, 62, 63, 64, 65]
                      [_, _, _, _, _, _]
                    · kernel_rfl
                    · decide
                    · rfl
                    · kernel_rfl
                    · decide +kernel
                    · kernel_rfl
                    · kernel_rfl
                    · kernel_rfl
                    · repeat
                        refine ⟨?_, ?_⟩
                        · intro x W hd hR
                          simp [Region.binds] at hd
                          refine ⟨fun _ K hK => ?_, by intro g b h hn; first | (cases h; done) | (cases h; exact absurd (by simp [hd]) hn)⟩
                          simp only [fill, Act.put, List.setIfInBounds_toArray, List.set_cons_succ, List.set_cons_zero, List.getD_cons_zero, List.getD_cons_succ] at hK ⊢
                          try simp only [hd] at hK ⊢
                          have p0 := hR.cell r0
                          have p1 := hR.cell r1
                          have p2 := hR.cell r2
                          have p3 := hR.cell r3
                          go_simp
                          first
                            | exact hK _ _ rfl (Ext.refl _)
                            | (refine (HTM.out _).mono ?_
                               rintro e w4 ⟨rfl, hx4⟩
                               exact hK _ _ rfl hx4)
                      exact trivial
                    intro W hR
                    simp only [fillL, List.setIfInBounds_toArray, List.set_cons_succ, List.set_cons_zero]
                    by_cases ht : dotW ⟨x, y, z⟩ ⟨x, y, z⟩ < turn
                    · have HS2 := hide (show out = ((k : Int), 2) by rw [HS'.out]; exact skyIn_dir HPRE.out HSA.out h8 (by dsimp only; rw [HX.out, HNE.out, if_pos ht]) (by decide))
                      go_wp2_with fail
                      go_ret2
                      exact ⟨by rw [HS2.out]; rfl, (HX1.out.trans HX3.out).trans hR⟩
                    · have HE0 := hide (show dirErr turn (dirs.getD k default) = 0 by rw [HX.out, HNE.out, if_neg ht])
                      go_wp2_with fail
                      go_roundw
                      case rel => exact ⟨HX3.out.trans hR, k + 1, by omega, by go_num, HSA.out.succ HE0.out⟩
                      case measure => simp [intOf]; omega
            · obtain rfl : k = dirs.length := by omega
              have q5 := hext.cell g3
              have q2 := hext.cell s2
              have HXW := hide (HX1.out.trans hext)
              clear hext q1 h8 hb1
              go_wp2_with fail
              clear q0
              go_loopw [9] (fun i wq => Ext wr wq ∧ ∃ k : Nat, k ≤ sens.length ∧ i = .int .i64 k ∧ SensOk f.channels.length ⟨dirs, turn, sens⟩ k) (fun i _ => sens.length - (intOf i).toNat)
              case atStart => exact ⟨Ext.refl _, 0, by omega, rfl, fun j hj => absurd hj (by omega)⟩
              case round =>
                obtain ⟨hext, k, hk, rfl, hsens⟩ := hrel
                have HSE := hide hsens
                clear hsens
                have q3 := hext.cell q5
                have q4 := hext.cell q2
                have hb1 := World.block_lt_of_cell? _ _ q4
                dsimp only at hb1
                have hb2 := World.block_lt_of_cell? _ _ q3
                dsimp only at hb2
                by_cases h8 : k < sens.length
                · obtain ⟨b, off, c, x, y, z, sc, er, su, rfl, _, hc0, hc1, hc2, hc3, hc4, hc5, hc6, HX⟩ := sens_at (HR2.out.ext (HXW.out.trans hext)) h8
                  go_wp2_with fail
                  refine (refIn_any _ _ _ _).mono ?_
                  rintro e w4 ⟨rfl, rfl⟩
                  cases ho3 : inB c 0 ((f.channels.length : Int) - 1) with
                  | false =>
                    have HS2 := hide (show out = ((k : Int), 4) by rw [HS'.out]; exact skyIn_sen HPRE.out HSA.out HSE.out h8 (by dsimp only; rw [HX.out]; exact senErr_none (in_of_out ho3)) (by decide))
                    clear ho3
                    go_wp2_with fail
                    go_ret2
                    exact ⟨by rw [HS2.out]; rfl, (HXW.out.trans hext).alloc _⟩
                  | true =>
                    have Hho3 := hide (out_of_in ho3)
                    clear ho3
                    go_wp2_with fail
                    refine (field_any _ _).mono ?_
                    rintro e w4 ⟨rfl, rfl⟩
                    cases hox : inB x (-1000000) 1000000 with
                    | false =>
                      have HS2 := hide (show out = ((k : Int), 7) by rw [HS'.out]; exact skyIn_sen HPRE.out HSA.out HSE.out h8 (by dsimp only; rw [HX.out]; exact senErr_bad Hho3.out (.inl (far3_t.2 (.inl (in_of_out hox))))) (by decide))
                      clear hox
                      go_wp2_with fail
                      go_ret2
                      exact ⟨by rw [HS2.out]; rfl, (HXW.out.trans hext).alloc _⟩
                    | true =>
                      have Hhox := hide (out_of_in hox)
                      clear hox
                      go_wp2_with fail
                      refine (field_any _ _).mono ?_
                      rintro e w4 ⟨rfl, rfl⟩
                      cases hoy : inB y (-1000000) 1000000 with
                      | false =>
                        have HS2 := hide (show out = ((k : Int), 7) by rw [HS'.out]; exact skyIn_sen HPRE.out HSA.out HSE.out h8 (by dsimp only; rw [HX.out]; exact senErr_bad Hho3.out (.inl (far3_t.2 (.inr (.inl (in_of_out hoy)))))) (by decide))
                        clear hoy
                        go_wp2_with fail
                        go_ret2
                        exact ⟨by rw [HS2.out]; rfl, (HXW.out.trans hext).alloc _⟩
                      | true =>
                        have Hhoy := hide (out_of_in hoy)
                        clear hoy
                        go_wp2_with fail
                        refine (field_any _ _).mono ?_
                        rintro e w4 ⟨rfl, rfl⟩
                        cases hoz : inB z (-1000000) 1000000 with
                        | false =>
                          have HS2 := hide (show out = ((k : Int), 7) by rw [HS'.out]; exact skyIn_sen HPRE.out HSA.out HSE.out h8 (by dsimp only; rw [HX.out]; exact senErr_bad Hho3.out (.inl (far3_t.2 (.inr (.inr (in_of_out hoz)))))) (by decide))
                          clear hoz
                          go_wp2_with fail
                          go_ret2
                          exact ⟨by rw [HS2.out]; rfl, (HXW.out.trans hext).alloc _⟩
                        | true =>
                          have Hhoz := hide (out_of_in hoz)
                          clear hoz
                          go_wp2_with fail
                          refine (refIn_any _ _ _ _).mono ?_
                          rintro e w4 ⟨rfl, rfl⟩
                          cases ho4 : inB sc 1 1000 with
                          | false =>
                            have HS2 := hide (show out = ((k : Int), 7) by rw [HS'.out]; exact skyIn_sen HPRE.out HSA.out HSE.out h8 (by dsimp only; rw [HX.out]; exact senErr_bad Hho3.out (.inr (.inl (in_of_out ho4)))) (by decide))
                            clear ho4
                            go_wp2_with fail
                            go_ret2
                            exact ⟨by rw [HS2.out]; rfl, (HXW.out.trans hext).alloc _⟩
                          | true =>
                            have Hho4 := hide (out_of_in ho4)
                            clear ho4
                            go_wp2_with fail
                            refine (refIn_any _ _ _ _).mono ?_
                            rintro e w4 ⟨rfl, rfl⟩
                            cases ho5 : inB er 0 1000000 with
                            | false =>
                              have HS2 := hide (show out = ((k : Int), 7) by rw [HS'.out]; exact skyIn_sen HPRE.out HSA.out HSE.out h8 (by dsimp only; rw [HX.out]; exact senErr_bad Hho3.out (.inr (.inr (in_of_out ho5)))) (by decide))
                              clear ho5
                              go_wp2_with fail
                              go_ret2
                              exact ⟨by rw [HS2.out]; rfl, (HXW.out.trans hext).alloc _⟩
                            | true =>
                              have Hho5 := hide (out_of_in ho5)
                              clear ho5
                              have HE0 := hide (show senErr f.channels.length (sens.getD k default) = 0 by rw [HX.out]; exact senErr_ok Hho3.out (far3_of Hhox.out Hhoy.out Hhoz.out) Hho4.out Hho5.out)
                              go_wp2_with fail
                              go_roundw
                              case rel => exact ⟨hext.alloc _, k + 1, by omega, by go_num, HSE.out.succ HE0.out⟩
                              case measure => simp [intOf]; omega
                · obtain rfl : k = sens.length := by omega
                  have HS2 := hide (show out = (0, 0) by rw [HS'.out]; exact skyIn_ok HPRE.out HSA.out HSE.out)
                  go_wp2_with fail
                  go_ret2
                  exact ⟨by rw [HS2.out]; rfl, HXW.out.trans hext⟩
  · have hd : (k3 == 0) = false := by simp [h0]
    have hd' : (k3 != 0) = true := by simp [h0]
    have HS' := hide (show out = (0, k3) by rw [HS.out]; simp [h0])
    clear HS h0
    go_wp2_with fail
    go_ret2
    exact ⟨by rw [HS'.out]; rfl, HX1.out⟩
end Go.Proofs.Ytjnnkcnnandeeaa

