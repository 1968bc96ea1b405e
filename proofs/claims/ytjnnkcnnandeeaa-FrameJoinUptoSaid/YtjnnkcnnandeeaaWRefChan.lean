/- The walk of the reference's channel. -/
import Derived.Test.YtjnnkcnnandeeaaWNumbers
namespace Go.Proofs.Ytjnnkcnnandeeaa
open Go.RowKit
theorem deep_every {d ev : Int} (hd : deepB d = true) (h1 : 1 ≤ ev) (hm : d % ev = 0) : ev = 1 ∨ ev = 2 ∨ ev = 4 ∨ ev = 8 ∨ ev = 16 := by
  have hd' : d = 1 ∨ d = 2 ∨ d = 4 ∨ d = 8 ∨ d = 16 := by simpa [deepB] using hd
  have hle := every_le (by omega : 1 ≤ d) hm
  have h16 : ev ≤ 16 := by omega
  rcases (by omega : ev = 1 ∨ ev = 2 ∨ ev = 3 ∨ ev = 4 ∨ ev = 5 ∨ ev = 6 ∨ ev = 7 ∨ ev = 8 ∨ ev = 9 ∨ ev = 10 ∨ ev = 11 ∨ ev = 12 ∨ ev = 13 ∨ ev = 14 ∨ ev = 15 ∨ ev = 16) with
    h | h | h | h | h | h | h | h | h | h | h | h | h | h | h | h <;> subst h <;> rcases hd' with h | h | h | h | h <;> subst h <;> first | omega | (revert hm; decide)
/-- Whether one of the first 16 numbers is in both. -/
def bothB (e1 p1 e2 p2 : Int) : Bool := (List.range 16).any fun n => decide ((n : Int) % e1 = p1) && decide ((n : Int) % e2 = p2)
theorem both_meet_fin : ∀ e1 ∈ [1, 2, 4, 8, 16], ∀ e2 ∈ [1, 2, 4, 8, 16], ∀ p1 ∈ List.range e1, ∀ p2 ∈ List.range e2, bothB e1 p1 e2 p2 = decide ((p2 : Int) % minI e2 e1 = (p1 : Int) % minI e2 e1) := by decide +kernel
theorem both_meet {c d : Chan} (hc : c.every = 1 ∨ c.every = 2 ∨ c.every = 4 ∨ c.every = 8 ∨ c.every = 16) (hd : d.every = 1 ∨ d.every = 2 ∨ d.every = 4 ∨ d.every = 8 ∨ d.every = 16)
    (hc0 : 0 ≤ c.phase) (hc1 : c.phase < c.every) (hd0 : 0 ≤ d.phase) (hd1 : d.phase < d.every) : meetB c d = (decide (d.word = c.word) && bothB d.every d.phase c.every c.phase) := by
  obtain ⟨p, hp⟩ := Int.eq_ofNat_of_zero_le hc0
  obtain ⟨q, hq⟩ := Int.eq_ofNat_of_zero_le hd0
  obtain ⟨x, hx⟩ : ∃ x : Nat, d.every = x ∧ x ∈ [1, 2, 4, 8, 16] := by rcases hd with h | h | h | h | h <;> exact ⟨_, by rw [h]; rfl, by decide⟩
  obtain ⟨y, hy⟩ : ∃ y : Nat, c.every = y ∧ y ∈ [1, 2, 4, 8, 16] := by rcases hc with h | h | h | h | h <;> exact ⟨_, by rw [h]; rfl, by decide⟩
  have := both_meet_fin x hx.2 y hy.2 q (List.mem_range.2 (by have := hx.1; omega)) p (List.mem_range.2 (by have := hy.1; omega))
  unfold meetB
  rw [hx.1, hy.1, hp, hq, this]
  congr 1
  simp [eq_comm]
set_option maxRecDepth 100000 in
set_option maxHeartbeats 2000000 in
/-- ref.channel -/
theorem refChannel_any (v : Value) (f : Fmt) (i : Nat) (w : World) (hv : FmtV w v f) (hi : i < f.channels.length) (hd : deepB f.depth = true) (hw1 : 1 ≤ f.words) (hw2 : f.words ≤ 32) (hprev : ∀ j, j < i → chanErr f j = 0) :
    Calls Try.prog 79 #[v, .int .i64 (i : Nat)] w fun e w' => e = .returned (.int .i64 (chanErr f i)) ∧ Ext w w' := by
  obtain ⟨hs, hn, A, cap, rfl, hcap, hmax, hrow⟩ := hv
  have hm : cap ≤ 9223372036854775807 := by simpa [maxLen] using hmax
  clear hmax
  obtain ⟨b, off, nm, wd, ev, ph, rfl, hbl, hck0, hck1, hck2, hck3, HX⟩ := chans_at hrow hi
  have hdp : 1 ≤ f.depth ∧ f.depth ≤ 16 := by
    have hd' : f.depth = 1 ∨ f.depth = 2 ∨ f.depth = 4 ∨ f.depth = 8 ∨ f.depth = 16 := by simpa [deepB] using hd
    omega
  obtain ⟨hdp1, hdp2⟩ := hdp
  have HR := hide hrow
  have HN := hide hn
  have HD := hide hd
  have HP := hide hprev
  clear hrow hn hd hprev
  go_enter Try.func79, Try.ntmps79
  go_wp2_with fail
  refine (refName_any _ _).mono ?_
  rintro e w1 ⟨rfl, rfl⟩
  obtain ⟨W, hW⟩ : ∃ W, ((w.alloc (.cells #[.string f.sync, .int .i64 f.words, .int .i64 f.depth, .slice (some ⟨b, off, none⟩) f.channels.length cap] 28)).alloc (.cells #[.string nm, .int .i64 wd, .int .i64 ev, .int .i64 ph] 83)) = W := ⟨_, rfl⟩
  have hxW : Ext w W := by rw [← hW]; exact ((Ext.refl w).alloc _).alloc _
  have g1 : W.cell? ⟨w.heap.size, 1, none⟩ = some (.int .i64 f.words) := by rw [← hW]; simp
  have g2 : W.cell? ⟨w.heap.size, 2, none⟩ = some (.int .i64 f.depth) := by rw [← hW]; simp
  have g3 : W.cell? ⟨w.heap.size, 3, none⟩ = some (.slice (some ⟨b, off, none⟩) f.channels.length cap) := by rw [← hW]; simp
  have e0 : W.cell? ⟨w.heap.size + 1, 0, none⟩ = some (.string nm) := by rw [← hW]; have := cell_new (w.alloc (.cells #[.string f.sync, .int .i64 f.words, .int .i64 f.depth, .slice (some ⟨b, off, none⟩) f.channels.length cap] 28)) #[.string nm, .int .i64 wd, .int .i64 ev, .int .i64 ph] 83 0 _ rfl; rwa [World.size_alloc] at this
  have e1 : W.cell? ⟨w.heap.size + 1, 1, none⟩ = some (.int .i64 wd) := by rw [← hW]; have := cell_new (w.alloc (.cells #[.string f.sync, .int .i64 f.words, .int .i64 f.depth, .slice (some ⟨b, off, none⟩) f.channels.length cap] 28)) #[.string nm, .int .i64 wd, .int .i64 ev, .int .i64 ph] 83 1 _ rfl; rwa [World.size_alloc] at this
  have e2 : W.cell? ⟨w.heap.size + 1, 2, none⟩ = some (.int .i64 ev) := by rw [← hW]; have := cell_new (w.alloc (.cells #[.string f.sync, .int .i64 f.words, .int .i64 f.depth, .slice (some ⟨b, off, none⟩) f.channels.length cap] 28)) #[.string nm, .int .i64 wd, .int .i64 ev, .int .i64 ph] 83 2 _ rfl; rwa [World.size_alloc] at this
  have e3 : W.cell? ⟨w.heap.size + 1, 3, none⟩ = some (.int .i64 ph) := by rw [← hW]; have := cell_new (w.alloc (.cells #[.string f.sync, .int .i64 f.words, .int .i64 f.depth, .slice (some ⟨b, off, none⟩) f.channels.length cap] 28)) #[.string nm, .int .i64 wd, .int .i64 ev, .int .i64 ph] 83 3 _ rfl; rwa [World.size_alloc] at this
  rw [hW]
  have HXW := hide hxW
  have HRW := hide (HR.out.ext hxW)
  clear hW hck0 hck1 hck2 hck3 hxW
  cases hn1 : nameB nm with
  | false =>
    have he := chanErr_6 HX.out hn1
    have HE := hide he
    clear he
    go_wp2_with fail
    go_ret
    exact ⟨ret_int HE.out.symm, HXW.out⟩
  | true =>
    have HN1 := hide hn1
    go_wp2_with fail
    clear hn1
    go_loopw [6] (fun x wr => Ext W wr ∧ ∃ k : Nat, k ≤ i ∧ x = .int .i64 k ∧ ∀ j, j < k → sameB f i j = false) (fun x _ => i - (intOf x).toNat)
    case atStart => exact ⟨Ext.refl _, 0, by omega, rfl, fun j hj => absurd hj (by omega)⟩
    case round =>
      obtain ⟨hext, k, hk, rfl, hsame⟩ := hrel
      have HS := hide hsame
      clear hsame
      have g1' := hext.cell g1
      have g2' := hext.cell g2
      have g3' := hext.cell g3
      have e0' := hext.cell e0
      have e1' := hext.cell e1
      have e2' := hext.cell e2
      have e3' := hext.cell e3
      by_cases h8 : k < i
      · clear g1 g2 g3 e0 e1 e2 e3 g1' g2' e1' e2' e3'
        obtain ⟨b2, off2, nm2, wd2, ev2, ph2, hA2, hbl2, hdk0, _, _, _, HX2⟩ := chans_at (HRW.out.ext hext) (by omega : k < f.channels.length)
        injection hA2 with hA2
        injection hA2 with hA2 hA3
        subst hA2 hA3
        cases hs : (nm2.toList == nm.toList) with
        | true =>
          have he : chanErr f i = 5 := chanErr_5 HX.out HN1.out (anyB_t.2 ⟨k, h8, by unfold sameB; rw [HX.out, HX2.out]; exact hs⟩)
          have HE := hide he
          clear he
          go_wp2_with fail
          go_quiet (fail)
          go_wp2_with fail
          go_ret
          exact ⟨ret_int HE.out.symm, HXW.out.trans (hext.drewN _)⟩
        | false =>
          have he : sameB f i k = false := by unfold sameB; rw [HX.out, HX2.out]; exact hs
          have HE := hide he
          clear he
          go_wp2_with fail
          go_quiet (fail)
          go_wp2_with fail
          go_roundw
          case rel =>
            refine ⟨hext.drewN _, k + 1, by omega, by go_num, fun j hj => ?_⟩
            by_cases hjk : j = k
            · rw [hjk]; exact HE.out
            · exact HS.out j (by omega)
          case measure => simp [intOf]; omega
      · obtain rfl : k = i := by omega
        have hns : anyB (sameB f k) k = false := anyB_f.2 HS.out
        have HNS := hide hns
        clear hns HS g1 g2 g3 e0 e1 e2 e3
        go_wp2_with fail
        refine (refIn_any _ _ _ _).mono ?_
        rintro e w1 ⟨rfl, rfl⟩
        have hio : inB wd 0 (f.words - 1) = !outB wd 0 (f.words - 1) := (by rw [outB_not])
        rw [hio]
        clear hio
        cases hn3 : outB wd 0 (f.words - 1) with
        | true =>
          have he := chanErr_7 HX.out HN1.out HNS.out (.inl hn3)
          have HE := hide he
          clear he
          go_wp2_with fail
          go_ret
          exact ⟨ret_int HE.out.symm, HXW.out.trans hext⟩
        | false =>
          have HN3 := hide hn3
          by_cases hev : ev < 1
          · have hd1 : decide (ev < 1) = true := by simpa using hev
            have he := chanErr_7 HX.out HN1.out HNS.out (.inr (.inl hev))
            have HE := hide he
            clear he
            go_wp2_with fail
            go_ret
            exact ⟨ret_int HE.out.symm, HXW.out.trans hext⟩
          · have hd1 : decide (ev < 1) = false := by simpa using hev
            have hev1 : 1 ≤ ev := by omega
            by_cases hm0 : f.depth % ev = 0
            · have hevd := every_le hdp1 hm0
              have hd2 : (f.depth % ev != 0) = false := by simp [hm0]
              have HM0 := hide hm0
              clear hm0
              go_wp2_with fail
              refine (refIn_any _ _ _ _).mono ?_
              rintro e w5 ⟨rfl, rfl⟩
              have hio : inB ph 0 (ev - 1) = !outB ph 0 (ev - 1) := (by rw [outB_not])
              rw [hio]
              clear hio
              cases hn4 : outB ph 0 (ev - 1) with
              | true =>
                have he := chanErr_7 HX.out HN1.out HNS.out (.inr (.inr (.inr hn4)))
                have HE := hide he
                clear he
                go_wp2_with fail
                go_ret
                exact ⟨ret_int HE.out.symm, HXW.out.trans hext⟩
              | false =>
                have HN4 := hide hn4
                go_wp2_with fail
                obtain ⟨wo, rfl⟩ : ∃ wo : World, wo = wr := ⟨_, rfl⟩
                have G3 := hide g3'
                have E1 := hide e1'
                have E2 := hide e2'
                have E3 := hide e3'
                clear hn3 hn4 hd1 hd2 g1' g2' g3' e0' e1' e2' e3' h8
                go_loopw [7] (fun x wr => Ext wo wr ∧ ∃ m : Nat, m ≤ k ∧ x = .int .i64 m ∧ ∀ j, j < m → meetB ⟨nm, wd, ev, ph⟩ (f.channels.getD j default) = false) (fun x _ => k - (intOf x).toNat)
                case atStart => exact ⟨Ext.refl _, 0, by omega, rfl, fun j hj => absurd hj (by omega)⟩
                case round =>
                  obtain ⟨hext2, m, hmk, rfl, hnone⟩ := hrel
                  obtain ⟨wq, rfl⟩ : ∃ wq : World, wq = wr := ⟨_, rfl⟩
                  have HNO := hide hnone
                  clear hnone
                  by_cases h9 : m < k
                  · obtain ⟨b3, off3, nm3, wd3, ev3, ph3, hA3, hbl3, hdk0, hdk1, hdk2, hdk3, HX3⟩ := chans_at (HRW.out.ext (hext.trans hext2)) (by omega : m < f.channels.length)
                    injection hA3 with hA3
                    injection hA3 with hA3 hA4
                    subst hA3 hA4
                    have ho := chanErr_ok (HP.out m h9)
                    rw [HX3.out] at ho
                    obtain ⟨_, _, _, o1, o2, o3, _⟩ := ho
                    dsimp only at o1 o2 o3
                    have hm1 := both_meet (c := ⟨nm, wd, ev, ph⟩) (d := ⟨nm3, wd3, ev3, ph3⟩) (deep_every HD.out hev1 HM0.out) (deep_every HD.out o1 o2) (outB_f.1 HN4.out).1 (by have := (outB_f.1 HN4.out).2; dsimp only; omega) (outB_f.1 o3).1 (by have := (outB_f.1 o3).2; dsimp only; omega)
                    dsimp only at hm1
                    have HM1 := hide hm1
                    have O3 := hide o3
                    clear hm1 o2 o3
                    have g3' := hext2.cell G3.out
                    go_wp2_with fail
                    obtain ⟨w4, hw4⟩ : ∃ w4, wq.alloc (.cells #[.string nm3, .int .i64 wd3, .int .i64 ev3, .int .i64 ph3] 83) = w4 := ⟨_, rfl⟩
                    have hx4 : Ext wq w4 := by rw [← hw4]; exact (Ext.refl _).alloc _
                    have d1 : w4.cell? ⟨wq.heap.size, 1, none⟩ = some (.int .i64 wd3) := by rw [← hw4]; simp
                    have d2 : w4.cell? ⟨wq.heap.size, 2, none⟩ = some (.int .i64 ev3) := by rw [← hw4]; simp
                    have d3 : w4.cell? ⟨wq.heap.size, 3, none⟩ = some (.int .i64 ph3) := by rw [← hw4]; simp
                    have c1 := hx4.cell (hext2.cell E1.out)
                    have c2 := hx4.cell (hext2.cell E2.out)
                    have c3 := hx4.cell (hext2.cell E3.out)
                    have hX4 := hide ((hext.trans hext2).trans hx4)
                    have hY4 := hide (hext2.trans hx4)
                    rw [hw4]
                    clear hw4 hx4 g3' hdk0 hdk1 hdk2 hdk3 hbl3
                    generalize wq.heap.size = G at *
                    go_loopw [9] (fun x wr => Ext w4 wr ∧ ∃ n : Nat, n ≤ 16 ∧ x = .int .i64 n ∧ ∀ q : Nat, q < n → ¬ (wd3 = wd ∧ (q : Int) % ev3 = ph3 ∧ (q : Int) % ev = ph)) (fun x _ => 16 - (intOf x).toNat)
                    case atStart => exact ⟨Ext.refl _, 0, by omega, rfl, fun q hq => absurd hq (by omega)⟩
                    case round =>
                      obtain ⟨hext5, n, hn16, rfl, hq⟩ := hrel
                      have HQ := hide hq
                      clear hq
                      replace d1 := hext5.cell d1
                      replace d2 := hext5.cell d2
                      replace d3 := hext5.cell d3
                      replace c1 := hext5.cell c1
                      replace c2 := hext5.cell c2
                      replace c3 := hext5.cell c3
                      by_cases h16 : n < 16
                      · by_cases hA : wd3 = wd
                        · have qA : (wd3 == wd) = true := by simpa using hA
                          by_cases hB : (n : Int) % ev3 = ph3
                          · have qB : ((n : Int) % ev3 == ph3) = true := by simpa using hB
                            by_cases hC : (n : Int) % ev = ph
                            · have qC : ((n : Int) % ev == ph) = true := by simpa using hC
                              have he : chanErr f k = 2 := chanErr_2 HX.out HN1.out HNS.out HN3.out hev1 HM0.out HN4.out (anyB_t.2 ⟨m, h9, by
                                rw [HX3.out, HM1.out]
                                simp only [hA, decide_true, Bool.true_and]
                                unfold bothB
                                rw [List.any_eq_true]
                                exact ⟨n, List.mem_range.2 h16, by simp [hB, hC]⟩⟩)
                              have HE := hide he
                              clear he hA hB hC
                              go_wp2_with fail
                              go_quiet (fail)
                              go_wp2_with fail
                              go_ret
                              exact ⟨ret_int HE.out.symm, (HXW.out.trans hX4.out).trans (hext5.drewN _)⟩
                            · have qC : ((n : Int) % ev == ph) = false := by simpa using hC
                              have HC := hide hC
                              clear hA hB hC
                              go_wp2_with fail
                              go_quiet (fail)
                              go_wp2_with fail
                              go_roundw
                              case rel =>
                                refine ⟨hext5.drewN _, n + 1, by omega, by go_num, fun q hq => ?_⟩
                                by_cases hqn : q = n
                                · rw [hqn]; rintro ⟨_, _, h⟩; exact HC.out h
                                · exact HQ.out q (by omega)
                              case measure => simp [intOf]; omega
                          · have qB : ((n : Int) % ev3 == ph3) = false := by simpa using hB
                            have HB := hide hB
                            clear hA hB
                            go_wp2_with fail
                            go_quiet (fail)
                            go_wp2_with fail
                            go_roundw
                            case rel =>
                              refine ⟨hext5.drewN _, n + 1, by omega, by go_num, fun q hq => ?_⟩
                              by_cases hqn : q = n
                              · rw [hqn]; rintro ⟨_, h, _⟩; exact HB.out h
                              · exact HQ.out q (by omega)
                            case measure => simp [intOf]; omega
                        · have qA : (wd3 == wd) = false := by simpa using hA
                          have HA := hide hA
                          clear hA
                          go_wp2_with fail
                          go_quiet (fail)
                          go_wp2_with fail
                          go_roundw
                          case rel =>
                            refine ⟨hext5.drewN _, n + 1, by omega, by go_num, fun q hq => ?_⟩
                            by_cases hqn : q = n
                            · rintro ⟨h, _, _⟩; exact HA.out h
                            · exact HQ.out q (by omega)
                          case measure => simp [intOf]; omega
                      · obtain rfl : n = 16 := by omega
                        have hno : meetB ⟨nm, wd, ev, ph⟩ (f.channels.getD m default) = false := by
                          rw [HX3.out, HM1.out]
                          cases hx : (decide (wd3 = wd) && bothB ev3 ph3 ev ph) with
                          | false => rfl
                          | true =>
                            rw [Bool.and_eq_true] at hx
                            unfold bothB at hx
                            rw [List.any_eq_true] at hx
                            obtain ⟨h1, q, hq1, hq2⟩ := hx
                            rw [Bool.and_eq_true] at hq2
                            exact absurd ⟨of_decide_eq_true h1, of_decide_eq_true hq2.1, of_decide_eq_true hq2.2⟩ (HQ.out q (List.mem_range.1 hq1))
                        have HNO2 := hide hno
                        clear hno
                        go_wp2_with fail
                        go_roundw
                        case rel =>
                          refine ⟨hY4.out.trans hext5, m + 1, by omega, by go_num, fun j hj => ?_⟩
                          by_cases hjm : j = m
                          · rw [hjm]; exact HNO2.out
                          · exact HNO.out j (by omega)
                        case measure => simp [intOf]; omega
                  · obtain rfl : m = k := by omega
                    have he : chanErr f m = 0 := chanErr_0 HX.out HN1.out HNS.out HN3.out hev1 HM0.out HN4.out (anyB_f.2 HNO.out)
                    have HE := hide he
                    clear he
                    go_wp2_with fail
                    go_ret
                    exact ⟨ret_int HE.out.symm, HXW.out.trans (hext.trans hext2)⟩
            · have hd2 : (f.depth % ev != 0) = true := by simp [hm0]
              have he := chanErr_7 HX.out HN1.out HNS.out (.inr (.inr (.inl hm0)))
              have HE := hide he
              clear he hm0
              go_wp2_with fail
              go_ret
              exact ⟨ret_int HE.out.symm, HXW.out.trans hext⟩
end Go.Proofs.Ytjnnkcnnandeeaa
