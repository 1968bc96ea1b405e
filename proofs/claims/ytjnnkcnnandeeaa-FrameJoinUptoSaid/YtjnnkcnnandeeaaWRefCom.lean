/- The walk of the reference's Commute. -/
import Derived.Test.YtjnnkcnnandeeaaWCom
namespace Go.Proofs.Ytjnnkcnnandeeaa
open Go.RowKit
set_option maxRecDepth 100000 in
set_option maxHeartbeats 2000000 in
/-- ref.Commute -/
theorem refCommute_any (v u : Value) (f : Fmt) (n : Int) (l : List Int) (w : World) (hv : FmtV w v f) (hu : IntsV w .i64 u l) :
    Calls Try.prog 23 #[v, .int .i64 n, u] w fun e w' => ∃ r, e = .returned (.tuple #[r, .int .i64 (comErr f n l)]) ∧ IntsV w' .i64 r (comOf f n l) ∧ Ext w w' := by
  have HV := hide hv
  have HU := hide hu
  obtain ⟨_, _, A, cap, rfl, hcap, hmax, hrow⟩ := hv
  obtain ⟨A', cap', rfl, hcap', hmax', hrow'⟩ := hu
  have hm : cap ≤ 9223372036854775807 := by simpa [maxLen] using hmax
  have hm' : cap' ≤ 9223372036854775807 := by simpa [maxLen] using hmax'
  have HX0 := hide ((Ext.refl w).alloc (.cells #[.string f.sync, .int .i64 f.words, .int .i64 f.depth, .slice A f.channels.length cap] 28))
  have HVA := hide (valid_any _ f _ (HV.out.ext HX0.out))
  have HR := hide hrow
  have HR' := hide hrow'
  clear hmax hmax' hrow hrow'
  by_cases hc : (chk f).2.2 = 0
  · have hnb : inB n 0 1000000 = !outB n 0 1000000 := (by rw [outB_not])
    have HCK := hide (chk_ok hc)
    have HC := hide hc
    rw [hc] at HVA
    clear hc
    cases hn : outB n 0 1000000 with
    | true =>
      have HER := hide (comErr_ask (l := l) (f := f) (n := n) (by rw [askErr_num HC.out hn]; decide))
      have HAS := hide (askErr_num HC.out hn)
      rw [hn] at hnb
      have HNB := hide hnb
      clear hn hnb
      go_enter Try.func23, Try.ntmps23
      go_wp2_with first
        | (go_at_call 59; refine Calls.mono HVA.out ?_; rintro e w1 ⟨rfl, hx⟩; have hcc := hx.cells; have HX := hide hx; clear hx)
        | (go_at_call 60; refine (number_any _ _).mono ?_; rintro e w2 ⟨rfl, rfl⟩; rw [HNB.out])
      go_loop [8, 9] (fun e i => e = .int .i64 7 ∧ i = .int .i64 0) (fun _ _ => 0)
      case atStart => exact ⟨rfl, rfl⟩
      case round =>
        obtain ⟨rfl, rfl⟩ := hrel
        by_cases h0 : 0 < l.length
        all_goals
          go_wp2
          go_ret2
          exact ⟨_, by rw [HER.out, HAS.out]; rfl, by rw [comOf_bad (by rw [HER.out, HAS.out]; exact (by decide))]; exact IntsV.nil _ _, HX0.out.trans HX.out⟩
    | false =>
      have HAS := hide (askErr_ok HC.out hn)
      have hn0 := (outB_f.1 hn).1
      rw [hn] at hnb
      have HNB := hide hnb
      clear hn hnb
      by_cases hl : l.length = f.channels.length
      · have hlb : ((l.length : Int) != (f.channels.length : Int)) = false := by simp; omega
        have HL := hide hl
        obtain ⟨_, _, _, hw1, hw2, hd1, hd2, hdeep, hch⟩ := HCK.out
        have HCH := hide hch
        obtain ⟨wn, hwn⟩ := Int.eq_ofNat_of_zero_le (show 0 ≤ f.words by omega)
        have hwn2 : wn ≤ 32 := by omega
        have HWN := hide hwn
        clear hl hch hdeep
        have hmk := fun (W : World) => run_make_row' (P := Try.prog) 29 3 (.int .i64 0) 8 Try.underlying29 int_info rfl .i64 .i64 wn (by omega) (by omega) W
        rw [← hwn] at hmk
        clear hwn
        have HMK := hide hmk
        clear hmk
        go_enter Try.func23, Try.ntmps23
        go_wp2_with first
          | (go_at_call 59; refine Calls.mono HVA.out ?_; rintro e w1 ⟨rfl, hx⟩; have hcc := hx.cells; have HX := hide hx; clear hx)
          | (go_at_call 60; refine (number_any _ _).mono ?_; rintro e w2 ⟨rfl, rfl⟩; rw [HNB.out])
        have hxw := HX0.out.trans HX.out
        go_loop [8, 9] (fun e i => ∃ k : Nat, k ≤ l.length ∧ i = .int .i64 k ∧ ((e = .int .i64 0 ∧ ∀ j, j < k → outB (l.getD j 0) 0 65535 = false) ∨ (e = .int .i64 7 ∧ badB l = true))) (fun _ i => l.length - (intOf i).toNat)
        case atStart => exact ⟨0, by omega, rfl, .inl ⟨rfl, fun j hj => absurd hj (by omega)⟩⟩
        case round =>
          obtain ⟨k, hk, rfl, ⟨rfl, hs⟩ | ⟨rfl, hb⟩⟩ := hrel
          · have HS := hide hs
            clear hs
            by_cases h8 : k < l.length
            · obtain ⟨b, off, x, rfl, hbl0, hck, HX2⟩ := ints_at (HR'.out.ext hxw) h8
              have hio : inB x 0 65535 = !outB x 0 65535 := (by rw [outB_not])
              cases hox : outB x 0 65535 with
              | true =>
                rw [hox] at hio
                have HIO := hide hio
                have hbad : badB l = true := anyB_t.2 ⟨k, h8, by show outB (l.getD k 0) 0 65535 = true; rw [HX2.out]; exact hox⟩
                have HBAD := hide hbad
                clear hio hox hbad
                go_wp2_with (go_at_call 61; refine (word_any _ _).mono ?_; rintro e w2 ⟨rfl, rfl⟩; rw [HIO.out])
                go_round
                case rel => exact ⟨k + 1, by omega, by go_num, .inr ⟨rfl, HBAD.out⟩⟩
                case measure => simp [intOf]; omega
              | false =>
                rw [hox] at hio
                have HIO := hide hio
                have HOX := hide hox
                clear hio hox
                go_wp2_with (go_at_call 61; refine (word_any _ _).mono ?_; rintro e w2 ⟨rfl, rfl⟩; rw [HIO.out])
                go_round
                case rel =>
                  refine ⟨k + 1, by omega, by go_num, .inl ⟨rfl, fun j hj => ?_⟩⟩
                  by_cases hjk : j = k
                  · rw [hjk, HX2.out]; exact HOX.out
                  · exact HS.out j (by omega)
                case measure => simp [intOf]; omega
            · obtain rfl : k = l.length := by omega
              have hbad : badB l = false := anyB_f.2 HS.out
              have HER := hide (comErr_ok HAS.out HL.out hbad)
              have hmk := HMK.out
              have hz : w.heap.size < w1.heap.size := by have := HX.out.size; simp at this; omega
              obtain ⟨g0, g1, g2, g3⟩ := box4 w _ _ _ _ _ HX.out
              clear hbad hcc
              go_wp2_with fail
              clear hmk
              have hlen := comAt_length f n l
              rw [HWN.out] at hlen
              have HLEN := hide hlen
              clear hlen
              have hmd : Made (w1.alloc (.cells (madeCells #[.int .i64 0] wn) 3)) w1.heap.size (comAt f n l 0) := by unfold comAt; rw [HWN.out]; exact Made.new w1 wn
              obtain ⟨w3, hw3⟩ : ∃ w3, w1.alloc (.cells (madeCells #[.int .i64 0] wn) 3) = w3 := ⟨_, rfl⟩
              have hx3 : Ext w1 w3 := by rw [← hw3]; exact (Ext.refl _).alloc _
              rw [hw3] at hmd ⊢
              have hz3 : w.heap.size < w1.heap.size := hz
              have hz4 : w.heap.size < w3.heap.size := Nat.lt_of_lt_of_le hz hx3.size
              replace g3 := hx3.cell g3
              have HXW3 := hide (hxw.trans hx3)
              clear hw3 g0 g1 g2 hx3 hz
              generalize w1.heap.size = G at *
              go_loopw [11] (fun x wr => Ext w wr ∧ wr.cell? ⟨w.heap.size, 3, none⟩ = some (.slice A f.channels.length cap) ∧ w.heap.size < wr.heap.size ∧ ∃ k : Nat, k ≤ f.channels.length ∧ x = .int .i64 k ∧ Made wr G (comAt f n l k)) (fun x _ => f.channels.length - (intOf x).toNat)
              case atStart => exact ⟨HXW3.out, g3, hz4, 0, by omega, rfl, hmd⟩
              case round =>
                obtain ⟨hext, g3', hz5, k, hk, rfl, hmade⟩ := hrel
                have HMADE := hide hmade
                clear hmade hmd g3
                by_cases h8 : k < f.channels.length
                · obtain ⟨b, off, nm, wd, ev, ph, rfl, hbl, hck0, hck1, hck2, hck3, HX3⟩ := chans_at (HR.out.ext hext) h8
                  have ho := chanErr_ok (HCH.out k h8)
                  rw [HX3.out] at ho
                  obtain ⟨_, _, o0, o1, _, _, _⟩ := ho
                  dsimp only at o0 o1
                  obtain ⟨b2, off2, x, rfl, hbl2, hcx, HX4⟩ := ints_at (HR'.out.ext hext) (by have := HL.out; omega : k < l.length)
                  have hwd0 := (outB_f.1 o0).1
                  have hwd1 := (outB_f.1 o0).2
                  have hkl : k < l.length := by have := HL.out; omega
                  have HCS := hide (show comAt f n l (k + 1) = if n % ev = ph then (comAt f n l k).set wd.toNat x else comAt f n l k by conv => lhs; unfold comAt; rw [HX3.out, HX4.out])
                  obtain ⟨wdn, rfl⟩ := Int.eq_ofNat_of_zero_le hwd0
                  have hwd2 : wdn < wn := by have := HWN.out; omega
                  clear o0 hwd0 hwd1
                  by_cases hin : n % ev = ph
                  · have hib : decide (n % ev = ph) = true := by simpa using hin
                    have HIN := hide hin
                    clear hin
                    go_wp2_with (go_at_call 62; refine (has_any _ _ _ _ _ _ hn0 o1).mono ?_; rintro e w4 ⟨rfl, hx4⟩)
                    have hx5 : Ext wr w4 := hx4
                    have hm4 := HMADE.out.ext hx5
                    have c1 := hx5.cell hck1
                    have cx := hx5.cell hcx
                    have cm : ∃ z, w4.cell? ⟨G, wdn, none⟩ = some (.int .i64 z) := ⟨_, hm4.cell (by rw [HLEN.out]; exact hwd2)⟩
                    obtain ⟨z, cm⟩ := cm
                    have cf := hm4.frozen wdn
                    have c3 := hx5.cell g3'
                    have i1 : (0 : Int) ≤ (wdn : Int) := by omega
                    have i2 : (wdn : Int) < (wn : Int) := by omega
                    have i3 : (0 : Int) ≤ (k : Int) := by omega
                    have i4 : (k : Int) < (l.length : Int) := by omega
                    have i5 : (k : Int) < (f.channels.length : Int) := by omega
                    have hz6 : w.heap.size < w4.heap.size := Nat.lt_of_lt_of_le hz5 hx5.size
                    have hGn : G ≠ w.heap.size := by omega
                    have HM4 := hide hm4
                    have HX5 := hide hx5
                    clear hx4 hx5 hm4 hcx hck0 hck1 hck2 hck3 hib hbl hbl2 g3' hz5
                    go_region
                    go_wp2
                    go_roundw
                    case rel =>
                      refine ⟨((hext.trans HX5.out).setCell (p := ⟨G, wdn, none⟩) (by show w.heap.size ≤ G; omega) _).drew, ?_, ?_, k + 1, by omega, by go_num, by rw [HCS.out, if_pos HIN.out]; exact (HM4.out.set wdn x)⟩
                      · exact (World.cell?_setCell_other _ _ _ _ (by intro he; injection he with he; omega)).trans c3
                      · simpa using hz6
                    case measure => simp [intOf]; omega
                  · have hib : decide (n % ev = ph) = false := by simpa using hin
                    have HIN := hide hin
                    clear hin
                    go_wp2_with (go_at_call 62; refine (has_any _ _ _ _ _ _ hn0 o1).mono ?_; rintro e w4 ⟨rfl, hx4⟩)
                    go_roundw
                    case rel => exact ⟨hext.trans hx4, hx4.cell g3', Nat.lt_of_lt_of_le hz5 hx4.size, k + 1, by omega, by go_num, by rw [HCS.out, if_neg HIN.out]; exact HMADE.out.ext hx4⟩
                    case measure => simp [intOf]; omega
                · obtain rfl : k = f.channels.length := by omega
                  go_wp2
                  go_ret2
                  exact ⟨_, by rw [HER.out]; rfl, by unfold comOf; rw [if_pos HER.out]; exact HMADE.out.ints (by rw [HLEN.out]; simp [maxLen]; omega) (HLEN.out _), hext⟩
          · have HER := hide (comErr_word HAS.out HL.out hb)
            clear hb
            by_cases h8 : k < l.length
            all_goals
              go_wp2
              go_ret2
              exact ⟨_, by rw [HER.out]; rfl, by rw [comOf_bad (by rw [HER.out]; decide)]; exact IntsV.nil _ _, hxw⟩
      · have hlb : ((l.length : Int) != (f.channels.length : Int)) = true := by simp; omega
        have HER := hide (comErr_len HAS.out hl)
        clear hl
        go_enter Try.func23, Try.ntmps23
        go_wp2_with first
          | (go_at_call 59; refine Calls.mono HVA.out ?_; rintro e w1 ⟨rfl, hx⟩; have hcc := hx.cells; have HX := hide hx; clear hx)
          | (go_at_call 60; refine (number_any _ _).mono ?_; rintro e w2 ⟨rfl, rfl⟩; rw [HNB.out])
        go_loop [8, 9] (fun e i => e = .int .i64 2 ∧ i = .int .i64 0) (fun _ _ => 0)
        case atStart => exact ⟨rfl, rfl⟩
        case round =>
          obtain ⟨rfl, rfl⟩ := hrel
          by_cases h0 : 0 < l.length
          all_goals
            go_wp2
            go_ret2
            exact ⟨_, by rw [HER.out]; rfl, by rw [comOf_bad (by rw [HER.out]; exact (by decide))]; exact IntsV.nil _ _, HX0.out.trans HX.out⟩
  · have hcb : ((chk f).2.2 == 0) = false := by simpa using hc
    have hcn : ((chk f).2.2 != 0) = true := by simpa using hc
    have HER := hide (comErr_ask (l := l) (f := f) (n := n) (by rw [askErr_bad hc]; exact hc))
    have HAS := hide (askErr_bad (n := n) hc)
    have HC := hide hc
    clear hc
    go_enter Try.func23, Try.ntmps23
    go_wp2_with (go_at_call 59; refine Calls.mono HVA.out ?_; rintro e w1 ⟨rfl, hx⟩; have hcc := hx.cells; have HX := hide hx; clear hx)
    go_loop [8, 9] (fun e i => e = .int .i64 (chk f).2.2 ∧ i = .int .i64 0) (fun _ _ => 0)
    case atStart => exact ⟨rfl, rfl⟩
    case round =>
      obtain ⟨rfl, rfl⟩ := hrel
      by_cases h0 : 0 < l.length
      all_goals
        go_wp2
        go_ret2
        exact ⟨_, by rw [HER.out, HAS.out]; rfl, by rw [comOf_bad (by rw [HER.out, HAS.out]; exact HC.out)]; exact IntsV.nil _ _, HX0.out.trans HX.out⟩
end Go.Proofs.Ytjnnkcnnandeeaa
