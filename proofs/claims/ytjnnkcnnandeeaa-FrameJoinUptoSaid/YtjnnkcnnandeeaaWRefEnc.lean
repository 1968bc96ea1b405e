/- The walk of the reference's Encode. -/
import Derived.Test.YtjnnkcnnandeeaaWRefFrm
namespace Go.Proofs.Ytjnnkcnnandeeaa
open Go.RowKit
theorem askErr_bad {f : Fmt} {n : Int} (h : (chk f).2.2 ≠ 0) : askErr f n = (chk f).2.2 := by
  unfold askErr; rw [if_neg (fun h' => h h'.1)]
theorem askErr_num {f : Fmt} {n : Int} (h : (chk f).2.2 = 0) (hn : outB n 0 1000000 = true) : askErr f n = 7 := by
  unfold askErr; rw [if_pos ⟨h, hn⟩]
theorem askErr_ok {f : Fmt} {n : Int} (h : (chk f).2.2 = 0) (hn : outB n 0 1000000 = false) : askErr f n = 0 := by
  unfold askErr; rw [if_neg (by rw [hn]; simp), h]
theorem encErr_ask {f : Fmt} {n : Int} {l : List Int} (h : askErr f n ≠ 0) : encErr f n l = askErr f n := by unfold encErr; rw [if_pos h]
theorem encErr_len {f : Fmt} {n : Int} {l : List Int} (h : askErr f n = 0) (hl : (l.length : Int) ≠ f.words) : encErr f n l = 2 := by unfold encErr; rw [if_neg (by simpa using h), if_pos hl]
theorem encErr_word {f : Fmt} {n : Int} {l : List Int} (h : askErr f n = 0) (hl : (l.length : Int) = f.words) (hb : badB l = true) : encErr f n l = 7 := by unfold encErr; rw [if_neg (by simpa using h), if_neg (by simpa using hl), if_pos hb]
theorem encErr_ok {f : Fmt} {n : Int} {l : List Int} (h : askErr f n = 0) (hl : (l.length : Int) = f.words) (hb : badB l = false) : encErr f n l = 0 := by unfold encErr; rw [if_neg (by simpa using h), if_neg (by simpa using hl), if_neg (by rw [hb]; decide)]
theorem encOf_bad {f : Fmt} {n : Int} {l : List Int} (h : encErr f n l ≠ 0) : encOf f n l = [] := by unfold encOf; rw [if_neg h]
set_option maxRecDepth 100000 in
set_option maxHeartbeats 2000000 in
/-- ref.Encode -/
theorem refEncode_any (v u : Value) (f : Fmt) (n : Int) (l : List Int) (w : World) (hv : FmtV w v f) (hu : IntsV w .i64 u l) :
    Calls Try.prog 26 #[v, .int .i64 n, u] w fun e w' => ∃ r, e = .returned (.tuple #[r, .int .i64 (encErr f n l)]) ∧ BytesV w' r (encOf f n l) ∧ Ext w w' := by
  have HV := hide hv
  have HU := hide hu
  obtain ⟨_, _, A, cap, rfl, _, _, _⟩ := hv
  obtain ⟨A', cap', rfl, hcap', hmax', hrow'⟩ := hu
  have hm' : cap' ≤ 9223372036854775807 := by simpa [maxLen] using hmax'
  have HVA := hide (valid_any _ f _ (HV.out.ext ((Ext.refl w).alloc (.cells #[.string f.sync, .int .i64 f.words, .int .i64 f.depth, .slice A f.channels.length cap] 28))))
  have HR := hide hrow'
  clear hmax' hrow'
  have hx0 : Ext w (w.alloc (.cells #[.string f.sync, .int .i64 f.words, .int .i64 f.depth, .slice A f.channels.length cap] 28)) := (Ext.refl w).alloc _
  have HX0 := hide hx0
  clear hx0
  by_cases hc : (chk f).2.2 = 0
  · have hnb : inB n 0 1000000 = !outB n 0 1000000 := (by rw [outB_not])
    have HCK := hide (chk_ok hc)
    have HC := hide hc
    rw [hc] at HVA
    clear hc
    cases hn : outB n 0 1000000 with
    | true =>
      have HER := hide (encErr_ask (l := l) (f := f) (n := n) (by rw [askErr_num HC.out hn]; decide))
      have HAS := hide (askErr_num HC.out hn)
      rw [hn] at hnb
      have HNB := hide hnb
      clear hn hnb
      go_enter Try.func26, Try.ntmps26
      go_wp2_with first
        | (go_at_call 59; refine Calls.mono HVA.out ?_; rintro e w1 ⟨rfl, hx⟩; have hcc := hx.cells; have HX := hide hx; clear hx)
        | (go_at_call 60; refine (number_any _ _).mono ?_; rintro e w2 ⟨rfl, rfl⟩; rw [HNB.out])
      go_loop [8, 9] (fun e i => e = .int .i64 7 ∧ i = .int .i64 0) (fun _ _ => 0)
      case atStart => exact ⟨rfl, rfl⟩
      case round =>
        obtain ⟨rfl, rfl⟩ := hrel
        by_cases h0 : 0 < l.length
        all_goals
          go_wp2
          go_ret2
          exact ⟨_, by rw [HER.out, HAS.out]; rfl, by rw [encOf_bad (by rw [HER.out, HAS.out]; exact (by decide))]; exact BytesV.nil _, HX0.out.trans HX.out⟩
    | false =>
      have HAS := hide (askErr_ok HC.out hn)
      have hn0 := (outB_f.1 hn).1
      rw [hn] at hnb
      have HNB := hide hnb
      clear hn hnb
      by_cases hl : (l.length : Int) = f.words
      · have hlb : ((l.length : Int) != f.words) = false := by simpa using hl
        have HL := hide hl
        clear hl
        go_enter Try.func26, Try.ntmps26
        go_wp2_with first
          | (go_at_call 59; refine Calls.mono HVA.out ?_; rintro e w1 ⟨rfl, hx⟩; have hcc := hx.cells; have HX := hide hx; clear hx)
          | (go_at_call 60; refine (number_any _ _).mono ?_; rintro e w2 ⟨rfl, rfl⟩; rw [HNB.out])
        have hxw := HX0.out.trans HX.out
        go_loop [8, 9] (fun e i => ∃ k : Nat, k ≤ l.length ∧ i = .int .i64 k ∧ ((e = .int .i64 0 ∧ ∀ j, j < k → outB (l.getD j 0) 0 65535 = false) ∨ (e = .int .i64 7 ∧ badB l = true))) (fun _ i => l.length - (intOf i).toNat)
        case atStart => exact ⟨0, by omega, rfl, .inl ⟨rfl, fun j hj => absurd hj (by omega)⟩⟩
        case round =>
          obtain ⟨k, hk, rfl, ⟨rfl, hs⟩ | ⟨rfl, hb⟩⟩ := hrel
          · have HS := hide hs
            clear hs
            by_cases h8 : k < l.length
            · obtain ⟨b, off, x, rfl, hbl0, hck, HX2⟩ := ints_at (HR.out.ext hxw) h8
              have hio : inB x 0 65535 = !outB x 0 65535 := (by rw [outB_not])
              cases hox : outB x 0 65535 with
              | true =>
                rw [hox] at hio
                have HIO := hide hio
                have hbad : badB l = true := anyB_t.2 ⟨k, h8, by show outB (l.getD k 0) 0 65535 = true; rw [HX2.out]; exact hox⟩
                have HBAD := hide hbad
                clear hio hox hbad
                go_wp2_with (go_at_call 61; refine (word_any _ _).mono ?_; rintro e w2 ⟨rfl, rfl⟩; rw [HIO.out])
                go_round
                case rel => exact ⟨k + 1, by omega, by go_num, .inr ⟨rfl, HBAD.out⟩⟩
                case measure => simp [intOf]; omega
              | false =>
                rw [hox] at hio
                have HIO := hide hio
                have HOX := hide hox
                clear hio hox
                go_wp2_with (go_at_call 61; refine (word_any _ _).mono ?_; rintro e w2 ⟨rfl, rfl⟩; rw [HIO.out])
                go_round
                case rel =>
                  refine ⟨k + 1, by omega, by go_num, .inl ⟨rfl, fun j hj => ?_⟩⟩
                  by_cases hjk : j = k
                  · rw [hjk, HX2.out]; exact HOX.out
                  · exact HS.out j (by omega)
                case measure => simp [intOf]; omega
            · obtain rfl : k = l.length := by omega
              have hbad : badB l = false := anyB_f.2 HS.out
              have HER := hide (encErr_ok HAS.out HL.out hbad)
              have HFR := hide (refFrame_any _ _ f n l w1 (HV.out.ext hxw) (HU.out.ext hxw) hn0 (badB_f hbad) (by have := HL.out; have := HCK.out; omega) (by have := HCK.out; omega))
              clear hbad
              go_wp2_with (go_at_call 65; refine Calls.mono HFR.out ?_; rintro e w2 ⟨r, rfl, hb2, hx2⟩)
              go_ret2
              exact ⟨r, by rw [HER.out]; rfl, by unfold encOf; rw [if_pos HER.out]; exact hb2, hxw.trans hx2⟩
          · have HER := hide (encErr_word HAS.out HL.out hb)
            clear hb
            by_cases h8 : k < l.length
            all_goals
              go_wp2
              go_ret2
              exact ⟨_, by rw [HER.out]; rfl, by rw [encOf_bad (by rw [HER.out]; decide)]; exact BytesV.nil _, hxw⟩
      · have hlb : ((l.length : Int) != f.words) = true := by simpa using hl
        have HER := hide (encErr_len HAS.out hl)
        clear hl
        go_enter Try.func26, Try.ntmps26
        go_wp2_with first
          | (go_at_call 59; refine Calls.mono HVA.out ?_; rintro e w1 ⟨rfl, hx⟩; have hcc := hx.cells; have HX := hide hx; clear hx)
          | (go_at_call 60; refine (number_any _ _).mono ?_; rintro e w2 ⟨rfl, rfl⟩; rw [HNB.out])
        go_loop [8, 9] (fun e i => e = .int .i64 2 ∧ i = .int .i64 0) (fun _ _ => 0)
        case atStart => exact ⟨rfl, rfl⟩
        case round =>
          obtain ⟨rfl, rfl⟩ := hrel
          by_cases h0 : 0 < l.length
          all_goals
            go_wp2
            go_ret2
            exact ⟨_, by rw [HER.out]; rfl, by rw [encOf_bad (by rw [HER.out]; exact (by decide))]; exact BytesV.nil _, HX0.out.trans HX.out⟩
  · have hcb : ((chk f).2.2 == 0) = false := by simpa using hc
    have hcn : ((chk f).2.2 != 0) = true := by simpa using hc
    have HER := hide (encErr_ask (l := l) (f := f) (n := n) (by rw [askErr_bad hc]; exact hc))
    have HAS := hide (askErr_bad (n := n) hc)
    have HC := hide hc
    clear hc
    go_enter Try.func26, Try.ntmps26
    go_wp2_with (go_at_call 59; refine Calls.mono HVA.out ?_; rintro e w1 ⟨rfl, hx⟩; have hcc := hx.cells; have HX := hide hx; clear hx)
    go_loop [8, 9] (fun e i => e = .int .i64 (chk f).2.2 ∧ i = .int .i64 0) (fun _ _ => 0)
    case atStart => exact ⟨rfl, rfl⟩
    case round =>
      obtain ⟨rfl, rfl⟩ := hrel
      by_cases h0 : 0 < l.length
      all_goals
        go_wp2
        go_ret2
        exact ⟨_, by rw [HER.out, HAS.out]; rfl, by rw [encOf_bad (by rw [HER.out, HAS.out]; exact HC.out)]; exact BytesV.nil _, HX0.out.trans HX.out⟩
end Go.Proofs.Ytjnnkcnnandeeaa
