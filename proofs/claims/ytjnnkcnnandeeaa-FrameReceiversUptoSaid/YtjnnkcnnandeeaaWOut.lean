/- The walks of the small tests: out, in, number, word, has. -/
import Derived.Test.YtjnnkcnnandeeaaProg
import Derived.Test.YtjnnkcnnandeeaaBase
import Derived.RegionTactic
import Derived.Deep.QuietTactic
import Derived.BigQuiet
namespace Go.Proofs.Ytjnnkcnnandeeaa
open Go.RowKit
set_option maxRecDepth 100000 in
set_option maxHeartbeats 400000 in
/-- frame.out at int -/
theorem out_any (n lo hi : Int) (w : World) :
    Calls Try.prog 69 #[.int .i64 n, .int .i64 lo, .int .i64 hi] w fun e w' => e = .returned (.bool (outB n lo hi)) ∧ w = w' := by
  go_enter Try.func69, Try.ntmps69
  by_cases h1 : n < lo
  all_goals
    go_wp2
    go_ret
    refine ⟨ret_bool ?_, rfl⟩
    simp [outB] <;> omega
set_option maxRecDepth 100000 in
set_option maxHeartbeats 400000 in
/-- wind.out -/
theorem windOut_any (n lo hi : Int) (w : World) :
    Calls Try.prog 105 #[.int .i64 n, .int .i64 lo, .int .i64 hi] w fun e w' => e = .returned (.bool (outB n lo hi)) ∧ w = w' := by
  go_enter Try.func105, Try.ntmps105
  by_cases h1 : n < lo
  all_goals
    go_wp2
    go_ret
    refine ⟨ret_bool ?_, rfl⟩
    simp [outB] <;> omega
set_option maxRecDepth 100000 in
set_option maxHeartbeats 400000 in
/-- ref.in -/
theorem refIn_any (n lo hi : Int) (w : World) :
    Calls Try.prog 70 #[.int .i64 n, .int .i64 lo, .int .i64 hi] w fun e w' => e = .returned (.bool (inB n lo hi)) ∧ w = w' := by
  go_enter Try.func70, Try.ntmps70
  by_cases h1 : lo ≤ n
  all_goals
    go_wp2
    go_ret
    refine ⟨ret_bool ?_, rfl⟩
    simp [inB] <;> omega
set_option maxRecDepth 100000 in
set_option maxHeartbeats 400000 in
/-- frame.in -/
theorem in_any (nm : ByteArray) (wd ev ph n : Int) (w : World) (hn : 0 ≤ n) (h : 1 ≤ ev) :
    Calls Try.prog 58 #[.agg #[.string nm, .int .i64 wd, .int .i64 ev, .int .i64 ph], .int .i64 n] w fun e w' => e = .returned (.bool (decide (n % ev = ph))) ∧ Ext w w' := by
  go_enter Try.func58, Try.ntmps58
  go_wp2
  go_quiet (fail)
  go_wp2
  go_ret
  exact ⟨ret_bool rfl, ((Ext.refl _).alloc _).drewN _⟩
set_option maxRecDepth 100000 in
set_option maxHeartbeats 400000 in
/-- ref.has -/
theorem has_any (nm : ByteArray) (wd ev ph n : Int) (w : World) (hn : 0 ≤ n) (h : 1 ≤ ev) :
    Calls Try.prog 62 #[.agg #[.string nm, .int .i64 wd, .int .i64 ev, .int .i64 ph], .int .i64 n] w fun e w' => e = .returned (.bool (decide (n % ev = ph))) ∧ Ext w w' := by
  go_enter Try.func62, Try.ntmps62
  go_wp2
  go_quiet (fail)
  go_wp2
  go_ret
  exact ⟨ret_bool rfl, ((Ext.refl _).alloc _).drewN _⟩
set_option maxRecDepth 100000 in
set_option maxHeartbeats 400000 in
/-- ref.number -/
theorem number_any (n : Int) (w : World) :
    Calls Try.prog 60 #[.int .i64 n] w fun e w' => e = .returned (.bool (inB n 0 1000000)) ∧ w = w' := by
  go_enter Try.func60, Try.ntmps60
  go_wp2_with (go_at_call 70; refine (refIn_any _ _ _ _).mono ?_; rintro e w' ⟨rfl, rfl⟩)
  go_ret
  exact ⟨ret_bool rfl, rfl⟩
set_option maxRecDepth 100000 in
set_option maxHeartbeats 400000 in
/-- ref.word -/
theorem word_any (n : Int) (w : World) :
    Calls Try.prog 61 #[.int .i64 n] w fun e w' => e = .returned (.bool (inB n 0 65535)) ∧ w = w' := by
  go_enter Try.func61, Try.ntmps61
  go_wp2_with (go_at_call 70; refine (refIn_any _ _ _ _).mono ?_; rintro e w' ⟨rfl, rfl⟩)
  go_ret
  exact ⟨ret_bool rfl, rfl⟩
set_option maxRecDepth 100000 in
set_option maxHeartbeats 400000 in
/-- ref01.Ints -/
theorem ints1_any (v v' : Value) (l m : List Int) (w : World) (hv : IntsV w .i64 v l) (hv' : IntsV w .i64 v' m) :
    Calls Try.prog 63 #[v, v'] w fun e w' => e = .returned (.bool (decide (l = m))) ∧ Ext w w' := by
  obtain ⟨A, cap, rfl, hcap, hmax, hrow⟩ := hv
  obtain ⟨A', cap', rfl, hcap', hmax', hrow'⟩ := hv'
  have hm : cap ≤ 9223372036854775807 := by simpa [maxLen] using hmax
  have hm' : cap' ≤ 9223372036854775807 := by simpa [maxLen] using hmax'
  clear hmax hmax'
  by_cases hlen : l.length = m.length
  · have hb : (((l.length : Nat) : Int) != ((m.length : Nat) : Int)) = false := by simp; omega
    have HL := hide hlen
    clear hlen
    go_enter Try.func63, Try.ntmps63
    go_wp2
    go_loopw [5] (fun i wr => Ext w wr ∧ ∃ k : Nat, k ≤ l.length ∧ i = .int .i64 k ∧ ∀ j, j < k → l.getD j 0 = m.getD j 0) (fun i _ => l.length - (intOf i).toNat)
    case atStart => exact ⟨Ext.refl _, 0, by omega, rfl, fun j hj => absurd hj (by omega)⟩
    case round =>
      obtain ⟨hext, k, hk, rfl, hsame⟩ := hrel
      have HS := hide hsame
      clear hsame
      by_cases h8 : k < l.length
      · obtain ⟨b, off, x, rfl, _, hck, HX⟩ := ints_at (hrow.ext hext) h8
        obtain ⟨b', off', y, rfl, _, hck', HY⟩ := ints_at (hrow'.ext hext) (by have := HL.out; omega : k < m.length)
        have h8' : k < m.length := by have := HL.out; omega
        clear hrow hrow'
        by_cases hxy : x = y
        · have hd : (x != y) = false := by simp [hxy]
          have HXY := hide hxy
          clear hxy
          go_wp2
          go_quiet (fail)
          go_wp2
          go_roundw
          case rel =>
            refine ⟨hext.drewN _, k + 1, by omega, by go_num, fun j hj => ?_⟩
            by_cases hjk : j = k
            · rw [hjk, HX.out, HY.out, HXY.out]
            · exact HS.out j (by omega)
          case measure => simp [intOf]; omega
        · have hd : (x != y) = true := by simp [hxy]
          go_wp2
          go_quiet (fail)
          go_wp2
          go_ret
          refine ⟨ret_bool ?_, hext.drewN _⟩
          have : l ≠ m := fun h => hxy (by rw [← HX.out, ← HY.out, h])
          simp [this]
      · obtain rfl : k = l.length := by omega
        go_wp2
        go_ret
        refine ⟨ret_bool ?_, hext⟩
        have : l = m := List.ext_getElem HL.out (fun i h1 h2 => by have := HS.out i h1; simpa [List.getD_eq_getElem?_getD, h1, h2] using this)
        simp [this]
  · have hb : (((l.length : Nat) : Int) != ((m.length : Nat) : Int)) = true := by simp; omega
    go_enter Try.func63, Try.ntmps63
    go_wp2
    go_ret
    refine ⟨ret_bool ?_, Ext.refl _⟩
    have : l ≠ m := fun h => hlen (by rw [h])
    simp [this]
set_option maxRecDepth 100000 in
set_option maxHeartbeats 400000 in
/-- ref.Ints -/
theorem ints_any (v v' : Value) (l m : List Int) (w : World) (hv : IntsV w .i64 v l) (hv' : IntsV w .i64 v' m) :
    Calls Try.prog 24 #[v, v'] w fun e w' => e = .returned (.bool (decide (l = m))) ∧ Ext w w' := by
  go_enter Try.func24, Try.ntmps24
  go_wp2_with (go_at_call 63; refine (ints1_any _ _ _ _ _ hv hv').mono ?_; rintro e w' ⟨rfl, hw1⟩)
  go_ret
  exact ⟨ret_bool rfl, hw1⟩
end Go.Proofs.Ytjnnkcnnandeeaa
