/- The walks of slices.Equal and tape. -/
import Derived.Test.YtjnnkcnnandeeaaWTape
import Derived.RegionTactic
import Derived.Deep.QuietTactic
import Derived.BigQuiet
namespace Go.Proofs.Ytjnnkcnnandeeaa
open Go.RowKit
theorem eqB_len {l m : List Nat} (h : (((l.length : Nat) : Int) != ((m.length : Nat) : Int)) = true) : (l == m) = false := by
  simp only [bne_iff_ne, ne_eq] at h
  simp only [beq_eq_false_iff_ne, ne_eq]
  rintro rfl
  exact h rfl
theorem eqB_at {l m : List Nat} (k : Nat) (h : l.getD k 0 ≠ m.getD k 0) : (l == m) = false := by
  simp only [beq_eq_false_iff_ne, ne_eq]
  rintro rfl
  exact h rfl
theorem eqB_all {l m : List Nat} (hl : l.length = m.length) (h : ∀ j, j < l.length → l.getD j 0 = m.getD j 0) : (l == m) = true := by
  rw [beq_iff_eq]
  apply List.ext_getElem hl
  intro i h1 h2
  have := h i h1
  simpa [List.getD_eq_getElem?_getD, List.getElem?_eq_getElem h1, List.getElem?_eq_getElem h2] using this
set_option maxRecDepth 100000 in
set_option maxHeartbeats 800000 in
/-- slices.Equal of bytes -/
theorem equal_any (v u : Value) (l m : List Nat) (w : World) (h : BytesV w v l) (h' : BytesV w u m) :
    Calls Try.prog 104 #[v, u] w fun e w' => e = .returned (.bool (l == m)) ∧ Ext w w' := by
  obtain ⟨hl, A, cap, rfl, hcap, hmax, hrow⟩ := h
  obtain ⟨hl', A', cap', rfl, hcap', hmax', hrow'⟩ := h'
  have hm1 : cap ≤ 9223372036854775807 := by simpa [maxLen] using hmax
  have hm2 : cap' ≤ 9223372036854775807 := by simpa [maxLen] using hmax'
  clear hmax hmax'
  go_enter Try.func104, Try.ntmps104
  by_cases hlen : l.length = m.length
  · have hd : (((l.length : Nat) : Int) != ((m.length : Nat) : Int)) = false := by simp [hlen]
    have HL := hide hlen
    clear hlen
    go_wp2
    go_loopw [13] (fun i wr => Ext w wr ∧ ∃ k : Nat, k ≤ l.length ∧ i = .int .i64 k ∧ Hid (∀ j, j < k → l.getD j 0 = m.getD j 0)) (fun i _ => l.length - (intOf i).toNat)
    case atStart => exact ⟨Ext.refl w, 0, by omega, rfl, fun j hj => absurd hj (by omega)⟩
    case round =>
      obtain ⟨hext, k, hk, rfl, hall⟩ := hrel
      by_cases h8 : k < l.length
      · obtain ⟨b, off, x, rfl, hbs, hx, hck, HX⟩ := bytes_at (hrow.ext hext) hl h8
        have hkm : k < m.length := by have := HL.out; omega
        obtain ⟨b', off', y, rfl, hbs', hy, hck', HY⟩ := bytes_at (hrow'.ext hext) hl' hkm
        have HLl := hide hl
        have HLl' := hide hl'
        have HR := hide hrow
        have HR' := hide hrow'
        clear hl hl' hrow hrow'
        by_cases hxy : x = y
        · have hd2 : (((x : Nat) : Int) != ((y : Nat) : Int)) = false := by simp [hxy]
          have HXY := hide hxy
          clear hxy
          go_wp2_with fail
          go_quiet (fail)
          go_wp2
          go_roundw
          case rel =>
            refine ⟨by first | exact hext | exact hext.drew | exact hext.drewN _, k + 1, by omega, by go_num, fun j hj => ?_⟩
            by_cases hjk : j < k
            · exact hall.out j hjk
            · obtain rfl : j = k := by omega
              rw [HX.out, HY.out, HXY.out]
          case measure => simp [intOf]; omega
        · have hd2 : (((x : Nat) : Int) != ((y : Nat) : Int)) = true := by simp; omega
          have HXY := hide hxy
          clear hxy
          go_wp2_with fail
          go_quiet (fail)
          go_wp2
          go_ret
          exact ⟨ret_bool (eqB_at k (by rw [HX.out, HY.out]; exact HXY.out)).symm, by first | exact hext | exact hext.drew | exact hext.drewN _⟩
      · obtain rfl : k = l.length := by omega
        have he := (eqB_all HL.out hall.out).symm
        go_wp2
        go_ret
        exact ⟨ret_bool he, hext⟩
  · have hd : (((l.length : Nat) : Int) != ((m.length : Nat) : Int)) = true := by simp; omega
    have he := (eqB_len hd).symm
    go_wp2
    go_ret
    exact ⟨ret_bool he, Ext.refl w⟩
/-- The error of a tape. -/
def tapeErr (f : Fmt) (n : Nat) (first : Int) : Int :=
  if (chk f).2.2 ≠ 0 then (chk f).2.2 else if 4000 < n then 3 else if outB first 0 1000000 = true then 7 else 0
set_option maxRecDepth 100000 in
set_option maxHeartbeats 800000 in
/-- frame.tape -/
theorem tape_any (v b : Value) (f : Fmt) (l : List Nat) (first : Int) (w : World) (hv : FmtV w v f) (hb : BytesV w b l) :
    Calls Try.prog 66 #[v, .agg #[b, .int .i64 first]] w fun e w' => e = .returned (.int .i64 (tapeErr f l.length first)) ∧ Ext w w' := by
  have hc := check_any v f
  have hask : tapeErr f l.length first = if (chk f).2.2 ≠ 0 then (chk f).2.2 else if 4000 < l.length then 3 else if outB first 0 1000000 = true then 7 else 0 := rfl
  generalize tapeErr f l.length first = r at *
  generalize chk f = ck at *
  obtain ⟨c1, c2, c3⟩ := ck
  dsimp only at hc hask
  have HC := hide hc
  have HA := hide hask
  clear hc hask
  have HV := hide hv
  obtain ⟨hs, _, A, cap, rfl, hcap, hmax, hrow⟩ := hv
  obtain ⟨hbl, A', cap', rfl, hcap', hmax', hrow'⟩ := hb
  clear hrow hrow' hmax hmax' hbl
  go_enter Try.func66, Try.ntmps66
  go_wp2_with fail
  refine (HC.out _ (HV.out.ext (((Ext.refl _).alloc _).alloc _))).mono ?_
  rintro e w1 ⟨rfl, hx1⟩
  have hext := (((Ext.refl w).alloc _).alloc _).trans hx1
  have hb0 := hx1.cell (p := ⟨w.heap.size + 1, 0, none⟩) (v := .slice A' l.length cap') (by simp)
  have hb1 := hx1.cell (p := ⟨w.heap.size + 1, 1, none⟩) (v := .int .i64 first) (by simp)
  clear hx1 HC HV
  by_cases h0 : c3 = 0
  · have hd : (c3 != 0) = false := by simp [h0]
    have H0 := hide h0
    clear h0
    by_cases h4 : 4000 < l.length
    · have H4 := hide h4
      go_wp2_with fail
      go_ret
      exact ⟨ret_int (by rw [HA.out, if_neg (by simp [H0.out]), if_pos H4.out]), hext⟩
    · have H4 := hide h4
      have h4' : l.length ≤ 4000 := by omega
      clear h4
      go_wp2_with fail
      refine (out_any _ _ _ _).mono ?_
      rintro e w2 ⟨rfl, rfl⟩
      cases h1 : outB first 0 1000000 with
      | true =>
        have H1 := hide h1
        clear h1
        go_wp2_with fail
        go_ret
        exact ⟨ret_int (by rw [HA.out, if_neg (by simp [H0.out]), if_neg H4.out, if_pos H1.out]), hext⟩
      | false =>
        have H1 := hide h1
        clear h1
        go_wp2_with fail
        go_ret
        exact ⟨ret_int (by rw [HA.out, if_neg (by simp [H0.out]), if_neg H4.out, if_neg (by rw [H1.out]; decide)]), hext⟩
  · have hd : (c3 != 0) = true := by simp [h0]
    have H0 := hide h0
    clear h0
    go_wp2_with fail
    go_ret
    exact ⟨ret_int (by rw [HA.out, if_pos H0.out]), hext⟩
end Go.Proofs.Ytjnnkcnnandeeaa
