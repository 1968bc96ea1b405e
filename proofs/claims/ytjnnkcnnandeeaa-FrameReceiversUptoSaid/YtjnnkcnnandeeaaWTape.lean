/- The walks of Encode, slices.Equal, tape, frames. The walks of slices.Equal and tape. -/
import Derived.Test.YtjnnkcnnandeeaaWEnc
import Derived.RegionTactic
import Derived.Deep.QuietTactic
import Derived.BigQuiet
namespace Go.Proofs.Ytjnnkcnnandeeaa
open Go.RowKit
/-- The error of Encode. -/
def encErr (f : Fmt) (n : Int) (l : List Int) : Int :=
  if askErr f n ≠ 0 then askErr f n else if (l.length : Int) ≠ f.words then 2 else if badB l = true then 7 else 0
def encOf (f : Fmt) (n : Int) (l : List Int) : List Nat := if encErr f n l = 0 then frameOf f n l else []
theorem askErr_0 {f : Fmt} {n : Int} (h : askErr f n = 0) : (chk f).2.2 = 0 ∧ 0 ≤ n ∧ n ≤ 1000000 := by
  unfold askErr at h
  by_cases h0 : (chk f).2.2 = 0
  · by_cases h1 : outB n 0 1000000 = true
    · rw [if_pos ⟨h0, h1⟩] at h; omega
    · have := outB_f.1 (by simpa using h1 : outB n 0 1000000 = false)
      exact ⟨h0, this.1, this.2⟩
  · rw [if_neg (fun hh => h0 hh.1)] at h; exact absurd h h0
/-- What a format without an error has. -/
theorem chk_ok {f : Fmt} (h : (chk f).2.2 = 0) : 1 ≤ f.sync.size ∧ f.sync.size ≤ 4 ∧ f.channels.length ≤ 12 ∧ 1 ≤ f.words ∧ f.words ≤ 32 ∧ 1 ≤ f.depth ∧ f.depth ≤ 16 ∧ deepB f.depth = true ∧ ∀ j, j < f.channels.length → chanErr f j = 0 := by
  unfold chk at h
  by_cases c1 : outB f.sync.size 1 4 = true ∨ 12 < f.channels.length
  · rw [if_pos c1] at h; simp at h
  rw [if_neg c1] at h
  by_cases c2 : outB f.words 1 32 = true ∨ outB f.depth 1 16 = true ∨ deepB f.depth = false
  · rw [if_pos c2] at h; simp at h
  rw [if_neg c2] at h
  simp only [not_or] at c1 c2
  have a1 := outB_f.1 (by simpa using c1.1 : outB f.sync.size 1 4 = false)
  have a2 := outB_f.1 (by simpa using c2.1 : outB f.words 1 32 = false)
  have a3 := outB_f.1 (by simpa using c2.2.1 : outB f.depth 1 16 = false)
  refine ⟨by omega, by omega, by omega, a2.1, a2.2, a3.1, a3.2, by simpa using c2.2.2, ?_⟩
  by_cases c3 : firstBad f < 0
  · intro j hj
    have hall := anyB_f.1 (show anyB (fun i => chanErr f i != 0) f.channels.length = false by unfold anyB; simp only [decide_eq_false_iff_not]; unfold firstBad at c3; omega) j hj
    simpa using hall
  · rw [if_neg c3] at h
    exfalso
    have hge : 0 ≤ firstBad f := by omega
    obtain ⟨k, hk⟩ := Int.eq_ofNat_of_zero_le hge
    dsimp only at h
    rw [hk, Int.toNat_natCast] at h
    have hlt : ∀ (p : Nat → Bool) (n m : Nat), firstIdx p n = (m : Int) → p m = true := by
      intro p n
      induction n with
      | zero => intro m hm; simp [firstIdx] at hm
      | succ n ih =>
        intro m hm
        rw [firstIdx] at hm
        by_cases h1 : firstIdx p n ≥ 0
        · rw [if_pos h1] at hm; exact ih m hm
        · rw [if_neg h1] at hm
          by_cases h2 : p n = true
          · rw [if_pos h2] at hm; have : m = n := by omega
            rw [this]; exact h2
          · rw [if_neg h2] at hm; omega
    have := hlt _ _ k hk
    simp [h] at this
theorem badB_f {l : List Int} (h : badB l = false) : ∀ x ∈ l, 0 ≤ x ∧ x ≤ 65535 := by
  intro x hx
  obtain ⟨i, hi, rfl⟩ := List.getElem_of_mem hx
  have := anyB_f.1 h i hi
  simp only [List.getD_eq_getElem?_getD, List.getElem?_eq_getElem hi, Option.getD_some] at this
  exact outB_f.1 this
set_option maxRecDepth 100000 in
set_option maxHeartbeats 1000000 in
/-- frame.Encode -/
theorem encode_any (v u : Value) (f : Fmt) (n : Int) (l : List Int) (w : World) (hv : FmtV w v f) (hu : IntsV w .i64 u l) :
    Calls Try.prog 25 #[v, .int .i64 n, u] w fun e w' => ∃ r, e = .returned (.tuple #[r, .int .i64 (encErr f n l)]) ∧ BytesV w' r (encOf f n l) ∧ Ext w w' := by
  have HA := hide (asked_any v f n)
  have HB := hide (bytes_any v u f n l)
  have HD := hide (bad_any u l)
  have hE : encErr f n l = if askErr f n ≠ 0 then askErr f n else if (l.length : Int) ≠ f.words then 2 else if badB l = true then 7 else 0 := rfl
  have hO : encOf f n l = if encErr f n l = 0 then frameOf f n l else [] := rfl
  have hk := @askErr_0 f n
  have hck := @chk_ok f
  have hbw := @badB_f l
  have HV := hide hv
  have HU := hide hu
  obtain ⟨hs, _, A, cap, rfl, hcap, hmax, hrow⟩ := hv
  obtain ⟨A', cap', rfl, hcap', hmax', hrow'⟩ := hu
  clear hrow hrow' hmax hmax'
  generalize encErr f n l = er at *
  generalize askErr f n = ae at *
  generalize encOf f n l = ob at *
  have HE := hide hE
  have HO := hide hO
  have HK := hide hk
  have HCK := hide hck
  have HBW := hide hbw
  clear hE hO hk hck hbw
  have hxb : Ext w (w.alloc (.cells #[.string f.sync, .int .i64 f.words, .int .i64 f.depth, .slice A f.channels.length cap] 28)) := (Ext.refl w).alloc _
  go_enter Try.func25, Try.ntmps25
  go_wp2_with fail
  refine (HA.out _ (HV.out.ext hxb)).mono ?_
  rintro e w1 ⟨rfl, hx1⟩
  have hext := hxb.trans hx1
  have hb0 := hx1.cell (p := ⟨w.heap.size, 0, none⟩) (v := .string f.sync) (by simp)
  have hb1 := hx1.cell (p := ⟨w.heap.size, 1, none⟩) (v := .int .i64 f.words) (by simp)
  have hb2 := hx1.cell (p := ⟨w.heap.size, 2, none⟩) (v := .int .i64 f.depth) (by simp)
  have hb3 := hx1.cell (p := ⟨w.heap.size, 3, none⟩) (v := .slice A f.channels.length cap) (by simp)
  clear hx1 hxb
  by_cases ha : ae = 0
  · have hd : (ae != 0) = false := by simp [ha]
    have HAE := hide ha
    clear ha
    by_cases hl : (l.length : Int) = f.words
    · have hd2 : (((l.length : Nat) : Int) != f.words) = false := by simp [hl]
      have HL := hide hl
      clear hl
      go_wp2_with fail
      refine (HD.out _ (HU.out.ext hext)).mono ?_
      rintro e w2 ⟨rfl, hx2⟩
      have hext2 := hext.trans hx2
      have hb0 := hx2.cell hb0
      have hb1 := hx2.cell hb1
      have hb2 := hx2.cell hb2
      have hb3 := hx2.cell hb3
      cases hbad : badB l with
      | true =>
        have HBAD := hide hbad
        clear hbad
        go_wp2_with fail
        go_ret2
        have he : er = 7 := by rw [HE.out, if_neg (by simp [HAE.out]), if_neg (by simp [HL.out]), if_pos HBAD.out]
        refine ⟨_, by rw [he]; rfl, ?_, hext2⟩
        rw [HO.out, he, if_neg (by decide)]
        exact BytesV.nil _
      | false =>
        have HBAD := hide hbad
        clear hbad
        have hn := (HK.out HAE.out).2.1
        have hc := HCK.out (HK.out HAE.out).1
        go_wp2_with fail
        refine (HB.out _ (HV.out.ext hext2) (HU.out.ext hext2) hn (HBW.out HBAD.out) (by have := HL.out; omega) (by omega)).mono ?_
        rintro e w3 ⟨r, rfl, hr, hx3⟩
        go_wp2_with fail
        go_ret2
        have he : er = 0 := by rw [HE.out, if_neg (by simp [HAE.out]), if_neg (by simp [HL.out]), if_neg (by rw [HBAD.out]; decide)]
        refine ⟨_, by rw [he]; rfl, ?_, hext2.trans hx3⟩
        rw [HO.out, he, if_pos rfl]
        exact hr
    · have hd2 : (((l.length : Nat) : Int) != f.words) = true := by simp [hl]
      have HL := hide hl
      clear hl
      go_wp2_with fail
      go_ret2
      have he : er = 2 := by rw [HE.out, if_neg (by simp [HAE.out]), if_pos HL.out]
      refine ⟨_, by rw [he]; rfl, ?_, hext⟩
      rw [HO.out, he, if_neg (by decide)]
      exact BytesV.nil _
  · have hd : (ae != 0) = true := by simp [ha]
    have HAE := hide ha
    clear ha
    go_wp2_with fail
    go_ret2
    have he : er = ae := by rw [HE.out, if_pos HAE.out]
    refine ⟨_, by rw [he]; rfl, ?_, hext⟩
    rw [HO.out, he, if_neg HAE.out]
    exact BytesV.nil _
end Go.Proofs.Ytjnnkcnnandeeaa
namespace Go.Proofs.Ytjnnkcnnandeeaa
open Go.RowKit
theorem eqB_len {l m : List Nat} (h : (((l.length : Nat) : Int) != ((m.length : Nat) : Int)) = true) : (l == m) = false := by
  simp only [bne_iff_ne, ne_eq] at h
  simp only [beq_eq_false_iff_ne, ne_eq]
  rintro rfl
  exact h rfl
theorem eqB_at {l m : List Nat} (k : Nat) (h : l.getD k 0 ≠ m.getD k 0) : (l == m) = false := by
  simp only [beq_eq_false_iff_ne, ne_eq]
  rintro rfl
  exact h rfl
theorem eqB_all {l m : List Nat} (hl : l.length = m.length) (h : ∀ j, j < l.length → l.getD j 0 = m.getD j 0) : (l == m) = true := by
  rw [beq_iff_eq]
  apply List.ext_getElem hl
  intro i h1 h2
  have := h i h1
  simpa [List.getD_eq_getElem?_getD, List.getElem?_eq_getElem h1, List.getElem?_eq_getElem h2] using this
set_option maxRecDepth 100000 in
set_option maxHeartbeats 800000 in
/-- slices.Equal of bytes -/
theorem equal_any (v u : Value) (l m : List Nat) (w : World) (h : BytesV w v l) (h' : BytesV w u m) :
    Calls Try.prog 104 #[v, u] w fun e w' => e = .returned (.bool (l == m)) ∧ Ext w w' := by
  obtain ⟨hl, A, cap, rfl, hcap, hmax, hrow⟩ := h
  obtain ⟨hl', A', cap', rfl, hcap', hmax', hrow'⟩ := h'
  have hm1 : cap ≤ 9223372036854775807 := by simpa [maxLen] using hmax
  have hm2 : cap' ≤ 9223372036854775807 := by simpa [maxLen] using hmax'
  clear hmax hmax'
  go_enter Try.func104, Try.ntmps104
  by_cases hlen : l.length = m.length
  · have hd : (((l.length : Nat) : Int) != ((m.length : Nat) : Int)) = false := by simp [hlen]
    have HL := hide hlen
    clear hlen
    go_wp2
    go_loopw [13] (fun i wr => Ext w wr ∧ ∃ k : Nat, k ≤ l.length ∧ i = .int .i64 k ∧ Hid (∀ j, j < k → l.getD j 0 = m.getD j 0)) (fun i _ => l.length - (intOf i).toNat)
    case atStart => exact ⟨Ext.refl w, 0, by omega, rfl, fun j hj => absurd hj (by omega)⟩
    case round =>
      obtain ⟨hext, k, hk, rfl, hall⟩ := hrel
      by_cases h8 : k < l.length
      · obtain ⟨b, off, x, rfl, hbs, hx, hck, HX⟩ := bytes_at (hrow.ext hext) hl h8
        have hkm : k < m.length := by have := HL.out; omega
        obtain ⟨b', off', y, rfl, hbs', hy, hck', HY⟩ := bytes_at (hrow'.ext hext) hl' hkm
        have HLl := hide hl
        have HLl' := hide hl'
        have HR := hide hrow
        have HR' := hide hrow'
        clear hl hl' hrow hrow'
        by_cases hxy : x = y
        · have hd2 : (((x : Nat) : Int) != ((y : Nat) : Int)) = false := by simp [hxy]
          have HXY := hide hxy
          clear hxy
          go_wp2_with fail
          go_quiet (fail)
          go_wp2
          go_roundw
          case rel =>
            refine ⟨by first | exact hext | exact hext.drew | exact hext.drewN _, k + 1, by omega, by go_num, fun j hj => ?_⟩
            by_cases hjk : j < k
            · exact hall.out j hjk
            · obtain rfl : j = k := by omega
              rw [HX.out, HY.out, HXY.out]
          case measure => simp [intOf]; omega
        · have hd2 : (((x : Nat) : Int) != ((y : Nat) : Int)) = true := by simp; omega
          have HXY := hide hxy
          clear hxy
          go_wp2_with fail
          go_quiet (fail)
          go_wp2
          go_ret
          exact ⟨ret_bool (eqB_at k (by rw [HX.out, HY.out]; exact HXY.out)).symm, by first | exact hext | exact hext.drew | exact hext.drewN _⟩
      · obtain rfl : k = l.length := by omega
        have he := (eqB_all HL.out hall.out).symm
        go_wp2
        go_ret
        exact ⟨ret_bool he, hext⟩
  · have hd : (((l.length : Nat) : Int) != ((m.length : Nat) : Int)) = true := by simp; omega
    have he := (eqB_len hd).symm
    go_wp2
    go_ret
    exact ⟨ret_bool he, Ext.refl w⟩
/-- The error of a tape. -/
def tapeErr (f : Fmt) (n : Nat) (first : Int) : Int :=
  if (chk f).2.2 ≠ 0 then (chk f).2.2 else if 4000 < n then 3 else if outB first 0 1000000 = true then 7 else 0
set_option maxRecDepth 100000 in
set_option maxHeartbeats 800000 in
/-- frame.tape -/
theorem tape_any (v b : Value) (f : Fmt) (l : List Nat) (first : Int) (w : World) (hv : FmtV w v f) (hb : BytesV w b l) :
    Calls Try.prog 66 #[v, .agg #[b, .int .i64 first]] w fun e w' => e = .returned (.int .i64 (tapeErr f l.length first)) ∧ Ext w w' := by
  have hc := check_any v f
  have hask : tapeErr f l.length first = if (chk f).2.2 ≠ 0 then (chk f).2.2 else if 4000 < l.length then 3 else if outB first 0 1000000 = true then 7 else 0 := rfl
  generalize tapeErr f l.length first = r at *
  generalize chk f = ck at *
  obtain ⟨c1, c2, c3⟩ := ck
  dsimp only at hc hask
  have HC := hide hc
  have HA := hide hask
  clear hc hask
  have HV := hide hv
  obtain ⟨hs, _, A, cap, rfl, hcap, hmax, hrow⟩ := hv
  obtain ⟨hbl, A', cap', rfl, hcap', hmax', hrow'⟩ := hb
  clear hrow hrow' hmax hmax' hbl
  go_enter Try.func66, Try.ntmps66
  go_wp2_with fail
  refine (HC.out _ (HV.out.ext (((Ext.refl _).alloc _).alloc _))).mono ?_
  rintro e w1 ⟨rfl, hx1⟩
  have hext := (((Ext.refl w).alloc _).alloc _).trans hx1
  have hb0 := hx1.cell (p := ⟨w.heap.size + 1, 0, none⟩) (v := .slice A' l.length cap') (by simp)
  have hb1 := hx1.cell (p := ⟨w.heap.size + 1, 1, none⟩) (v := .int .i64 first) (by simp)
  clear hx1 HC HV
  by_cases h0 : c3 = 0
  · have hd : (c3 != 0) = false := by simp [h0]
    have H0 := hide h0
    clear h0
    by_cases h4 : 4000 < l.length
    · have H4 := hide h4
      go_wp2_with fail
      go_ret
      exact ⟨ret_int (by rw [HA.out, if_neg (by simp [H0.out]), if_pos H4.out]), hext⟩
    · have H4 := hide h4
      have h4' : l.length ≤ 4000 := by omega
      clear h4
      go_wp2_with fail
      refine (out_any _ _ _ _).mono ?_
      rintro e w2 ⟨rfl, rfl⟩
      cases h1 : outB first 0 1000000 with
      | true =>
        have H1 := hide h1
        clear h1
        go_wp2_with fail
        go_ret
        exact ⟨ret_int (by rw [HA.out, if_neg (by simp [H0.out]), if_neg H4.out, if_pos H1.out]), hext⟩
      | false =>
        have H1 := hide h1
        clear h1
        go_wp2_with fail
        go_ret
        exact ⟨ret_int (by rw [HA.out, if_neg (by simp [H0.out]), if_neg H4.out, if_neg (by rw [H1.out]; decide)]), hext⟩
  · have hd : (c3 != 0) = true := by simp [h0]
    have H0 := hide h0
    clear h0
    go_wp2_with fail
    go_ret
    exact ⟨ret_int (by rw [HA.out, if_pos H0.out]), hext⟩
end Go.Proofs.Ytjnnkcnnandeeaa
