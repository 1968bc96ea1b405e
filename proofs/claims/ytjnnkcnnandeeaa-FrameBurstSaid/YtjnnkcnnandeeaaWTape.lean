/- The walks of Encode, slices.Equal, tape, frames. -/
import Derived.Test.YtjnnkcnnandeeaaWEnc
namespace Go.Proofs.Ytjnnkcnnandeeaa
open Go.RowKit
/-- The error of Encode. -/
def encErr (f : Fmt) (n : Int) (l : List Int) : Int :=
  if askErr f n ≠ 0 then askErr f n else if (l.length : Int) ≠ f.words then 2 else if badB l = true then 7 else 0
def encOf (f : Fmt) (n : Int) (l : List Int) : List Nat := if encErr f n l = 0 then frameOf f n l else []
theorem askErr_0 {f : Fmt} {n : Int} (h : askErr f n = 0) : (chk f).2.2 = 0 ∧ 0 ≤ n ∧ n ≤ 1000000 := by
  unfold askErr at h
  by_cases h0 : (chk f).2.2 = 0
  · by_cases h1 : outB n 0 1000000 = true
    · rw [if_pos ⟨h0, h1⟩] at h; omega
    · have := outB_f.1 (by simpa using h1 : outB n 0 1000000 = false)
      exact ⟨h0, this.1, this.2⟩
  · rw [if_neg (fun hh => h0 hh.1)] at h; exact absurd h h0
/-- What a format without an error has. -/
theorem chk_ok {f : Fmt} (h : (chk f).2.2 = 0) : 1 ≤ f.sync.size ∧ f.sync.size ≤ 4 ∧ f.channels.length ≤ 12 ∧ 1 ≤ f.words ∧ f.words ≤ 32 ∧ 1 ≤ f.depth ∧ f.depth ≤ 16 ∧ deepB f.depth = true ∧ ∀ j, j < f.channels.length → chanErr f j = 0 := by
  unfold chk at h
  by_cases c1 : outB f.sync.size 1 4 = true ∨ 12 < f.channels.length
  · rw [if_pos c1] at h; simp at h
  rw [if_neg c1] at h
  by_cases c2 : outB f.words 1 32 = true ∨ outB f.depth 1 16 = true ∨ deepB f.depth = false
  · rw [if_pos c2] at h; simp at h
  rw [if_neg c2] at h
  simp only [not_or] at c1 c2
  have a1 := outB_f.1 (by simpa using c1.1 : outB f.sync.size 1 4 = false)
  have a2 := outB_f.1 (by simpa using c2.1 : outB f.words 1 32 = false)
  have a3 := outB_f.1 (by simpa using c2.2.1 : outB f.depth 1 16 = false)
  refine ⟨by omega, by omega, by omega, a2.1, a2.2, a3.1, a3.2, by simpa using c2.2.2, ?_⟩
  by_cases c3 : firstBad f < 0
  · intro j hj
    have hall := anyB_f.1 (show anyB (fun i => chanErr f i != 0) f.channels.length = false by unfold anyB; simp only [decide_eq_false_iff_not]; unfold firstBad at c3; omega) j hj
    simpa using hall
  · rw [if_neg c3] at h
    exfalso
    have hge : 0 ≤ firstBad f := by omega
    obtain ⟨k, hk⟩ := Int.eq_ofNat_of_zero_le hge
    dsimp only at h
    rw [hk, Int.toNat_natCast] at h
    have hlt : ∀ (p : Nat → Bool) (n m : Nat), firstIdx p n = (m : Int) → p m = true := by
      intro p n
      induction n with
      | zero => intro m hm; simp [firstIdx] at hm
      | succ n ih =>
        intro m hm
        rw [firstIdx] at hm
        by_cases h1 : firstIdx p n ≥ 0
        · rw [if_pos h1] at hm; exact ih m hm
        · rw [if_neg h1] at hm
          by_cases h2 : p n = true
          · rw [if_pos h2] at hm; have : m = n := by omega
            rw [this]; exact h2
          · rw [if_neg h2] at hm; omega
    have := hlt _ _ k hk
    simp [h] at this
theorem badB_f {l : List Int} (h : badB l = false) : ∀ x ∈ l, 0 ≤ x ∧ x ≤ 65535 := by
  intro x hx
  obtain ⟨i, hi, rfl⟩ := List.getElem_of_mem hx
  have := anyB_f.1 h i hi
  simp only [List.getD_eq_getElem?_getD, List.getElem?_eq_getElem hi, Option.getD_some] at this
  exact outB_f.1 this
set_option maxRecDepth 100000 in
set_option maxHeartbeats 1000000 in
/-- frame.Encode -/
theorem encode_any (v u : Value) (f : Fmt) (n : Int) (l : List Int) (w : World) (hv : FmtV w v f) (hu : IntsV w .i64 u l) :
    Calls Try.prog 25 #[v, .int .i64 n, u] w fun e w' => ∃ r, e = .returned (.tuple #[r, .int .i64 (encErr f n l)]) ∧ BytesV w' r (encOf f n l) ∧ Ext w w' := by
  have HA := hide (asked_any v f n)
  have HB := hide (bytes_any v u f n l)
  have HD := hide (bad_any u l)
  have hE : encErr f n l = if askErr f n ≠ 0 then askErr f n else if (l.length : Int) ≠ f.words then 2 else if badB l = true then 7 else 0 := rfl
  have hO : encOf f n l = if encErr f n l = 0 then frameOf f n l else [] := rfl
  have hk := @askErr_0 f n
  have hck := @chk_ok f
  have hbw := @badB_f l
  have HV := hide hv
  have HU := hide hu
  obtain ⟨hs, _, A, cap, rfl, hcap, hmax, hrow⟩ := hv
  obtain ⟨A', cap', rfl, hcap', hmax', hrow'⟩ := hu
  clear hrow hrow' hmax hmax'
  generalize encErr f n l = er at *
  generalize askErr f n = ae at *
  generalize encOf f n l = ob at *
  have HE := hide hE
  have HO := hide hO
  have HK := hide hk
  have HCK := hide hck
  have HBW := hide hbw
  clear hE hO hk hck hbw
  have hxb : Ext w (w.alloc (.cells #[.string f.sync, .int .i64 f.words, .int .i64 f.depth, .slice A f.channels.length cap] 28)) := (Ext.refl w).alloc _
  go_enter Try.func25, Try.ntmps25
  go_wp2_with fail
  refine (HA.out _ (HV.out.ext hxb)).mono ?_
  rintro e w1 ⟨rfl, hx1⟩
  have hext := hxb.trans hx1
  have hb0 := hx1.cell (p := ⟨w.heap.size, 0, none⟩) (v := .string f.sync) (by simp)
  have hb1 := hx1.cell (p := ⟨w.heap.size, 1, none⟩) (v := .int .i64 f.words) (by simp)
  have hb2 := hx1.cell (p := ⟨w.heap.size, 2, none⟩) (v := .int .i64 f.depth) (by simp)
  have hb3 := hx1.cell (p := ⟨w.heap.size, 3, none⟩) (v := .slice A f.channels.length cap) (by simp)
  clear hx1 hxb
  by_cases ha : ae = 0
  · have hd : (ae != 0) = false := by simp [ha]
    have HAE := hide ha
    clear ha
    by_cases hl : (l.length : Int) = f.words
    · have hd2 : (((l.length : Nat) : Int) != f.words) = false := by simp [hl]
      have HL := hide hl
      clear hl
      go_wp2_with fail
      refine (HD.out _ (HU.out.ext hext)).mono ?_
      rintro e w2 ⟨rfl, hx2⟩
      have hext2 := hext.trans hx2
      have hb0 := hx2.cell hb0
      have hb1 := hx2.cell hb1
      have hb2 := hx2.cell hb2
      have hb3 := hx2.cell hb3
      cases hbad : badB l with
      | true =>
        have HBAD := hide hbad
        clear hbad
        go_wp2_with fail
        go_ret2
        have he : er = 7 := by rw [HE.out, if_neg (by simp [HAE.out]), if_neg (by simp [HL.out]), if_pos HBAD.out]
        refine ⟨_, by rw [he]; rfl, ?_, hext2⟩
        rw [HO.out, he, if_neg (by decide)]
        exact BytesV.nil _
      | false =>
        have HBAD := hide hbad
        clear hbad
        have hn := (HK.out HAE.out).2.1
        have hc := HCK.out (HK.out HAE.out).1
        go_wp2_with fail
        refine (HB.out _ (HV.out.ext hext2) (HU.out.ext hext2) hn (HBW.out HBAD.out) (by have := HL.out; omega) (by omega)).mono ?_
        rintro e w3 ⟨r, rfl, hr, hx3⟩
        go_wp2_with fail
        go_ret2
        have he : er = 0 := by rw [HE.out, if_neg (by simp [HAE.out]), if_neg (by simp [HL.out]), if_neg (by rw [HBAD.out]; decide)]
        refine ⟨_, by rw [he]; rfl, ?_, hext2.trans hx3⟩
        rw [HO.out, he, if_pos rfl]
        exact hr
    · have hd2 : (((l.length : Nat) : Int) != f.words) = true := by simp [hl]
      have HL := hide hl
      clear hl
      go_wp2_with fail
      go_ret2
      have he : er = 2 := by rw [HE.out, if_neg (by simp [HAE.out]), if_pos HL.out]
      refine ⟨_, by rw [he]; rfl, ?_, hext⟩
      rw [HO.out, he, if_neg (by decide)]
      exact BytesV.nil _
  · have hd : (ae != 0) = true := by simp [ha]
    have HAE := hide ha
    clear ha
    go_wp2_with fail
    go_ret2
    have he : er = ae := by rw [HE.out, if_pos HAE.out]
    refine ⟨_, by rw [he]; rfl, ?_, hext⟩
    rw [HO.out, he, if_neg HAE.out]
    exact BytesV.nil _
end Go.Proofs.Ytjnnkcnnandeeaa
