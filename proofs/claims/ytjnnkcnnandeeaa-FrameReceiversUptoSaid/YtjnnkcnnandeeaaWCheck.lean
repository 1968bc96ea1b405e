/- The walk of frame.Check. -/
import Derived.Test.YtjnnkcnnandeeaaWName
import Derived.Test.YtjnnkcnnandeeaaWMeet
namespace Go.Proofs.Ytjnnkcnnandeeaa
open Go.RowKit
/-- The depths that a format may have. -/
def deepB (d : Int) : Bool := decide (d = 1 ∨ d = 2 ∨ d = 4 ∨ d = 8 ∨ d = 16)
def sameB (f : Fmt) (i j : Nat) : Bool := (f.channels.getD j default).name.toList == (f.channels.getD i default).name.toList
/-- The error of a channel of a format. -/
def chanErr (f : Fmt) (i : Nat) : Int :=
  let c := f.channels.getD i default
  if nameB c.name = false then 6
  else if anyB (sameB f i) i = true then 5
  else if outB c.word 0 (f.words - 1) = true ∨ c.every < 1 ∨ f.depth % c.every ≠ 0 ∨ outB c.phase 0 (c.every - 1) = true then 7
  else if anyB (fun j => meetB c (f.channels.getD j default)) i = true then 2
  else 0
def firstBad (f : Fmt) : Int := firstIdx (fun i => chanErr f i != 0) f.channels.length
/-- The part, the index in it and the error of a format. -/
def chk (f : Fmt) : Int × Int × Int :=
  if outB f.sync.size 1 4 = true ∨ 12 < f.channels.length then (1, 0, 3)
  else if outB f.words 1 32 = true ∨ outB f.depth 1 16 = true ∨ deepB f.depth = false then (1, 0, 7)
  else if firstBad f < 0 then (0, 0, 0)
  else (2, firstBad f, chanErr f (firstBad f).toNat)
theorem deep_bits (d : Int) (h1 : 1 ≤ d) (h2 : d ≤ 16) : (bits .and .i64 d (d - 1) != 0) = !deepB d := by
  rcases (by omega : d = 1 ∨ d = 2 ∨ d = 3 ∨ d = 4 ∨ d = 5 ∨ d = 6 ∨ d = 7 ∨ d = 8 ∨ d = 9 ∨ d = 10 ∨ d = 11 ∨ d = 12 ∨ d = 13 ∨ d = 14 ∨ d = 15 ∨ d = 16) with
    h | h | h | h | h | h | h | h | h | h | h | h | h | h | h | h <;> subst h <;> decide
theorem chk_1 {f : Fmt} (h : outB f.sync.size 1 4 = true ∨ 12 < f.channels.length) : chk f = (1, 0, 3) := by unfold chk; rw [if_pos h]
theorem chk_2 {f : Fmt} (h0 : outB f.sync.size 1 4 = false) (h1 : ¬ 12 < f.channels.length) (h : outB f.words 1 32 = true ∨ outB f.depth 1 16 = true ∨ deepB f.depth = false) : chk f = (1, 0, 7) := by
  unfold chk; rw [if_neg (by simp [h0]; omega), if_pos h]
theorem chk_3 {f : Fmt} (h0 : outB f.sync.size 1 4 = false) (h1 : ¬ 12 < f.channels.length) (h2 : outB f.words 1 32 = false) (h3 : outB f.depth 1 16 = false) (h4 : deepB f.depth = true)
    {k : Nat} (hk : k < f.channels.length) (hs : ∀ j, j < k → chanErr f j = 0) (hne : chanErr f k ≠ 0) : chk f = (2, (k : Int), chanErr f k) := by
  have hf : firstBad f = k := firstIdx_some (fun j hj => by simp [hs j hj]) hk (by simp [hne])
  unfold chk; rw [if_neg (by simp [h0]; omega), if_neg (by simp [h2, h3, h4]), hf, if_neg (by omega), Int.toNat_natCast]
theorem chk_0 {f : Fmt} (h0 : outB f.sync.size 1 4 = false) (h1 : ¬ 12 < f.channels.length) (h2 : outB f.words 1 32 = false) (h3 : outB f.depth 1 16 = false) (h4 : deepB f.depth = true)
    (hs : ∀ j, j < f.channels.length → chanErr f j = 0) : chk f = (0, 0, 0) := by
  have hf : firstBad f = -1 := firstIdx_none (fun j hj => by simp [hs j hj])
  unfold chk; rw [if_neg (by simp [h0]; omega), if_neg (by simp [h2, h3, h4]), hf, if_pos (by omega)]
theorem chanErr_ok {f : Fmt} {i : Nat} (h : chanErr f i = 0) : nameB (f.channels.getD i default).name = true ∧ anyB (sameB f i) i = false ∧ outB (f.channels.getD i default).word 0 (f.words - 1) = false ∧ 1 ≤ (f.channels.getD i default).every ∧
    f.depth % (f.channels.getD i default).every = 0 ∧ outB (f.channels.getD i default).phase 0 ((f.channels.getD i default).every - 1) = false ∧ anyB (fun j => meetB (f.channels.getD i default) (f.channels.getD j default)) i = false := by
  unfold chanErr at h
  dsimp only at h
  by_cases c1 : nameB (f.channels.getD i default).name = false
  · rw [if_pos c1] at h; omega
  rw [if_neg c1] at h
  by_cases c2 : anyB (sameB f i) i = true
  · rw [if_pos c2] at h; omega
  rw [if_neg c2] at h
  by_cases c3 : outB (f.channels.getD i default).word 0 (f.words - 1) = true ∨ (f.channels.getD i default).every < 1 ∨ f.depth % (f.channels.getD i default).every ≠ 0 ∨ outB (f.channels.getD i default).phase 0 ((f.channels.getD i default).every - 1) = true
  · rw [if_pos c3] at h; omega
  rw [if_neg c3] at h
  by_cases c4 : anyB (fun j => meetB (f.channels.getD i default) (f.channels.getD j default)) i = true
  · rw [if_pos c4] at h; omega
  simp only [not_or] at c3
  obtain ⟨d1, d2, d3, d4⟩ := c3
  exact ⟨by simpa using c1, by simpa using c2, by simpa using d1, by omega, by omega, by simpa using d4, by simpa using c4⟩
theorem take_getD (l : List Chan) (k j : Nat) (h : j < k) : (l.take k).getD j default = l.getD j default := by
  simp only [List.getD_eq_getElem?_getD, List.getElem?_take, if_pos h]
theorem chanErr_eq {f : Fmt} {i : Nat} {c : Chan} (hc : f.channels.getD i default = c) : chanErr f i =
    if nameB c.name = false then 6
    else if anyB (sameB f i) i = true then 5
    else if outB c.word 0 (f.words - 1) = true ∨ c.every < 1 ∨ f.depth % c.every ≠ 0 ∨ outB c.phase 0 (c.every - 1) = true then 7
    else if anyB (fun j => meetB c (f.channels.getD j default)) i = true then 2
    else 0 := by unfold chanErr; rw [hc]
theorem chanErr_6 {f : Fmt} {i : Nat} {c : Chan} (hc : f.channels.getD i default = c) (h : nameB c.name = false) : chanErr f i = 6 := by
  rw [chanErr_eq hc, if_pos h]
theorem chanErr_5 {f : Fmt} {i : Nat} {c : Chan} (hc : f.channels.getD i default = c) (h : nameB c.name = true) (h2 : anyB (sameB f i) i = true) : chanErr f i = 5 := by
  rw [chanErr_eq hc, if_neg (by rw [h]; decide), if_pos h2]
theorem chanErr_7 {f : Fmt} {i : Nat} {c : Chan} (hc : f.channels.getD i default = c) (h : nameB c.name = true) (h2 : anyB (sameB f i) i = false)
    (h3 : outB c.word 0 (f.words - 1) = true ∨ c.every < 1 ∨ f.depth % c.every ≠ 0 ∨ outB c.phase 0 (c.every - 1) = true) : chanErr f i = 7 := by
  rw [chanErr_eq hc, if_neg (by rw [h]; decide), if_neg (by rw [h2]; decide), if_pos h3]
theorem chanErr_no7 {f : Fmt} {c : Chan} (h3 : outB c.word 0 (f.words - 1) = false) (h4 : 1 ≤ c.every) (h5 : f.depth % c.every = 0) (h6 : outB c.phase 0 (c.every - 1) = false) :
    ¬ (outB c.word 0 (f.words - 1) = true ∨ c.every < 1 ∨ f.depth % c.every ≠ 0 ∨ outB c.phase 0 (c.every - 1) = true) := by
  rintro (h | h | h | h)
  · rw [h3] at h; cases h
  · omega
  · exact h h5
  · rw [h6] at h; cases h
theorem chanErr_2 {f : Fmt} {i : Nat} {c : Chan} (hc : f.channels.getD i default = c) (h : nameB c.name = true) (h2 : anyB (sameB f i) i = false)
    (h3 : outB c.word 0 (f.words - 1) = false) (h4 : 1 ≤ c.every) (h5 : f.depth % c.every = 0) (h6 : outB c.phase 0 (c.every - 1) = false) (h7 : anyB (fun j => meetB c (f.channels.getD j default)) i = true) : chanErr f i = 2 := by
  rw [chanErr_eq hc, if_neg (by rw [h]; decide), if_neg (by rw [h2]; decide), if_neg (chanErr_no7 h3 h4 h5 h6), if_pos h7]
theorem chanErr_0 {f : Fmt} {i : Nat} {c : Chan} (hc : f.channels.getD i default = c) (h : nameB c.name = true) (h2 : anyB (sameB f i) i = false)
    (h3 : outB c.word 0 (f.words - 1) = false) (h4 : 1 ≤ c.every) (h5 : f.depth % c.every = 0) (h6 : outB c.phase 0 (c.every - 1) = false) (h7 : anyB (fun j => meetB c (f.channels.getD j default)) i = false) : chanErr f i = 0 := by
  rw [chanErr_eq hc, if_neg (by rw [h]; decide), if_neg (by rw [h2]; decide), if_neg (chanErr_no7 h3 h4 h5 h6), if_neg (by rw [h7]; decide)]
theorem every_le {d ev : Int} (h : 1 ≤ d) (hm : d % ev = 0) : ev ≤ d := Int.le_of_dvd (by omega) (Int.dvd_of_emod_eq_zero hm)
set_option maxRecDepth 100000 in
set_option maxHeartbeats 2000000 in
/-- frame.Check -/
theorem check_any (v : Value) (f : Fmt) (w : World) (hv : FmtV w v f) :
    Calls Try.prog 38 #[v] w fun e w' => e = .returned (.tuple #[.int .i64 (chk f).1, .int .i64 (chk f).2.1, .int .i64 (chk f).2.2]) ∧ Ext w w' := by
  obtain ⟨hs, hn, A, cap, rfl, hcap, hmax, hrow⟩ := hv
  have hm : cap ≤ 9223372036854775807 := by simpa [maxLen] using hmax
  clear hmax
  go_enter Try.func38, Try.ntmps38
  go_wp2_with fail
  refine (out_any _ _ _ _).mono ?_
  rintro e w1 ⟨rfl, rfl⟩
  cases h1 : outB f.sync.size 1 4 with
  | true =>
    go_wp2_with fail
    go_ret3
    exact ⟨by rw [chk_1 (.inl h1)]; rfl, (Ext.refl _).alloc _⟩
  | false =>
    by_cases h2 : 12 < f.channels.length
    · have hd : decide ((12 : Int) < (f.channels.length : Nat)) = true := by simp; omega
      go_wp2_with fail
      go_ret3
      exact ⟨by rw [chk_1 (.inr h2)]; rfl, (Ext.refl _).alloc _⟩
    · have hd : decide ((12 : Int) < (f.channels.length : Nat)) = false := by simp; omega
      go_wp2_with fail
      refine (out_any _ _ _ _).mono ?_
      rintro e w1 ⟨rfl, rfl⟩
      cases h3 : outB f.words 1 32 with
      | true =>
        go_wp2_with fail
        go_ret3
        exact ⟨by rw [chk_2 h1 h2 (.inl h3)]; rfl, (Ext.refl _).alloc _⟩
      | false =>
        go_wp2_with fail
        refine (out_any _ _ _ _).mono ?_
        rintro e w1 ⟨rfl, rfl⟩
        cases h4 : outB f.depth 1 16 with
        | true =>
          go_wp2_with fail
          go_ret3
          exact ⟨by rw [chk_2 h1 h2 (.inr (.inl h4))]; rfl, (Ext.refl _).alloc _⟩
        | false =>
          have hdp := deep_bits f.depth (outB_f.1 h4).1 (outB_f.1 h4).2
          have hdp1 := (outB_f.1 h4).1
          have hdp2 := (outB_f.1 h4).2
          cases h5 : deepB f.depth with
          | false =>
            rw [h5] at hdp
            go_wp2_with fail
            go_ret3
            exact ⟨by rw [chk_2 h1 h2 (.inr (.inr h5))]; rfl, (Ext.refl _).alloc _⟩
          | true =>
            rw [h5] at hdp
            have hw1 := (outB_f.1 h3).1
            have hw2 := (outB_f.1 h3).2
            have H1 := hide h1
            have H2 := hide h2
            have H3 := hide h3
            have H4 := hide h4
            have H5 := hide h5
            clear h1 h2 h3 h4 h5
            go_wp2_with fail
            clear hdp hd
            go_loopw [40] (fun i wr => Ext w wr ∧ wr.cell? ⟨w.heap.size, 1, none⟩ = some (.int .i64 f.words) ∧ wr.cell? ⟨w.heap.size, 2, none⟩ = some (.int .i64 f.depth) ∧ wr.cell? ⟨w.heap.size, 3, none⟩ = some (.slice A f.channels.length cap) ∧
              w.heap.size < wr.heap.size ∧ ∃ k : Nat, k ≤ f.channels.length ∧ i = .int .i64 k ∧ ∀ j, j < k → chanErr f j = 0) (fun i _ => f.channels.length - (intOf i).toNat)
            case atStart => exact ⟨(Ext.refl _).alloc _, by simp, by simp, by simp, by simp, 0, by omega, rfl, fun j hj => absurd hj (by omega)⟩
            case round =>
              obtain ⟨hext, hb1, hb2, hb3, hlt, k, hk, rfl, hsame⟩ := hrel
              have HS := hide hsame
              clear hsame
              by_cases h8 : k < f.channels.length
              · obtain ⟨b, off, nm, wd, ev, ph, rfl, hbl, hck0, hck1, hck2, hck3, HX⟩ := chans_at (hrow.ext hext) h8
                have hnm : nm.size ≤ 9223372036854775807 := by
                  have := hn (f.channels.getD k default) (by rw [List.getD_eq_getElem?_getD, List.getElem?_eq_getElem h8]; exact List.getElem_mem _)
                  rw [HX.out] at this; exact this
                have HR := hide hrow
                have HN := hide hn
                clear hrow hn
                go_wp2_with fail
                refine (name_any _ _ hnm).mono ?_
                rintro e w2 ⟨rfl, hx2⟩
                have hE : Ext wr w2 := ((Ext.refl wr).alloc _).trans hx2
                have hg0 : w2.cell? ⟨wr.heap.size, 0, none⟩ = some (.string nm) := hx2.cell (by simp)
                have hg1 : w2.cell? ⟨wr.heap.size, 1, none⟩ = some (.int .i64 wd) := hx2.cell (by simp)
                have hg2 : w2.cell? ⟨wr.heap.size, 2, none⟩ = some (.int .i64 ev) := hx2.cell (by simp)
                have hg3 : w2.cell? ⟨wr.heap.size, 3, none⟩ = some (.int .i64 ph) := hx2.cell (by simp)
                have hb1' := hE.cell hb1
                have hb2' := hE.cell hb2
                have hb3' := hE.cell hb3
                have hlt' : w.heap.size < w2.heap.size := Nat.lt_of_lt_of_le hlt hE.size
                have hext' := hext.trans hE
                have hlen : (f.channels.take k).length = k := by rw [List.length_take]; omega
                clear hx2 hE hb1 hb2 hb3 hck0 hck1 hck2 hck3 hlt hbl
                generalize wr.heap.size = G at *
                cases hn1 : nameB nm with
                | false =>
                  have he := chanErr_6 HX.out hn1
                  have HE := hide he
                  clear he
                  go_wp2_with fail
                  go_ret3
                  exact ⟨by rw [chk_3 H1.out H2.out H3.out H4.out H5.out h8 HS.out (by rw [HE.out]; decide), HE.out]; rfl, hext'⟩
                | true =>
                  have hp1 : Tells w2 76 #[.pointer (some ⟨G, 0, none⟩)] (fun j => ((f.channels.take k).getD j default).val) (f.channels.take k).length (sameB f k) := fun j w3 hj hx3 => by
                    rw [hlen] at hj
                    dsimp only
                    rw [take_getD _ _ _ hj]
                    have hs := same_any (f.channels.getD j default) nm G w3 (hx3.cell hg0)
                    have e1 : sameB f k j = ((f.channels.getD j default).name.toList == nm.toList) := by unfold sameB; rw [HX.out]
                    rw [e1]
                    exact hs
                  have hc1 := containsFunc_chan 76 #[.pointer (some ⟨G, 0, none⟩)] (enters_of Try.func76 (by kernel_rfl) rfl) _ (f.channels.take k) (sameB f k) w2 hp1
                    ⟨some ⟨b, off, none⟩, cap, rfl, by omega, by simp [maxLen]; omega, ChansV.take (HR.out.ext hext') (by omega)⟩
                  rw [hlen] at hc1
                  have HC1 := hide hc1
                  have HL := hide hlen
                  clear hc1 hp1 hlen
                  have HN1 := hide hn1
                  go_wp2_with fail
                  refine Calls.mono HC1.out ?_
                  rintro e w3 ⟨rfl, hx3⟩
                  clear hn1
                  have hg0' := hx3.cell hg0
                  have hg1' := hx3.cell hg1
                  have hg2' := hx3.cell hg2
                  have hg3' := hx3.cell hg3
                  have hb1 := hx3.cell hb1'
                  have hb2 := hx3.cell hb2'
                  have hb3 := hx3.cell hb3'
                  have hlt := Nat.lt_of_lt_of_le hlt' hx3.size
                  have hext := hext'.trans hx3
                  clear hg0 hg1 hg2 hg3 hb1' hb2' hb3' hlt' hx3 HC1 hext'
                  cases hn2 : anyB (sameB f k) k with
                  | true =>
                    have he := chanErr_5 HX.out HN1.out hn2
                    have HE := hide he
                    clear he
                    go_wp2_with fail
                    go_ret3
                    exact ⟨by rw [chk_3 H1.out H2.out H3.out H4.out H5.out h8 HS.out (by rw [HE.out]; decide), HE.out]; rfl, hext⟩
                  | false =>
                    have HN2 := hide hn2
                    go_wp2_with fail
                    clear hn2
                    refine (out_any _ _ _ _).mono ?_
                    rintro e w4 ⟨rfl, rfl⟩
                    cases hn3 : outB wd 0 (f.words - 1) with
                    | true =>
                      have he := chanErr_7 HX.out HN1.out HN2.out (.inl hn3)
                      have HE := hide he
                      clear he
                      go_wp2_with fail
                      go_ret3
                      exact ⟨by rw [chk_3 H1.out H2.out H3.out H4.out H5.out h8 HS.out (by rw [HE.out]; decide), HE.out]; rfl, hext⟩
                    | false =>
                      have HN3 := hide hn3
                      by_cases hev : ev < 1
                      · have hd1 : decide (ev < 1) = true := by simpa using hev
                        have he := chanErr_7 HX.out HN1.out HN2.out (.inr (.inl hev))
                        have HE := hide he
                        clear he
                        go_wp2_with fail
                        go_ret3
                        exact ⟨by rw [chk_3 H1.out H2.out H3.out H4.out H5.out h8 HS.out (by rw [HE.out]; decide), HE.out]; rfl, hext⟩
                      · have hd1 : decide (ev < 1) = false := by simpa using hev
                        have hev1 : 1 ≤ ev := by omega
                        by_cases hm0 : f.depth % ev = 0
                        · have hevd := every_le hdp1 hm0
                          have hd2 : (f.depth % ev != 0) = false := by simp [hm0]
                          have HM0 := hide hm0
                          clear hm0
                          go_wp2_with fail
                          refine (out_any _ _ _ _).mono ?_
                          rintro e w5 ⟨rfl, rfl⟩
                          cases hn4 : outB ph 0 (ev - 1) with
                          | true =>
                            have he := chanErr_7 HX.out HN1.out HN2.out (.inr (.inr (.inr hn4)))
                            have HE := hide he
                            clear he
                            go_wp2_with fail
                            go_ret3
                            exact ⟨by rw [chk_3 H1.out H2.out H3.out H4.out H5.out h8 HS.out (by rw [HE.out]; decide), HE.out]; rfl, hext⟩
                          | false =>
                            have HN4 := hide hn4
                            go_wp2_with fail
                            have hp2 : Tells w3 77 #[.pointer (some ⟨G, 0, none⟩)] (fun j => ((f.channels.take k).getD j default).val) (f.channels.take k).length (fun j => meetB ⟨nm, wd, ev, ph⟩ (f.channels.getD j default)) := fun j w6 hj hx6 => by
                              rw [HL.out] at hj
                              dsimp only
                              rw [take_getD _ _ _ hj]
                              have ho := chanErr_ok (HS.out j hj)
                              exact meets_any ⟨nm, wd, ev, ph⟩ (f.channels.getD j default) G w6 hev1 (outB_f.1 HN4.out).1 ho.2.2.2.1 (outB_f.1 ho.2.2.2.2.2.1).1 (hx6.cell hg0') (hx6.cell hg1') (hx6.cell hg2') (hx6.cell hg3')
                            have hc2 := containsFunc_chan 77 #[.pointer (some ⟨G, 0, none⟩)] (enters_of Try.func77 (by kernel_rfl) rfl) _ (f.channels.take k) (fun j => meetB ⟨nm, wd, ev, ph⟩ (f.channels.getD j default)) w3 hp2
                              ⟨some ⟨b, off, none⟩, cap, rfl, by rw [HL.out]; omega, by simp [maxLen]; omega, ChansV.take (HR.out.ext hext) (by omega)⟩
                            rw [HL.out] at hc2
                            have HC2 := hide hc2
                            clear hc2 hp2
                            go_wp2_with fail
                            refine Calls.mono HC2.out ?_
                            rintro e w6 ⟨rfl, hx6⟩
                            clear hn4 HC2
                            cases hn5 : anyB (fun j => meetB ⟨nm, wd, ev, ph⟩ (f.channels.getD j default)) k with
                            | true =>
                              have he := chanErr_2 HX.out HN1.out HN2.out HN3.out hev1 HM0.out HN4.out hn5
                              have HE := hide he
                              clear he hn5
                              go_wp2_with fail
                              go_ret3
                              exact ⟨by rw [chk_3 H1.out H2.out H3.out H4.out H5.out h8 HS.out (by rw [HE.out]; decide), HE.out]; rfl, hext.trans hx6⟩
                            | false =>
                              have he := chanErr_0 HX.out HN1.out HN2.out HN3.out hev1 HM0.out HN4.out hn5
                              have HE := hide he
                              clear he hn5
                              go_wp2_with fail
                              go_roundw
                              case rel =>
                                refine ⟨hext.trans hx6, hx6.cell hb1, hx6.cell hb2, hx6.cell hb3, Nat.lt_of_lt_of_le hlt hx6.size, k + 1, by omega, by go_num, fun j hj => ?_⟩
                                by_cases hjk : j = k
                                · rw [hjk]; exact HE.out
                                · exact HS.out j (by omega)
                              case measure => simp [intOf]; omega
                        · have hd2 : (f.depth % ev != 0) = true := by simp [hm0]
                          have he := chanErr_7 HX.out HN1.out HN2.out (.inr (.inr (.inl hm0)))
                          have HE := hide he
                          clear he
                          go_wp2_with fail
                          go_ret3
                          exact ⟨by rw [chk_3 H1.out H2.out H3.out H4.out H5.out h8 HS.out (by rw [HE.out]; decide), HE.out]; rfl, hext⟩
              · obtain rfl : k = f.channels.length := by omega
                go_wp2_with fail
                go_ret3
                exact ⟨by rw [chk_0 H1.out H2.out H3.out H4.out H5.out HS.out]; rfl, hext⟩
end Go.Proofs.Ytjnnkcnnandeeaa
