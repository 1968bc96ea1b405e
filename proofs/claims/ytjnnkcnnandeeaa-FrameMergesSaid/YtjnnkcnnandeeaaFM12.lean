/- Both Merges hand back the same. -/
import Derived.Test.YtjnnkcnnandeeaaFX1
set_option linter.unusedVariables false
set_option linter.unusedSimpArgs false
open Go Go.Proofs.Ytjnnkcnnandeeaa.Sh Go.Proofs
namespace Go.Proofs.Ytjnnkcnnandeeaa.Fm
section
variable {F : Nat} {t : FrFormat} {T : List FrReport}
theorem mk_num {m : List FrReport} {i : Nat} : (mkAt m i).number = (gD m i).number := rfl
theorem srt_le {m : List FrReport} (h : Srt T m) {i j : Nat} (hij : i ≤ j) (hj : j < m.length) : (gD m i).number ≤ (gD m j).number := by
 by_cases e : i = j
 ·subst e; exact Int.le_refl _
 ·have := h.lt i j (by omega) hj (by omega)
  rw [rpLt_iff'] at this
  rw [gD_eq (by omega), gD_eq hj]
  omega
theorem fst_iff {m : List FrReport} {i : Nat} (hi : i < m.length) : fst? (mkL m) i = true ↔ i = 0 ∨ (gD m i).number ≠ (gD m (i - 1)).number := by
 unfold fst?
 rw [mkL_get hi, mkL_get (by omega), mk_num, mk_num]
 simp
theorem out_mem {m : List FrReport} {r : FrReport} (h : r ∈ cpI (mkL m) m.length) : ∃ i, i < m.length ∧ (i = 0 ∨ (gD m i).number ≠ (gD m (i - 1)).number) ∧ r = mkAt m i := by
 unfold cpI at h
 obtain ⟨i, hi, rfl⟩ := List.mem_map.1 h
 rw [List.mem_filter, List.mem_range] at hi
 exact ⟨i, hi.1, (fst_iff hi.1).1 hi.2, mkL_get hi.1⟩
theorem first_le {m : List FrReport} (h : Srt T m) {i j : Nat} (hi : i < m.length) (hj : j < m.length) (hf : i = 0 ∨ (gD m i).number ≠ (gD m (i - 1)).number) (e : (gD m j).number = (gD m i).number) : i ≤ j := by
 refine Classical.byContradiction fun hn => ?_
 have h1 := srt_le h (i := j) (j := i - 1) (by omega) (by omega)
 have h2 := srt_le h (i := i - 1) (j := i) (by omega) hi
 rcases hf with hf | hf
 ·omega
 ·exact hf (by omega)
theorem first_ex {m : List FrReport} : ∀ j, j < m.length → ∃ i, i ≤ j ∧ (gD m i).number = (gD m j).number ∧ (i = 0 ∨ (gD m i).number ≠ (gD m (i - 1)).number)
 | 0, _ => ⟨0, Nat.le_refl _, rfl, .inl rfl⟩
 | j + 1, hj => by
  by_cases c : (gD m (j + 1)).number = (gD m j).number
  ·obtain ⟨i, h1, h2, h3⟩ := first_ex (m := m) j (by omega)
   exact ⟨i, by omega, h2.trans c.symm, h3⟩
  ·exact ⟨j + 1, Nat.le_refl _, rfl, .inr c⟩
theorem cnt_key {x y : FrReport} (h1 : x.number = y.number) (h2 : x.words = y.words) : cnt T x = cnt T y := by unfold cnt sameK; rw [h1, h2]
theorem out_ok (hw : wN t ≤ 32) {i0 : Int} (ht : TOk t i0 T) {m : List FrReport} (h : Srt T m) : OutP T T (cpI (mkL m) m.length) := by
 have hin : ∀ y ∈ T, ∃ j, j < m.length ∧ ∃ z, firstK T z ∧ gD m j = B T z ∧ z.number = y.number ∧ z.words = y.words := fun y hy => by
  obtain ⟨r, hr, z, hz, e1, e2⟩ := h.c y hy
  obtain ⟨j, hj, e⟩ := List.getElem_of_mem hr
  have := (key_inj (ht.a z hz.1).2.2.2.1 (ht.a y hy).2.2.2.1 hw).1 e2
  exact ⟨j, hj, z, hz, by rw [gD_eq hj, e, e1], this.1, this.2⟩
 have hB : ∀ i, i < m.length → ∃ x, firstK T x ∧ gD m i = B T x := fun i hi => by
  obtain ⟨x, hx, e⟩ := h.mem _ (List.getElem_mem hi)
  exact ⟨x, hx, by rw [gD_eq hi]; exact e⟩
 have hsame : ∀ x z, firstK T x → firstK T z → x.number = z.number → x.words = z.words → x = z := fun x z hx hz e1 e2 => by
  have k := (key_inj (ht.a x hx.1).2.2.2.1 (ht.a z hz.1).2.2.2.1 hw).2 ⟨e1, e2⟩
  have h1 := hx.2 z hz.1 k.symm
  have h2 := hz.2 x hx.1 k
  exact ht.u x hx.1 z hz.1 e1 (by omega)
 refine ⟨?_, fun r hr => ?_, fun x hx => ?_⟩
 ·unfold cpI
  rw [List.pairwise_map]
  refine List.Pairwise.imp_of_mem (fun {i j} hi hj hij => ?_) (List.pairwise_lt_range.sublist List.filter_sublist)
  rw [List.mem_filter, List.mem_range] at hi hj
  rw [mkL_get hi.1, mkL_get hj.1, mk_num, mk_num]
  have h1 := srt_le h (i := i) (j := j - 1) (by omega) (by omega)
  have h2 := srt_le h (i := j - 1) (j := j) (by omega) hj.1
  rcases (fst_iff hj.1).1 hj.2 with h3 | h3
  ·omega
  ·omega
 ·obtain ⟨i, hi, hf, rfl⟩ := out_mem hr
  obtain ⟨x, hx, e⟩ := hB i hi
  have hnum : (gD m i).number = x.number := by rw [e]; rfl
  refine ⟨x, hx.1, ?_, fun y hy hyx => ?_⟩
  ·unfold mkAt full
   rw [e]
   have hmk : (decide (i + 1 < m.length) && decide ((gD m (i + 1)).number = (B T x).number)) = oth T x := by
    rw [Bool.eq_iff_iff, Bool.and_eq_true, decide_eq_true_iff, decide_eq_true_iff]
    unfold oth othK
    rw [List.any_eq_true]
    constructor
    ·rintro ⟨h1, h2⟩
     obtain ⟨z, hz, ez⟩ := hB (i + 1) h1
     rw [ez] at h2
     have h2 : z.number = x.number := h2
     refine ⟨z, hz.1, ?_⟩
     rw [Bool.and_eq_true, decide_eq_true_iff]
     refine ⟨h2, ?_⟩
     rw [Bool.not_eq_true', decide_eq_false_iff_not]
     intro hww
     have := hsame z x hz hx h2 hww
     have hl := h.lt i (i + 1) hi h1 (by omega)
     rw [← gD_eq hi, ← gD_eq h1, e, ez, this, rpLt_iff'] at hl
     omega
    ·rintro ⟨z, hz, h2⟩
     rw [Bool.and_eq_true, decide_eq_true_iff, Bool.not_eq_true', decide_eq_false_iff_not] at h2
     obtain ⟨j, hj, z0, hz0, ez, n1, n2⟩ := hin z hz
     have hjn : (gD m j).number = (gD m i).number := by rw [ez, hnum]; exact n1.trans h2.1
     have hij := first_le h hi hj hf hjn
     have hne : i ≠ j := fun e2 => by
      subst e2
      rw [e] at ez
      have : x.words = z0.words := by have := congrArg FrReport.words ez; exact this
      exact h2.2 (n2.symm.trans this.symm)
     have h3 : i + 1 < m.length := by omega
     refine ⟨h3, ?_⟩
     have h4 := srt_le h (i := i) (j := i + 1) (by omega) h3
     have h5 := srt_le h (i := i + 1) (j := j) (by omega) hj
     rw [e] at hjn h4
     show (gD m (i + 1)).number = (B T x).number
     omega
   rw [hmk]
   rfl
  ·obtain ⟨j, hj, y0, hy0, ey, n1, n2⟩ := hin y hy
   have hjn : (gD m j).number = (gD m i).number := by rw [ey, hnum]; exact n1.trans hyx
   have hij := first_le h hi hj hf hjn
   have hc := cnt_key (T := T) n1 n2
   have hyf := hy0.2 y hy ((key_inj (ht.a y hy).2.2.2.1 (ht.a y0 hy0.1).2.2.2.1 hw).2 ⟨n1.symm, n2.symm⟩)
   by_cases e2 : i = j
   ·subst e2
    rw [e] at ey
    have hwd : x.words = y0.words := by have := congrArg FrReport.words ey; exact this
    have := hsame x y0 hx hy0 (by omega) hwd
    subst this
    exact .inr ⟨hc.symm, hyf⟩
   ·have hl := h.lt i j hi hj (by omega)
    rw [← gD_eq hi, ← gD_eq hj, e, ey, rpLt_iff'] at hl
    rw [e, ey] at hjn
    have a1 : (B T x).agree = (cnt T x : Int) := rfl
    have a2 : (B T y0).agree = (cnt T y0 : Int) := rfl
    have a3 : (B T x).from_ = x.from_ := rfl
    have a4 : (B T y0).from_ = y0.from_ := rfl
    rw [a1, a2, a3, a4] at hl
    rw [← hc]
    omega
 ·obtain ⟨j, hj, z, hz, ez, n1, n2⟩ := hin x hx
  obtain ⟨i, h1, h2, h3⟩ := first_ex (m := m) j hj
  have hi : i < m.length := by omega
  refine ⟨mkAt m i, ?_, ?_⟩
  ·unfold cpI
   exact List.mem_map.2 ⟨i, List.mem_filter.2 ⟨List.mem_range.2 hi, (fst_iff hi).2 h3⟩, mkL_get hi⟩
  ·rw [mk_num, h2, ez]; exact n1
theorem same_L (hF : 100000 < F) {a : List FrReport} (hl : a.length ≤ 100000) (hw : ∀ x ∈ a, x.words.length ≤ 100) : ∀ n k : Nat, a.length < n + k → k ≤ a.length → r9_SameReports_L1 F a a (fun _ => some true) n k = some true := by
 intro n
 induction n with
 | zero => intro k h1 h2; omega
 | succ n ih =>
  intro k h1 h2
  rw [r9_SameReports_L1]
  by_cases hk : k < a.length
  ·rw [if_pos (by omega : (k : Int) < (a.length : Int)), ixO_nat hk]
   simp only [Option.bind_some, if_true]
   rw [if_neg (by simp), ints_eq (by have := hw _ (List.getElem_mem hk); omega) (by have := hw _ (List.getElem_mem hk); omega), decide_eq_true rfl]
   simp only [Option.bind_some, if_true]
   rw [W_succ (by omega)]
   exact ih (k + 1) (by omega) (by omega)
  ·rw [if_neg (by omega)]
theorem same_eq (hF : 100000 < F) {a : List FrReport} (hl : a.length ≤ 100000) (hF2 : a.length < F) (hw : ∀ x ∈ a, x.words.length ≤ 100) : r9_SameReports F a a = some true := by
 unfold r9_SameReports
 rw [if_pos rfl]
 exact same_L hF hl hw F 0 (by omega) (Nat.zero_le _)
theorem merge_both (hf : FmF F t) (hF : 100000 < F) (o : List FrTape) (hb : ∀ x ∈ o, ∀ c ∈ x.bytes, isByte c) : ∃ l e, frame_Merge F t o = some (l, e) ∧ r9_Merge F t o = some (l, e) ∧ l.length ≤ 100000 ∧ (∀ x ∈ l, x.words.length ≤ 100) := by
 obtain ⟨a, b, e, h1, h2, h3⟩ := check_both hf
 unfold frame_Merge r9_Merge
 rw [h1, h2]
 simp only [Option.bind_some]
 by_cases he : e = 0
 case neg =>
  rw [if_neg he, if_neg he, if_neg he]
  exact ⟨[], e, rfl, rfl, by simp, fun x h => (by cases h)⟩
 subst he
 have hv := h3 rfl
 have hw : wN t ≤ 32 := by have := hv.w; unfold wN; omega
 rw [if_pos rfl, if_pos rfl]
 by_cases ho : 4 < (o.length : Int)
 ·rw [if_pos ho, if_pos ho]
  exact ⟨[], 3, rfl, rfl, by simp, fun x h => (by cases h)⟩
 rw [if_neg ho, if_neg ho, if_pos rfl]
 obtain ⟨ht, hlen⟩ := all_ok (F := F) hv o 0 hb
 have hT : (allT t F 0 o).2.length ≤ 20000 := by omega
 have hA : AInv (foldA [] (allT t F 0 o).2) (allT t F 0 o).2 := by have := AInv.nil.fold (T := (allT t F 0 o).2); rwa [List.nil_append] at this
 have hAl := foldA_len (allT t F 0 o).2 []
 have hr := rm_L5 hv h2 hF (by omega) hb (K := fun (lv : (List FrReport)) (x : Int) => r9_Merge_L4 F lv (fun (lv3 : (List FrReport)) (x3 : Int) => some (lv3, 0)) F ([] : List FrReport) 0) F 0 [] (by omega) (Nat.zero_le _) (Nat.zero_le _)
 have hp := pm_L3 hv h1 hF (by omega) hb (K := fun (A : KL) => if A.length ≤ 1000000000 then (Option.bind (Option.bind (hrgO (frame_Merge_R F t) A) (srtO rpLt)) fun q3 => frame_Merge_L2 F (fun (rv5 : (List FrReport)) (x3 : Int) (x4 : Int) => Option.bind (slices_CompactFunc_FrReport_m_frame_Merge_2 F rv5) fun rv8 => Option.bind (lnO rv8.2.length rv5.length) fun u => Option.bind (preO rv8.1 rv8.2) fun q6 => some (q6, 0)) F q3 (q3.length : Int) 0) else none) F 0 0 [] [] (by omega) (Nat.zero_le _) AInv.nil (Nat.zero_le _)
 rw [show ((0 : Nat) : Int) = 0 from rfl, List.drop_zero] at hr hp
 rw [hr, hp]
 by_cases hz : (allT t F 0 o).1 = 0
 case neg =>
  rw [if_neg hz, if_neg hz]
  exact ⟨[], _, rfl, rfl, by simp, fun x h => (by cases h)⟩
 rw [if_pos hz, if_pos hz, List.nil_append]
 generalize (allT t F 0 o).2 = T at *
 have hwl : ∀ x ∈ T, x.words.length ≤ 100 := fun x hx => by have := (ht.a x hx).2.2.2.1; omega
 obtain ⟨out, k1, k2, k3⟩ := rm_L4 hF ht hT hwl F 0 [] (by omega) (Nat.zero_le _) (Nat.zero_le _) ⟨List.Pairwise.nil, fun r h => (by cases h), fun x h => (by cases h)⟩
 rw [show ((0 : Nat) : Int) = 0 from rfl] at k1
 have hAl' : (foldA [] T).length ≤ T.length := by simpa using hAl
 obtain ⟨m, s1, s2, s3⟩ := srt_ex hw ht hT hA hAl'
 have hR := hrg_all (R := frame_Merge_R F t) (f := base (wN t)) (foldA [] T) fun p hp => R_eq (F := F) hv ht hT hA hp
 have hm : m.length ≤ 100000 := by omega
 obtain ⟨w, c1, c2, c3⟩ := comp_eq (F := F) (q := mkL m) (by rw [mkL_len]; exact hm) hF
 rw [mkL_len] at c1 c2 c3
 have hout := out_ok hw ht s2
 have heq := hout.one ht k2
 refine ⟨out, 0, ?_, k1, by omega, fun x hx => ?_⟩
 ·rw [if_pos (by omega), hR]
  simp only [Option.bind_some]
  rw [s1]
  simp only [Option.bind_some]
  rw [mark_eq hm hF, c1]
  simp only [Option.bind_some]
  rw [show lnO w.length (mkL m).length = some () from if_pos (by rw [c2, mkL_len])]
  simp only [Option.bind_some]
  have hcl := cpI_len (mkL m) m.length
  rw [show preO (cpI (mkL m) m.length) w = some (cpI (mkL m) m.length) by unfold preO; rw [if_pos (by omega), c3]]
  simp only [Option.bind_some]
  rw [heq]
 ·obtain ⟨y, hy, rfl, _⟩ := k2.m x hx
  exact hwl y hy
theorem merges_any (hf : FmF F t) (hF : 100000 < F) (hA : hangfirelaw09_Awake F = some true) (o : List FrTape) (hb : ∀ x ∈ o, ∀ c ∈ x.bytes, isByte c) : hangfirelaw09_FrameMerges F t o = some true := by
 obtain ⟨l, e, h1, h2, h3, h4⟩ := merge_both hf hF o hb
 unfold hangfirelaw09_FrameMerges
 rw [h1, h2]
 simp only [Option.bind_some]
 rw [same_eq hF h3 (by omega) h4]
 simp only [Option.bind_some, if_true]
 rw [hA]
 rfl
end
end Go.Proofs.Ytjnnkcnnandeeaa.Fm
