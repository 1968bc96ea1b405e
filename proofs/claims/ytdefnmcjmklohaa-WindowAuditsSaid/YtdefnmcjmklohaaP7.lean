/- Sorted lists: the order is total, so a list of teams is sorted in one way alone. -/
import Derived.Test.YtdefnmcjmklohaaPList
open Go Go.Proofs.Ytdefnmcjmklohaa.Sh Go.Proofs
namespace Go.Proofs.Ytdefnmcjmklohaa
set_option linter.unusedVariables false
set_option linter.unusedSimpArgs false
structure Tot (lt : Int → Int → Bool) : Prop where
 asym : ∀ a b, lt a b = true → lt b a = false
 trans : ∀ a b c, lt a b = true → lt b c = true → lt a c = true
 total : ∀ a b, a ≠ b → lt a b = false → lt b a = true
theorem Tot.irr {lt : Int → Int → Bool} (h : Tot lt) (a : Int) : lt a a = false := by
 cases h1 : lt a a with
 | false => rfl
 | true => have := h.asym a a h1; rw [h1] at this; cases this
theorem firstV_asym {p q c d u v l m a b : Int} (h : firstV p q c d u v l m a b = true) : firstV q p d c v u m l b a = false := by
 unfold firstV at h ⊢
 by_cases h1 : p = q
 ·by_cases h2 : c = d
  ·by_cases h3 : u = v
   ·by_cases h4 : l = m
    ·subst h1 h2 h3 h4; simp at h ⊢; omega
    ·subst h1 h2 h3; simp [h4, Ne.symm h4] at h ⊢; omega
   ·subst h1 h2; simp [h3, Ne.symm h3] at h ⊢; omega
  ·subst h1; simp [h2, Ne.symm h2] at h ⊢; omega
 ·simp [h1, Ne.symm h1] at h ⊢; omega
theorem firstV_iff {p q c d u v l m a b : Int} : firstV p q c d u v l m a b = true ↔ q < p ∨ (p = q ∧ (d < c ∨ (c = d ∧ (u < v ∨ (u = v ∧ (l < m ∨ (l = m ∧ a < b))))))) := by
 unfold firstV
 by_cases h1 : p = q
 ·by_cases h2 : c = d
  ·by_cases h3 : u = v
   ·by_cases h4 : l = m
    ·simp [h1, h2, h3, h4]
    ·simp [h1, h2, h3, h4]
   ·simp [h1, h2, h3]
  ·simp [h1, h2]
 ·simp [h1]
theorem firstL_tot (ts : List WiTeam) (us cr la : List Int) : Tot (firstL ts us cr la) where
 asym a b h := firstV_asym h
 trans a b c h1 h2 := by
  unfold firstL at h1 h2 ⊢
  rw [firstV_iff] at h1 h2 ⊢
  omega
 total a b hab h := by
  have h' : ¬ firstL ts us cr la a b = true := by rw [h]; simp
  unfold firstL at h' ⊢
  rw [firstV_iff] at h' ⊢
  omega
theorem insR_sorted {lt : Int → Int → Bool} (ht : Tot lt) {x : Int} : ∀ {r : List Int}, r.Pairwise (fun y z => lt z y = true) → x ∉ r → (insR lt x r).Pairwise (fun y z => lt z y = true)
 | [], _, _ => by simp [insR]
 | y :: r, h, hx => by
  rw [List.pairwise_cons] at h
  simp only [List.mem_cons, not_or] at hx
  rw [insR]
  by_cases hc : lt x y = true
  ·rw [if_pos hc, List.pairwise_cons]
   refine ⟨fun z hz => ?_, insR_sorted ht h.2 hx.2⟩
   rcases insR_mem.1 hz with rfl | hz
   ·exact hc
   ·exact h.1 z hz
  ·rw [if_neg hc, List.pairwise_cons, List.pairwise_cons]
   have hyx : lt y x = true := ht.total x y hx.1 (by simpa using hc)
   refine ⟨fun z hz => ?_, h⟩
   rcases List.mem_cons.1 hz with rfl | hz
   ·exact hyx
   ·exact ht.trans z y x (h.1 z hz) hyx
theorem sortR_sorted {lt : Int → Int → Bool} (ht : Tot lt) : ∀ {l acc : List Int}, acc.Pairwise (fun y z => lt z y = true) → l.Nodup → (∀ v ∈ l, v ∉ acc) → (sortR lt acc l).Pairwise (fun y z => lt z y = true)
 | [], acc, h, _, _ => h
 | x :: l, acc, h, hn, hd => by
  rw [List.nodup_cons] at hn
  rw [sortR]
  refine sortR_sorted ht (insR_sorted ht h (hd x (by simp))) hn.2 fun v hv hm => ?_
  rcases insR_mem.1 hm with rfl | hm
  ·exact hn.1 hv
  ·exact hd v (by simp [hv]) hm
theorem sortP_sorted {lt : Int → Int → Bool} (ht : Tot lt) {l : List Int} (hn : l.Nodup) : (sortP lt l).Pairwise (fun y z => lt y z = true) := by
 rw [sortP, List.pairwise_reverse]
 exact sortR_sorted ht List.Pairwise.nil hn (by simp)
theorem sorted_unique {lt : Int → Int → Bool} (ht : Tot lt) : ∀ {l m : List Int}, l.Pairwise (fun y z => lt y z = true) → m.Pairwise (fun y z => lt y z = true) → (∀ v, v ∈ l ↔ v ∈ m) → l = m
 | [], m, _, _, h => by
  cases m with
  | nil => rfl
  | cons b m => have := (h b).2 (by simp); cases this
 | a :: l, m, hl, hm, h => by
  cases m with
  | nil => have := (h a).1 (by simp); cases this
  | cons b m =>
   rw [List.pairwise_cons] at hl hm
   have hab : a = b := by
    by_cases hab : a = b
    ·exact hab
    ·exfalso
     have h1 : a ∈ m := by have := (h a).1 (by simp); simp only [List.mem_cons] at this; exact this.resolve_left hab
     have h2 : b ∈ l := by have := (h b).2 (by simp); simp only [List.mem_cons] at this; exact this.resolve_left (fun e => hab e.symm)
     have h3 := hm.1 a h1
     have h4 := ht.asym _ _ (hl.1 b h2)
     rw [h3] at h4
     cases h4
   subst hab
   congr 1
   refine sorted_unique ht hl.2 hm.2 fun v => ?_
   have hv := h v
   simp only [List.mem_cons] at hv
   constructor
   ·intro hvl
    rcases hv.1 (.inr hvl) with rfl | h5
    ·have := hl.1 v hvl; rw [ht.irr] at this; cases this
    ·exact h5
   ·intro hvm
    rcases hv.2 (.inr hvm) with rfl | h5
    ·have := hm.1 v hvm; rw [ht.irr] at this; cases this
    ·exact h5
theorem pick_nodup (c : Nat → Bool) : ∀ (m k : Nat), (pickFrom c m k).Nodup
 | 0, k => by simp [pickFrom]
 | m + 1, k => by
  have ih := pick_nodup c m (k + 1)
  rw [pickFrom]
  split
  ·rw [List.nodup_cons]
   refine ⟨fun h => ?_, ih⟩
   obtain ⟨j, h1, h2, _⟩ := pick_mem.1 h
   omega
  ·exact ih
theorem firstS_tot (p : WiPlan) (s : WiState) : Tot (firstS p s) := firstL_tot _ _ _ _
theorem rightsS_sorted (p : WiPlan) (s : WiState) (sky : WiSky) (m : Int) (done : List Int) : (rightsS p s sky m done).Pairwise (fun y z => firstS p s y z = true) := sortP_sorted (firstL_tot _ _ _ _) (pick_nodup _ _ _)
/-- Behind the turn of the first one, the others are in order as before. -/
theorem rights_tail {p : WiPlan} {s : WiState} {sky : WiSky} {m : Int} {done l : List Int} {t : Int} (h : rightsS p s sky m done = t :: l) : rightsS p s sky m (done ++ [t]) = l := by
 have hs := rightsS_sorted p s sky m done
 have hm := fun v => rightsS_mem (p := p) (s := s) (sky := sky) (m := m) (done := done) (v := v)
 rw [h] at hs hm
 rw [List.pairwise_cons] at hs
 refine sorted_unique (firstS_tot p s) (rightsS_sorted p s sky m _) hs.2 fun v => ?_
 rw [rightsS_mem]
 have hv := hm v
 rw [List.mem_cons] at hv
 have happ : ∀ k : Nat, canS p s sky m (done ++ [t]) k = (canS p s sky m done k && !decide ((k : Int) = t)) := fun k => by
  unfold canS hasP
  rw [List.any_append]
  cases done.any fun x => decide ((k : Int) = x) <;> simp [Bool.and_comm]
 constructor
 ·rintro ⟨k, h1, h2, h3⟩
  rw [happ, Bool.and_eq_true] at h3
  have h4 : ¬ (k : Int) = t := by simpa using h3.2
  exact (hv.2 ⟨k, h1, h2, h3.1⟩).resolve_left (by rw [h1]; exact h4)
 ·intro hvl
  obtain ⟨k, h1, h2, h3⟩ := hv.1 (.inr hvl)
  refine ⟨k, h1, h2, ?_⟩
  rw [happ, h3]
  have : v ≠ t := fun e => by have := hs.1 v hvl; rw [e, (firstS_tot p s).irr] at this; cases this
  rw [h1] at this
  simp [this]
end Go.Proofs.Ytdefnmcjmklohaa
