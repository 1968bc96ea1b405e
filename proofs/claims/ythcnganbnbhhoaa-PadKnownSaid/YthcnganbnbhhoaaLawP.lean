/- What acts change, and what sound states are: in plain words, for the statements that stand outright. Sound states, what may be armed, who may move; runs of acts without those that are refused: in plain words. When a zone is near a squib, as the statements say it: in plain words. A lesser Clear, a greater area: in plain words. -/
import Derived.Test.YthcnganbnbhhoaaLawB
namespace Go.Proofs.Ythcnganbnbhhoaa
open Go.RowKit
section
variable {p : Pad} {s : State} {a : PAct}
/-- The parts of the state behind an act. -/
theorem kind_cases (ha : ActOk p a) : a.kind = 1 ∨ a.kind = 2 ∨ a.kind = 3 ∨ a.kind = 4 ∨ a.kind = 5 ∨ a.kind = 6 ∨ a.kind = 7 ∨ a.kind = 8 ∨ a.kind = 9 := by
 have := ha.kind; omega
theorem moves_holder (hs : StateOk p s) (ha : ActOk p a) (he : doneE p s a = 0) : (doneS p s a).holder.length = s.holder.length ∧
 ∀ i : Nat, (doneS p s a).holder.getD i 0 ≠ s.holder.getD i 0 → (s.holder.getD i 0 = -1 ∨ s.holder.getD i 0 = a.who) ∧ (i : Int) = a.what ∧ (a.kind = 2 ∨ a.kind = 3 ∨ a.kind = 4) := by
 obtain ⟨_, hk, hd⟩ := done_zero he
 rw [hd]
 unfold nowS
 dsimp only
 have held : ∀ x, (a.kind = 2 ∨ a.kind = 3 ∨ a.kind = 4) → (0 ≤ a.what → a.what < s.holder.length → s.holder.getD a.what.toNat 0 = -1 ∨ s.holder.getD a.what.toNat 0 = a.who) → (heldS s a.what x).holder.length = s.holder.length ∧ ∀ i : Nat, (heldS s a.what x).holder.getD i 0 ≠ s.holder.getD i 0 → (s.holder.getD i 0 = -1 ∨ s.holder.getD i 0 = a.who) ∧ (i : Int) = a.what ∧ (a.kind = 2 ∨ a.kind = 3 ∨ a.kind = 4) := by
  intro x h2 h3
  have hw := ha.w2 h2
  refine ⟨by unfold heldS; simp, fun i hi => ?_⟩
  rw [held_get] at hi
  by_cases h4 : a.what.toNat = i ∧ i < s.holder.length
  ·have h5 := h3 (by omega) (by omega)
   rw [h4.1] at h5
   exact ⟨h5, by omega, h2⟩
  ·rw [if_neg h4] at hi
   exact absurd rfl hi
 have same : ∀ x : State, x.holder = s.holder → x.holder.length = s.holder.length ∧ ∀ i : Nat, x.holder.getD i 0 ≠ s.holder.getD i 0 → (s.holder.getD i 0 = -1 ∨ s.holder.getD i 0 = a.who) ∧ (i : Int) = a.what ∧ (a.kind = 2 ∨ a.kind = 3 ∨ a.kind = 4) := by
  intro x hx
  rw [hx]
  exact ⟨rfl, fun i hi => absurd rfl hi⟩
 unfold kindE at hk
 unfold kindS
 split
 ·exact same _ rfl
 rename_i k1; rw [if_neg k1] at hk
 split
 ·rename_i k; rw [if_pos k] at hk
  refine held _ (.inl k) fun h0 h1 => .inl ?_
  unfold takeE at hk
  split at hk
  ·cases hk
  split at hk
  ·cases hk
  have := hs.h a.what.toNat (by omega)
  omega
 rename_i k2; rw [if_neg k2] at hk
 split
 ·rename_i k; rw [if_pos k] at hk
  refine held _ (.inr (.inl k)) fun h0 h1 => .inr ?_
  unfold putE at hk
  split at hk
  ·cases hk
  split at hk
  ·cases hk
  rename_i h4
  simpa using h4
 rename_i k3; rw [if_neg k3] at hk
 split
 ·rename_i k; rw [if_pos k] at hk
  refine held _ (.inr (.inr k)) fun h0 h1 => .inr ?_
  unfold giveE at hk
  split at hk
  ·cases hk
  rename_i h4
  simpa using h4
 rename_i k4; rw [if_neg k4] at hk
 split
 ·exact same _ rfl
 split
 ·exact same _ rfl
 split
 ·exact same _ rfl
 split
 ·exact same _ rfl
 ·exact same _ rfl
theorem moves_zones (ha : ActOk p a) (he : doneE p s a = 0) : (doneS p s a).zones.length = s.zones.length ∧
 ∀ i : Nat, i < s.zones.length → (doneS p s a).zones.getD i 0 ≠ s.zones.getD i 0 → a.kind = 1 ∧ ((i : Int) = a.who ∨ (i : Int) = a.with_) ∧ (doneS p s a).zones.getD i 0 = a.what := by
 obtain ⟨_, hk, hd⟩ := done_zero he
 rw [hd]
 unfold nowS
 dsimp only
 have same : ∀ x : State, x.zones = s.zones → x.zones.length = s.zones.length ∧ ∀ i : Nat, i < s.zones.length → x.zones.getD i 0 ≠ s.zones.getD i 0 → a.kind = 1 ∧ ((i : Int) = a.who ∨ (i : Int) = a.with_) ∧ x.zones.getD i 0 = a.what := by
  intro x hx
  rw [hx]
  exact ⟨rfl, fun i _ hi => absurd rfl hi⟩
 unfold kindS
 split
 ·rename_i k
  refine ⟨moved_len, fun i hi hne => ?_⟩
  rw [moved_get ha.who.1 i hi] at hne ⊢
  by_cases h : (i : Int) = a.who ∨ (i : Int) = a.with_
  ·rw [if_pos h]; exact ⟨k, h, rfl⟩
  ·rw [if_neg h] at hne; exact absurd rfl hne
 split
 ·exact same _ rfl
 split
 ·exact same _ rfl
 split
 ·exact same _ rfl
 split
 ·exact same _ rfl
 split
 ·exact same _ rfl
 split
 ·exact same _ rfl
 split
 ·exact same _ rfl
 ·exact same _ rfl
theorem moves_squibs (ha : ActOk p a) (he : doneE p s a = 0) : (doneS p s a).squibs.length = s.squibs.length ∧
 ∀ i : Nat, i < s.squibs.length → (doneS p s a).squibs.getD i 0 ≠ s.squibs.getD i 0 → (a.kind = 9 ∨ (i : Int) = a.what) ∧ s.squibs.getD i 0 ≠ 2 ∧ ((doneS p s a).squibs.getD i 0 = 2 → s.squibs.getD i 0 = 1) := by
 obtain ⟨_, hk, hd⟩ := done_zero he
 rw [hd]
 unfold nowS
 dsimp only
 have same : ∀ x : State, x.squibs = s.squibs → x.squibs.length = s.squibs.length ∧ ∀ i : Nat, i < s.squibs.length → x.squibs.getD i 0 ≠ s.squibs.getD i 0 → (a.kind = 9 ∨ (i : Int) = a.what) ∧ s.squibs.getD i 0 ≠ 2 ∧ (x.squibs.getD i 0 = 2 → s.squibs.getD i 0 = 1) := by
  intro x hx
  rw [hx]
  exact ⟨rfl, fun i _ hi => absurd rfl hi⟩
 have sq : ∀ x, (a.kind = 5 ∨ a.kind = 6 ∨ a.kind = 7) → s.squibs.getD a.what.toNat 0 ≠ 2 → (x = 2 → s.squibs.getD a.what.toNat 0 = 1) → (squibS s a.what x).squibs.length = s.squibs.length ∧ ∀ i : Nat, i < s.squibs.length → (squibS s a.what x).squibs.getD i 0 ≠ s.squibs.getD i 0 → (a.kind = 9 ∨ (i : Int) = a.what) ∧ s.squibs.getD i 0 ≠ 2 ∧ ((squibS s a.what x).squibs.getD i 0 = 2 → s.squibs.getD i 0 = 1) := by
  intro x h1 h2 h3
  have hw := ha.w3 h1
  refine ⟨by unfold squibS; simp, fun i hi hne => ?_⟩
  rw [squib_get] at hne ⊢
  by_cases h4 : a.what.toNat = i ∧ i < s.squibs.length
  ·rw [if_pos h4]
   rw [h4.1] at h2 h3
   exact ⟨.inr (by omega), h2, h3⟩
  ·rw [if_neg h4] at hne; exact absurd rfl hne
 unfold kindE at hk
 unfold kindS
 split
 ·exact same _ (by unfold movedS; split <;> rfl)
 rename_i k1; rw [if_neg k1] at hk
 split
 ·exact same _ rfl
 rename_i k2; rw [if_neg k2] at hk
 split
 ·exact same _ rfl
 rename_i k3; rw [if_neg k3] at hk
 split
 ·exact same _ rfl
 rename_i k4; rw [if_neg k4] at hk
 split
 ·rename_i k; rw [if_pos k] at hk
  unfold armE at hk
  split at hk
  ·rename_i h1; exact absurd hk h1
  split at hk
  ·cases hk
  rename_i h1
  simp only [ne_eq, Decidable.not_not] at h1
  exact sq _ (.inl k) (by omega) (fun h => by omega)
 rename_i k5; rw [if_neg k5] at hk
 split
 ·rename_i k; rw [if_pos k] at hk
  unfold disarmE at hk
  split at hk
  ·cases hk
  split at hk
  ·cases hk
  rename_i h1
  simp only [ne_eq, Decidable.not_not] at h1
  exact sq _ (.inr (.inl k)) (by omega) (fun h => by omega)
 rename_i k6; rw [if_neg k6] at hk
 split
 ·rename_i k; rw [if_pos k] at hk
  unfold fireE at hk
  split at hk
  ·rename_i h1; exact absurd hk h1
  split at hk
  ·cases hk
  rename_i h1
  simp only [ne_eq, Decidable.not_not] at h1
  exact sq _ (.inr (.inr k)) (by omega) (fun h => by omega)
 rename_i k7; rw [if_neg k7] at hk
 split
 ·exact same _ rfl
 ·rename_i k8
  have h9 : a.kind = 9 := by have := ha.kind; omega
  unfold thunderS
  dsimp only
  refine ⟨by simp, fun i hi hne => ?_⟩
  rw [getD_map _ _ _ hi] at hne ⊢
  unfold calm at hne ⊢
  split at hne
  ·rename_i h1
   rw [Bool.and_eq_true, decide_eq_true_iff] at h1
   rw [if_pos (by rw [Bool.and_eq_true, decide_eq_true_iff]; exact h1)]
   exact ⟨.inl h9, by omega, fun h => by omega⟩
  ·exact absurd rfl hne
end
section
variable {p : Pad} {s x : State} {a : PAct}
theorem arm_not (h : stateE p s = 0) {i q : Nat} (hi : i < s.zones.length) (hq : q ∈ nears p.zones p.squibs (s.zones.getD i 0)) (h2 : s.squibs.getD q 0 ≠ 2) :
 Holds p s i q ∧ s.squibs.getD q 0 ≠ 1 ∧ (a.kind = 5 → doE p s a = 0 → a.what ≠ q) := by
 obtain ⟨h1, hs, hso⟩ := stateE_t.1 h
 have hl := (nears_in hq).1
 have hho : Holds p s i q := by
  rcases hso.keyed i hi q hq with h4 | h4
  ·exact absurd h4 h2
  ·exact h4
 refine ⟨hho, sound_far hso hs.lq hi hq, fun hk he hw => ?_⟩
 obtain ⟨_, h5, h6⟩ := doE_zero he
 obtain ⟨_, h7, _⟩ := done_zero h6
 unfold kindE at h7
 rw [if_neg (by omega), if_neg (by omega), if_neg (by omega), if_neg (by omega), if_pos hk] at h7
 unfold armE at h7
 split at h7
 ·rename_i h8; exact absurd h7 h8
 split at h7
 ·cases h7
 split at h7
 ·cases h7
 split at h7
 ·cases h7
 rename_i h9
 rw [Bool.not_eq_false, hw, owed_empty] at h9
 obtain ⟨j, hj, e⟩ := hho
 have := h9 j hj
 omega
theorem storm_after (h : stateE p s = 0) (ha : ActOk p a) (he : doneE p s a = 0) (hst : (doneS p s a).storm = true) :
 (∀ q, q < (doneS p s a).squibs.length → (doneS p s a).squibs.getD q 0 ≠ 1) ∧ ∀ k q : Nat, k < s.zones.length → (doneS p s a).zones.getD k 0 ≠ s.zones.getD k 0 → q ∈ nears p.zones p.squibs ((doneS p s a).zones.getD k 0) → (doneS p s a).squibs.getD q 0 = 2 := by
 obtain ⟨h1, hs, hso⟩ := stateE_t.1 h
 have hx := done_sound (padOk_of h1) hs hso ha he
 refine ⟨fun q hq h1q => ?_, fun k q hk hne hq => ?_⟩
 ·have := (hx.2.safe q hq h1q).2.2
  rw [hst] at this
  cases this
 ·obtain ⟨hk1, hwho, hz⟩ := (moves_zones ha he).2 k hk hne
  rw [hz] at hq
  obtain ⟨_, hke, hd⟩ := done_zero he
  rw [hd] at hst ⊢
  unfold kindE at hke
  unfold kindS nowS at hst ⊢
  rw [if_pos hk1] at hke hst
  rw [if_pos hk1]
  dsimp only at hst ⊢
  have hst' : s.storm = true := by unfold movedS at hst; split at hst <;> exact hst
  have hm := moveOk_of hke
  have hany : (nears p.zones p.squibs a.what).any (stormy s) = false := by
   rcases hwho with hwho | hwho
   ·exact (comes_ok hm.c1).2.1
   ·exact (comes_ok (hm.c2 (by omega))).2.1
  rw [List.any_eq_false] at hany
  have h6 := hany q hq
  unfold stormy at h6
  rw [hst'] at h6
  have : (movedS s a).squibs = s.squibs := by unfold movedS; split <;> rfl
  rw [this]
  simpa using h6
/-- The acts that are not refused. -/
def keepL (p : Pad) (s : State) : List PAct → List PAct
 | [] => []
 | a :: l => if doneE p s a = 0 then a :: keepL p (stepS p s a) l else keepL p (stepS p s a) l
theorem keepL_append (l : List PAct) (a : PAct) : ∀ s : State, keepL p s (l ++ [a]) = keepL p s l ++ if doneE p (runS p s l) a = 0 then [a] else [] := by
 induction l with
 | nil => intro s; rfl
 | cons x l ih =>
   intro s
   simp only [List.cons_append, keepL, ih]
   show _ = _ ++ if doneE p (runS p (stepS p s x) l) a = 0 then [a] else []
   split <;> simp
theorem keepL_take {l : List PAct} {k : Nat} (h : k < l.length) : keepL p s (l.take (k + 1)) = keepL p s (l.take k) ++ if (runE p s l).getD k 0 = 0 then [l.getD k default] else [] := by
 rw [List.take_succ_eq_append_getElem h, keepL_append]
 have e : (runE p s l).getD k 0 = doneE p (runS p s (l.take k)) l[k] := by
  have h2 : ∀ (l : List PAct) (s : State) (k : Nat) (h : k < l.length), (runE p s l).getD k 0 = doneE p (runS p s (l.take k)) l[k] := by
   intro l
   induction l with
   | nil => intro s k h; simp at h
   | cons a l ih =>
     intro s k h
     cases k with
     | zero => rfl
     | succ k => simpa [runE, runS] using ih (stepS p s a) k (by simpa using h)
  exact h2 l s k h
 rw [e, List.getD_eq_getElem?_getD, List.getElem?_eq_getElem h, Option.getD_some]
theorem runE_get : ∀ (l : List PAct) (s : State) (k : Nat), k < l.length → (runE p s l).getD k 0 = doneE p (runS p s (l.take k)) (l.getD k default) := by
 intro l
 induction l with
 | nil => intro s k h; simp at h
 | cons a l ih =>
   intro s k h
   cases k with
   | zero => rfl
   | succ k => simpa [runE, runS] using ih (stepS p s a) k (by simpa using h)
theorem runE_pre : ∀ (l : List PAct) (s : State) (k : Nat), runE p s (l.take k) = (runE p s l).take k := by
 intro l
 induction l with
 | nil => intro s k; simp [runE]
 | cons a l ih =>
   intro s k
   cases k with
   | zero => rfl
   | succ k => simp only [List.take_succ_cons, runE, ih]
theorem keepL_mem : ∀ (l : List PAct) (s : State), ∀ a ∈ keepL p s l, a ∈ l := by
 intro l
 induction l with
 | nil => intro s a h; exact h
 | cons x l ih =>
   intro s a h
   unfold keepL at h
   split at h
   ·rcases List.mem_cons.1 h with rfl | h
    ·simp
    ·exact List.mem_cons_of_mem _ (ih _ a h)
   ·exact List.mem_cons_of_mem _ (ih _ a h)
theorem keepL_len : ∀ (l : List PAct) (s : State), (keepL p s l).length ≤ l.length := by
 intro l
 induction l with
 | nil => intro s; exact Nat.le_refl _
 | cons x l ih =>
   intro s
   unfold keepL
   have := ih (stepS p s x)
   split
   ·simp; exact this
   ·simp; omega
theorem keepL_run : ∀ (l : List PAct) (s : State), runS p s (keepL p s l) = runS p s l := by
 intro l
 induction l with
 | nil => intro s; rfl
 | cons x l ih =>
   intro s
   show _ = runS p (stepS p s x) l
   unfold keepL
   by_cases h : doneE p s x = 0
   ·rw [if_pos h]; exact ih (stepS p s x)
   ·rw [if_neg h]
    have e : stepS p s x = s := by unfold stepS; rw [if_neg h]
    rw [e]; exact ih s
theorem keepL_zero : ∀ (l : List PAct) (s : State), ∀ e ∈ runE p s (keepL p s l), e = 0 := by
 intro l
 induction l with
 | nil => intro s e h; simp [keepL, runE] at h
 | cons x l ih =>
   intro s e h
   unfold keepL at h
   by_cases h0 : doneE p s x = 0
   ·rw [if_pos h0] at h
    simp only [runE] at h
    rcases List.mem_cons.1 h with rfl | h
    ·exact h0
    ·exact ih _ e h
   ·rw [if_neg h0] at h
    have e2 : stepS p s x = s := by unfold stepS; rw [if_neg h0]
    rw [e2] at h
    exact ih s e h
theorem actsE_all {l : List PAct} : actsE p l = 0 ↔ ∀ a ∈ l, actE p a = 0 := by
 constructor
 ·intro h a ha
  obtain ⟨j, hj, e⟩ := List.getElem_of_mem ha
  have := firstE_zero h j hj
  rwa [List.getD_eq_getElem?_getD, List.getElem?_eq_getElem hj, Option.getD_some, e] at this
 ·intro h
  exact actsE_none fun j hj => h _ (getD_in' _ hj)
theorem playE_t {l : List PAct} : playE p s l = 0 ↔ stateE p s = 0 ∧ l.length ≤ 60 ∧ ∀ a ∈ l, actE p a = 0 := by
 unfold playE
 by_cases h1 : stateE p s = 0
 ·rw [if_neg (fun g => g h1)]
  by_cases h2 : 60 < l.length
  ·rw [if_pos h2]; constructor
   ·intro h; cases h
   ·rintro ⟨_, h, _⟩; omega
  ·rw [if_neg h2, actsE_all]
   exact ⟨fun h => ⟨h1, by omega, h⟩, fun h => h.2.2⟩
 ·rw [if_pos h1]
  exact ⟨fun h => absurd h h1, fun h => absurd h.1 h1⟩
theorem playE_keep {l : List PAct} (h : playE p s l = 0) : playE p s (keepL p s l) = 0 := by
 obtain ⟨h1, h2, h3⟩ := playE_t.1 h
 exact playE_t.2 ⟨h1, by have := keepL_len (p := p) l s; omega, fun a ha => h3 a (keepL_mem l s a ha)⟩
theorem playE_take {l : List PAct} (h : playE p s l = 0) (k : Nat) : playE p s (l.take k) = 0 := by
 obtain ⟨h1, h2, h3⟩ := playE_t.1 h
 exact playE_t.2 ⟨h1, by rw [List.length_take]; omega, fun a ha => h3 a (List.mem_of_mem_take ha)⟩
theorem playE_do {l : List PAct} (h : playE p s l = 0) {k : Nat} (hk : k < l.length) : doE p (runS p s (l.take k)) (l.getD k default) = (runE p s l).getD k 0 ∧
 doS p (runS p s (l.take k)) (l.getD k default) = (if (runE p s l).getD k 0 = 0 then runS p s (l.take (k + 1)) else zeroS) ∧ ((runE p s l).getD k 0 ≠ 0 → runS p s (l.take (k + 1)) = runS p s (l.take k)) := by
 obtain ⟨h1, h2, h3⟩ := playE_t.1 h
 have hs : stateE p (runS p s (l.take k)) = 0 := stateE_run h1 fun a ha => actOk_of (h3 a (List.mem_of_mem_take ha))
 have hd := doE_eq hs (h3 (l.getD k default) (getD_in' _ hk))
 rw [runE_get l s k hk, ← hd]
 have hst := runS_take (p := p) (s := s) hk
 refine ⟨rfl, ?_, fun hne => ?_⟩
 ·unfold doS
  split
  ·rename_i h0
   rw [hst]; unfold stepS; rw [if_pos (by rw [← hd]; exact h0)]
  ·rfl
 ·rw [hst]; unfold stepS; rw [if_neg (by rw [← hd]; exact hne)]
theorem clear_iff (h : stateE p s = 0) {q t : Int} {i : Nat} (hq : 0 ≤ q ∧ q < p.squibs.length) (ht : s.now ≤ t ∧ t ≤ 100000) (hi : i < p.people.length) :
 doE p s ⟨t, 5, i, q, -1⟩ = 0 ↔ (s.squibs.getD q.toNat 0 = 0 ∧ (owedL p s q).isEmpty = true ∧ s.storm = false ∧ 0 ≤ s.siren ∧ p.wait ≤ t - s.siren) ∧ s.zones.getD i 0 = p.panel ∧ (squibOf p q).grade ≤ (personOf p i).grade := by
 obtain ⟨h1, hs, hso⟩ := stateE_t.1 h
 have hnow := hs.now
 have ha : actE p ⟨t, 5, i, q, -1⟩ = 0 := by
  unfold actE whatE withB
  rw [if_neg (by rw [Bool.not_eq_true, outB_f]; dsimp only; omega), if_neg (by rw [Bool.not_eq_true, outB_f]; dsimp only; omega), if_neg (by rw [Bool.not_eq_true, outB_f]; dsimp only; omega)]
  dsimp only
  rw [if_neg (show ¬ (5 : Int) = 1 by decide), if_neg (show ¬ ((5 : Int) = 2 ∨ (5 : Int) = 3 ∨ (5 : Int) = 4) by decide), if_pos (show (5 : Int) = 5 ∨ (5 : Int) = 6 ∨ (5 : Int) = 7 by decide), if_neg (show ¬ outB q 0 ((p.squibs.length : Int) - 1) = true by rw [Bool.not_eq_true, outB_f]; omega)]
  simp
 rw [doE_eq h ha]
 unfold doneE kindE
 dsimp only
 rw [if_neg (show ¬ t < s.now by omega), if_neg (show ¬ (5 : Int) = 1 by decide), if_neg (show ¬ (5 : Int) = 2 by decide), if_neg (show ¬ (5 : Int) = 3 by decide), if_neg (show ¬ (5 : Int) = 4 by decide), if_pos rfl]
 unfold armE badgeE atPanelB
 dsimp only
 rw [Int.toNat_natCast]
 by_cases c1 : s.zones.getD i 0 = p.panel
 ·by_cases c2 : (personOf p i).grade < (squibOf p q).grade
  ·rw [if_neg (show ¬ decide (s.zones.getD i 0 = p.panel) = false by simpa using c1), if_pos c2]
   constructor
   ·intro g; cases g
   ·rintro ⟨_, _, g⟩; omega
  ·rw [if_neg (show ¬ decide (s.zones.getD i 0 = p.panel) = false by simpa using c1), if_neg c2, if_neg (by simp)]
   by_cases c3 : s.squibs.getD q.toNat 0 = 0
   ·rw [if_neg (fun g => g c3)]
    cases c4 : s.storm with
    | true => simp
    | false =>
      rw [if_neg (by decide)]
      cases c5 : (owedL p s q).isEmpty with
      | false => simp
      | true =>
        rw [if_neg (by decide)]
        by_cases c6 : 0 ≤ s.siren ∧ p.wait ≤ t - s.siren
        ·rw [if_neg (fun g => g c6)]
         simp only [true_iff]
         exact ⟨⟨c3, trivial, trivial, c6⟩, c1, by omega⟩
        ·rw [if_pos c6]
         constructor
         ·intro g; cases g
         ·intro g; exact absurd g.1.2.2.2 c6
   ·rw [if_pos c3]
    constructor
    ·intro g; cases g
    ·intro g; exact absurd g.1.1 c3
 ·rw [if_pos (show decide (s.zones.getD i 0 = p.panel) = false by simpa using c1), if_pos (by decide)]
  constructor
  ·intro g; cases g
  ·intro g; exact absurd g.2.1 c1
/-- Who may move to a zone. -/
def mayA (s : State) (z : Int) (i : Nat) : PAct := ⟨s.now, 1, i, z, -1⟩
def mayL (p : Pad) (s : State) (z : Int) (k : Nat) : List Int := ((List.range k).filter fun i => decide (doneE p s (mayA s z i) = 0)).map Int.ofNat
theorem mayL_succ (p : Pad) (s : State) (z : Int) (k : Nat) : mayL p s z (k + 1) = mayL p s z k ++ if doneE p s (mayA s z k) = 0 then [(k : Int)] else [] := by
 unfold mayL
 rw [filter_range_succ, List.map_append]
 by_cases h : doneE p s (mayA s z k) = 0
 ·rw [if_pos h, if_pos (by simpa using h)]; rfl
 ·rw [if_neg h, if_neg (by simpa using h)]; rfl
theorem may_act (h : stateE p s = 0) {z : Int} (hz : -1 ≤ z ∧ z < p.zones.length) {i : Nat} (hi : i < p.people.length) : actE p (mayA s z i) = 0 := by
 have hnow := (stateE_t.1 h).2.1.now
 unfold actE whatE withB mayA
 dsimp only
 rw [if_neg (by rw [Bool.not_eq_true, outB_f]; omega), if_neg (by rw [Bool.not_eq_true, outB_f]; omega), if_neg (by rw [Bool.not_eq_true, outB_f]; omega), if_pos rfl]
 have : (decide (z ≠ -1) && outB z 0 ((p.zones.length : Int) - 1)) = false := by
  by_cases h1 : z = -1
  ·simp [h1]
  ·rw [outB_f.2 (by omega)]; simp
 rw [this]
 simp
theorem may_moves (h : stateE p s = 0) {z : Int} (hz : -1 ≤ z ∧ z < p.zones.length) {i : Nat} (hi : i < p.people.length) (he : doneE p s (mayA s z i) = 0) :
 (doneS p s (mayA s z i)).zones.length = s.zones.length ∧ i < (doneS p s (mayA s z i)).zones.length ∧ (doneS p s (mayA s z i)).zones.getD i 0 = z ∧ s.zones.getD i 0 ≠ z := by
 obtain ⟨h1, hs, hso⟩ := stateE_t.1 h
 obtain ⟨_, hk, hd⟩ := done_zero he
 have ha := actOk_of (may_act h hz hi)
 have hl := hs.lz
 have h2 := moves_zones ha he
 have e : kindE p s (mayA s z i) = moveE p s (mayA s z i) := by unfold kindE; rw [if_pos (show (mayA s z i).kind = 1 from rfl)]
 rw [e] at hk
 have hm := moveOk_of hk
 have hne := door_ne (padOk_of h1) hm.door
 refine ⟨h2.1, by rw [h2.1]; omega, ?_, ?_⟩
 ·rw [hd]
  unfold kindS nowS
  rw [if_pos (show (mayA s z i).kind = 1 from rfl)]
  dsimp only
  rw [moved_get ha.who.1 i (by omega), if_pos (.inl rfl)]; rfl
 ·unfold fromZ mayA at hne
  dsimp only at hne
  rw [Int.toNat_natCast] at hne
  exact hne
end
end Go.Proofs.Ythcnganbnbhhoaa
