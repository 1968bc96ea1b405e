/- Acts that are not refused keep a state sound: in plain words, no program in sight. Acts that are not refused keep a state sound, kind by kind: in plain words. -/
import Derived.Test.YthcnganbnbhhoaaPlain
namespace Go.Proofs.Ythcnganbnbhhoaa
open Go.RowKit
theorem getD_set (l : List Int) (i j : Nat) (x : Int) : (l.set i x).getD j 0 = if i = j ∧ j < l.length then x else l.getD j 0 := by
 simp only [List.getD_eq_getElem?_getD, List.getElem?_set]
 by_cases h : i = j
 ·subst h
  by_cases h2 : i < l.length
  ·simp [h2]
  ·simp [h2]
 ·simp [h]
theorem manyN_set (l : List Int) (i : Nat) (x z : Int) (h : i < l.length) : manyN (l.set i x) z + (if l.getD i 0 = z then 1 else 0) = manyN l z + (if x = z then 1 else 0) := by
 unfold manyN
 induction l generalizing i with
 | nil => simp at h
 | cons a l ih =>
   cases i with
   | zero =>
     simp only [List.set_cons_zero, List.getD_cons_zero, List.filter_cons]
     by_cases h1 : x = z <;> by_cases h2 : a = z <;> simp [h1, h2]
   | succ i =>
     have := ih i (by simpa using h)
     simp only [List.set_cons_succ, List.getD_cons_succ, List.filter_cons]
     by_cases h2 : a = z
     ·simp only [h2, decide_true, if_true, List.length_cons]; omega
     ·simp only [h2, decide_false, Bool.false_eq_true, if_false]; exact this
def Holds (p : Pad) (s : State) (i : Int) (q : Nat) : Prop := ∃ k, k < (p.squibs.getD q default).1.keys.length ∧ s.holder.getD ((p.squibs.getD q default).1.keys.getD k 0).toNat 0 = i
theorem holdsB_t {p : Pad} {s : State} {i : Int} {q : Nat} : holdsB p s i q = true ↔ Holds p s i q := by
 unfold holdsB Holds; rw [anyB_t]; simp
structure Sound (p : Pad) (s : State) : Prop where
 room : ∀ z, z < p.zones.length → (manyN s.zones z : Int) ≤ (p.zones.getD z default).room
 pair : ∀ z, z < p.zones.length → (p.zones.getD z default).pair = true → manyN s.zones z ≠ 1
 grade : ∀ i, i < s.zones.length → 0 ≤ s.zones.getD i 0 → (zoneOf p (s.zones.getD i 0)).grade ≤ (p.people.getD i default).grade
 keyed : ∀ i, i < s.zones.length → ∀ q, q ∈ nears p.zones p.squibs (s.zones.getD i 0) → s.squibs.getD q 0 = 2 ∨ Holds p s i q
 safe : ∀ q, q < s.squibs.length → s.squibs.getD q 0 = 1 → (∀ k, k < (p.squibs.getD q default).1.keys.length → s.holder.getD ((p.squibs.getD q default).1.keys.getD k 0).toNat 0 < 0) ∧ 0 ≤ s.siren ∧ s.storm = false
theorem keyedB_t {p : Pad} {s : State} {i z : Int} : keyedB p s i z = true ↔ ∀ q, q ∈ nears p.zones p.squibs z → s.squibs.getD q 0 = 2 ∨ Holds p s i q := by
 unfold keyedB keyedAt
 rw [List.all_eq_true]
 constructor
 ·intro h q hq
  have := h q hq
  rw [Bool.or_eq_true, decide_eq_true_iff, holdsB_t] at this
  exact this
 ·intro h q hq
  rw [Bool.or_eq_true, decide_eq_true_iff, holdsB_t]
  exact h q hq
theorem owed_empty {p : Pad} {s : State} {q : Nat} : (owedL p s q).isEmpty = true ↔ ∀ k, k < (p.squibs.getD q default).1.keys.length → s.holder.getD ((p.squibs.getD q default).1.keys.getD k 0).toNat 0 < 0 := by
 unfold owedL squibOf
 rw [Int.toNat_natCast, List.isEmpty_iff, List.filter_eq_nil_iff]
 constructor
 ·intro h k hk
  have := h _ (List.getElem_mem hk)
  rw [decide_eq_true_iff] at this
  rw [List.getD_eq_getElem?_getD (l := (p.squibs.getD q default).1.keys), List.getElem?_eq_getElem hk, Option.getD_some]
  omega
 ·intro h x hx
  obtain ⟨k, hk, e⟩ := List.getElem_of_mem hx
  have := h k hk
  rw [List.getD_eq_getElem?_getD (l := (p.squibs.getD q default).1.keys), List.getElem?_eq_getElem hk, Option.getD_some, e] at this
  rw [decide_eq_true_iff]; omega
theorem sound_iff {p : Pad} {s : State} : soundB p s = true ↔ Sound p s := by
 unfold soundB
 simp only [Bool.and_eq_true, allN_iff]
 constructor
 ·rintro ⟨⟨h1, h2⟩, h3⟩
  have hr : ∀ z, z < p.zones.length → (manyN s.zones z : Int) ≤ (p.zones.getD z default).room ∧ ((p.zones.getD z default).pair = true → manyN s.zones z ≠ 1) := by
   intro z hz
   have := h1 z hz
   unfold roomOk aloneB zoneOf at this
   rw [Bool.not_eq_true', Bool.or_eq_false_iff, decide_eq_false_iff_not, Int.toNat_natCast] at this
   refine ⟨by omega, fun hp hm => ?_⟩
   have h := this.2
   rw [hp, hm] at h
   simp at h
  have hp : ∀ i, i < s.zones.length → (0 ≤ s.zones.getD i 0 → (zoneOf p (s.zones.getD i 0)).grade ≤ (p.people.getD i default).grade) ∧ keyedB p s i (s.zones.getD i 0) = true := by
   intro i hi
   have := h2 i hi
   unfold placeOk at this
   rw [Bool.not_eq_true', Bool.or_eq_false_iff, Bool.not_eq_false', Bool.and_eq_false_iff, decide_eq_false_iff_not, decide_eq_false_iff_not] at this
   exact ⟨fun h0 => by rcases this.1 with h | h <;> omega, this.2⟩
  refine ⟨fun z hz => (hr z hz).1, fun z hz => (hr z hz).2, fun i hi => (hp i hi).1, fun i hi => keyedB_t.1 (hp i hi).2, ?_⟩
  intro q hq h1q
  have := h3 q hq
  unfold safeOk at this
  rw [h1q] at this
  simp only [decide_true, Bool.true_and, Bool.not_eq_true', Bool.or_eq_false_iff, Bool.not_eq_false', decide_eq_false_iff_not] at this
  exact ⟨owed_empty.1 this.1.1, by omega, this.2⟩
 ·intro h
  refine ⟨⟨fun z hz => ?_, fun i hi => ?_⟩, fun q hq => ?_⟩
  ·unfold roomOk aloneB zoneOf
   rw [Bool.not_eq_true', Bool.or_eq_false_iff, decide_eq_false_iff_not, Int.toNat_natCast]
   refine ⟨by have := h.room z hz; omega, ?_⟩
   cases hp : (p.zones.getD z default).pair with
   | false => simp
   | true =>
     have := h.pair z hz hp
     simp [this]
  ·unfold placeOk
   rw [Bool.not_eq_true', Bool.or_eq_false_iff, Bool.not_eq_false', Bool.and_eq_false_iff, decide_eq_false_iff_not, decide_eq_false_iff_not]
   refine ⟨?_, keyedB_t.2 (h.keyed i hi)⟩
   by_cases h0 : 0 ≤ s.zones.getD i 0
   ·exact .inr (by have := h.grade i hi h0; omega)
   ·exact .inl h0
  ·unfold safeOk
   by_cases h1 : s.squibs.getD q 0 = 1
   ·obtain ⟨a, b, c⟩ := h.safe q hq h1
    rw [owed_empty.2 a, c, decide_eq_false (show ¬ s.siren < 0 by omega)]
    simp
   ·rw [decide_eq_false h1]; rfl
structure ActOk (p : Pad) (a : PAct) : Prop where
 at0 : 0 ≤ a.at_ ∧ a.at_ ≤ 100000
 kind : 1 ≤ a.kind ∧ a.kind ≤ 9
 who : 0 ≤ a.who ∧ a.who < p.people.length
 w1 : a.kind = 1 → -1 ≤ a.what ∧ a.what < p.zones.length
 w2 : (a.kind = 2 ∨ a.kind = 3 ∨ a.kind = 4) → 0 ≤ a.what ∧ a.what < p.keys.length
 w3 : (a.kind = 5 ∨ a.kind = 6 ∨ a.kind = 7) → 0 ≤ a.what ∧ a.what < p.squibs.length
 w4 : (a.kind = 8 ∨ a.kind = 9) → 0 ≤ a.what ∧ a.what ≤ 1
 wy : withB a = true → (0 ≤ a.with_ ∧ a.with_ < p.people.length) ∧ a.with_ ≠ a.who
 wn : withB a = false → a.with_ = -1
theorem actOk_of {p : Pad} {a : PAct} (h : actE p a = 0) : ActOk p a := by
 unfold actE at h
 split at h
 ·cases h
 rename_i h1
 split at h
 ·cases h
 rename_i h2
 split at h
 ·cases h
 rename_i h3
 split at h
 ·rename_i h4; exact absurd h h4
 rename_i h4
 split at h
 ·cases h
 rename_i h5
 split at h
 ·cases h
 rename_i h6
 split at h
 ·cases h
 rename_i h7
 rw [Bool.not_eq_true, outB_f] at h1 h2 h3
 simp only [Decidable.not_not] at h4
 unfold whatE at h4
 refine ⟨h1, h2, by omega, ?_, ?_, ?_, ?_, ?_, ?_⟩
 ·intro k
  rw [if_pos k] at h4
  split at h4
  ·cases h4
  rename_i g
  rw [Bool.not_eq_true, Bool.and_eq_false_iff, decide_eq_false_iff_not, outB_f] at g
  rcases g with g | g
  ·simp only [ne_eq, Decidable.not_not] at g; omega
  ·omega
 ·intro k
  rw [if_neg (by omega), if_pos k] at h4
  split at h4
  ·cases h4
  rename_i g
  rw [Bool.not_eq_true, outB_f] at g; omega
 ·intro k
  rw [if_neg (by omega), if_neg (by omega), if_pos k] at h4
  split at h4
  ·cases h4
  rename_i g
  rw [Bool.not_eq_true, outB_f] at g; omega
 ·intro k
  rw [if_neg (by omega), if_neg (by omega), if_neg (by omega)] at h4
  split at h4
  ·cases h4
  rename_i g
  rw [Bool.not_eq_true, outB_f] at g; omega
 ·intro k
  rw [k] at h6 h7
  simp only [Bool.true_and] at h6 h7
  rw [Bool.not_eq_true, outB_f] at h6
  rw [decide_eq_true_iff] at h7
  exact ⟨by omega, h7⟩
 ·intro k
  rw [k] at h5
  simpa using h5
theorem nears_in {p : Pad} {z : Int} {q : Nat} (h : q ∈ nears p.zones p.squibs z) : q < p.squibs.length ∧ 0 ≤ z := by
 unfold nears at h
 split at h
 ·cases h
 ·exact ⟨List.mem_range.1 (List.mem_filter.1 h).1, by omega⟩
section
variable {p : Pad} {s : State} {a : PAct}
/-- The state of one list of squibs, another of keys' holders: where people may be. -/
theorem StateOk.held (h : StateOk p s) {k : Nat} {x : Int} (hx : -1 ≤ x ∧ x < p.people.length) : StateOk p { s with holder := s.holder.set k x } := by
 refine ⟨h.now, h.siren, h.lz, by simpa using h.lh, h.lq, h.z, fun j hj => ?_, h.q⟩
 dsimp only at hj ⊢
 rw [getD_set]
 split
 ·exact hx
 ·exact h.h j (by simpa using hj)
theorem StateOk.sq (h : StateOk p s) {k : Nat} {x : Int} (hx : 0 ≤ x ∧ x ≤ 2) : StateOk p { s with squibs := s.squibs.set k x } := by
 refine ⟨h.now, h.siren, h.lz, h.lh, by simpa using h.lq, h.z, h.h, fun j hj => ?_⟩
 dsimp only at hj ⊢
 rw [getD_set]
 split
 ·exact hx
 ·exact h.q j (by simpa using hj)
theorem StateOk.zn (h : StateOk p s) {k : Nat} {x : Int} (hx : -1 ≤ x ∧ x < p.zones.length) : StateOk p { s with zones := s.zones.set k x } := by
 refine ⟨h.now, h.siren, by simpa using h.lz, h.lh, h.lq, fun j hj => ?_, h.h, h.q⟩
 dsimp only at hj ⊢
 rw [getD_set]
 split
 ·exact hx
 ·exact h.z j (by simpa using hj)
theorem getD_map (l : List Int) (f : Int → Int) (j : Nat) (h : j < l.length) : (l.map f).getD j 0 = f (l.getD j 0) := by
 simp [List.getD_eq_getElem?_getD, h]
theorem kind_ok (hs : StateOk p s) (ha : ActOk p a) (hn : s.now ≤ a.at_) : StateOk p (nowS (kindS s a) a.at_) := by
 have hw := ha.who
 have now_ : ∀ {x : State}, StateOk p x → x.siren = s.siren → StateOk p (nowS x a.at_) := fun {x} h e => ⟨ha.at0, by unfold nowS; dsimp only; rw [e]; exact ⟨hs.siren.1, by have := hs.siren.2; omega⟩, h.lz, h.lh, h.lq, h.z, h.h, h.q⟩
 unfold kindS
 split
 ·rename_i k
  have h1 := ha.w1 k
  unfold movedS
  split
  ·exact now_ (hs.zn (k := a.who.toNat) h1) rfl
  ·exact now_ ((hs.zn (k := a.who.toNat) h1).zn (k := a.with_.toNat) h1) rfl
 split
 ·exact now_ (hs.held (by omega)) rfl
 split
 ·exact now_ (hs.held (by omega)) rfl
 split
 ·rename_i k
  have := (ha.wy (by unfold withB; simp [k])).1
  exact now_ (hs.held (by omega)) rfl
 split
 ·exact now_ (hs.sq (by omega)) rfl
 split
 ·exact now_ (hs.sq (by omega)) rfl
 split
 ·exact now_ (hs.sq (by omega)) rfl
 split
 ·unfold sirenS nowS
  refine ⟨ha.at0, ?_, hs.lz, hs.lh, hs.lq, hs.z, hs.h, hs.q⟩
  have := ha.at0
  dsimp only
  split <;> omega
 ·refine now_ ⟨hs.now, hs.siren, hs.lz, hs.lh, by unfold thunderS; simpa using hs.lq, hs.z, hs.h, fun j hj => ?_⟩ rfl
  unfold thunderS at hj ⊢
  dsimp only at hj ⊢
  rw [List.length_map] at hj
  rw [getD_map _ _ _ hj]
  have := hs.q j hj
  unfold calm
  split <;> omega
end
end Go.Proofs.Ythcnganbnbhhoaa
namespace Go.Proofs.Ythcnganbnbhhoaa
open Go.RowKit
section
variable {p : Pad} {s : State} {a : PAct}
theorem held_get (k i : Int) (j : Nat) : (heldS s k i).holder.getD j 0 = if k.toNat = j ∧ j < s.holder.length then i else s.holder.getD j 0 := getD_set _ _ _ _
theorem squib_get (k i : Int) (j : Nat) : (squibS s k i).squibs.getD j 0 = if k.toNat = j ∧ j < s.squibs.length then i else s.squibs.getD j 0 := getD_set _ _ _ _
/-- Where only the keys' holders turn. -/
theorem Sound.held (h : Sound p s) (k x : Int)
 (h1 : ∀ i : Nat, i < s.zones.length → ∀ q, q ∈ nears p.zones p.squibs (s.zones.getD i 0) → s.squibs.getD q 0 = 2 ∨ Holds p (heldS s k x) i q)
 (h2 : ∀ q, q < s.squibs.length → s.squibs.getD q 0 = 1 → ∀ j, j < (p.squibs.getD q default).1.keys.length → (heldS s k x).holder.getD ((p.squibs.getD q default).1.keys.getD j 0).toNat 0 < 0) : Sound p (heldS s k x) :=
 ⟨h.room, h.pair, h.grade, h1, fun q hq h1q => ⟨h2 q hq h1q, (h.safe q hq h1q).2⟩⟩
/-- Whoever held a key that does not move holds it. -/
theorem holds_other {k x i : Int} {q : Nat} (h : Holds p s i q) (hne : s.holder.getD k.toNat 0 ≠ i) : Holds p (heldS s k x) i q := by
 obtain ⟨j, hj, e⟩ := h
 refine ⟨j, hj, ?_⟩
 rw [held_get, if_neg]
 ·exact e
 ·rintro ⟨h1, _⟩
  rw [← h1] at e
  exact hne e
theorem atPanel_t {i : Int} : atPanelB p s i = true ↔ s.zones.getD i.toNat 0 = p.panel := by unfold atPanelB; simp
theorem take_sound (hp : PadOk p) (h : Sound p s) (hw : 0 ≤ a.what) (he : takeE p s a = 0) : Sound p (heldS s a.what a.who) := by
 unfold takeE at he
 split at he
 ·cases he
 split at he
 ·cases he
 rename_i h2
 split at he
 ·cases he
 rename_i h3
 refine h.held _ _ (fun i hi q hq => ?_) (fun q hq h1q j hj => ?_)
 ·rcases h.keyed i hi q hq with h4 | h4
  ·exact .inl h4
  ·exact .inr (holds_other h4 (by omega))
 ·rw [held_get, if_neg]
  ·exact (h.safe q hq h1q).1 j hj
  ·rintro ⟨h5, _⟩
   refine h3 (anyB_t.2 ⟨q, hq, ?_⟩)
   rw [h1q]
   simp only [decide_true, Bool.true_and]
   refine anyB_t.2 ⟨j, hj, ?_⟩
   rw [decide_eq_true_iff]
   by_cases hqp : q < p.squibs.length
   ·have hm : p.squibs.getD q default ∈ p.squibs := by rw [List.getD_eq_getElem?_getD, List.getElem?_eq_getElem hqp, Option.getD_some]; exact List.getElem_mem _
    have := hp.qks _ hm j hj
    omega
   ·rw [List.getD_eq_getElem?_getD (l := p.squibs), List.getElem?_eq_none (by omega : p.squibs.length ≤ q)] at hj
    simp [default] at hj
theorem put_sound (hp : PadOk p) (h : Sound p s) (hw : 0 ≤ a.who) (he : putE p s a = 0) : Sound p (heldS s a.what (-1)) := by
 unfold putE at he
 split at he
 ·cases he
 rename_i h1
 split at he
 ·cases he
 rename_i h2
 rw [Bool.not_eq_false, atPanel_t] at h1
 simp only [ne_eq, Decidable.not_not] at h2
 refine h.held _ _ (fun i hi q hq => ?_) (fun q hq h1q j hj => ?_)
 ·by_cases hi2 : (i : Int) = a.who
  ·have : i = a.who.toNat := by omega
   rw [this, h1, hp.far] at hq
   cases hq
  ·rcases h.keyed i hi q hq with h4 | h4
   ·exact .inl h4
   ·exact .inr (holds_other h4 (by omega))
 ·rw [held_get]
  split
  ·omega
  ·exact (h.safe q hq h1q).1 j hj
theorem give_sound (h : Sound p s) (hw : 0 ≤ a.who) (he : giveE p s a = 0) : Sound p (heldS s a.what a.with_) := by
 unfold giveE at he
 split at he
 ·cases he
 rename_i h1
 split at he
 ·cases he
 rename_i h2
 split at he
 ·cases he
 rename_i h3
 rw [Bool.not_eq_false, keyedB_t] at h3
 simp only [ne_eq, Decidable.not_not] at h1 h2
 refine h.held _ _ (fun i hi q hq => ?_) (fun q hq h1q j hj => ?_)
 ·by_cases hi2 : (i : Int) = a.who
  ·have e : i = a.who.toNat := by omega
   have := h3 q (by rw [← e]; exact hq)
   rw [hi2]; exact this
  ·rcases h.keyed i hi q hq with h4 | h4
   ·exact .inl h4
   ·exact .inr (holds_other h4 (by omega))
 ·have h5 := (h.safe q hq h1q).1 j hj
  rw [held_get, if_neg]
  ·exact h5
  ·rintro ⟨h6, _⟩
   rw [← h6] at h5
   omega
/-- Where only a squib turns. -/
theorem Sound.sq (h : Sound p s) (k x : Int) (h2 : s.squibs.getD k.toNat 0 ≠ 2)
 (h1 : x = 1 → (∀ j, j < (p.squibs.getD k.toNat default).1.keys.length → s.holder.getD ((p.squibs.getD k.toNat default).1.keys.getD j 0).toNat 0 < 0) ∧ 0 ≤ s.siren ∧ s.storm = false) : Sound p (squibS s k x) := by
 refine ⟨h.room, h.pair, h.grade, fun i hi q hq => ?_, fun q hq h1q => ?_⟩
 ·rcases h.keyed i hi q hq with h4 | h4
  ·refine .inl ?_
   rw [squib_get, if_neg]
   ·exact h4
   ·rintro ⟨h5, _⟩
    rw [h5] at h2
    exact h2 h4
  ·exact .inr h4
 ·rw [squib_get] at h1q
  split at h1q
  ·rename_i h5
   obtain ⟨h5, _⟩ := h5
   rw [← h5]
   exact h1 h1q
  ·exact h.safe q (by unfold squibS at hq; simpa using hq) h1q
theorem arm_sound (h : Sound p s) (hw : 0 ≤ a.what) (he : armE p s a = 0) : Sound p (squibS s a.what 1) := by
 unfold armE at he
 split at he
 ·rename_i h1; exact absurd he h1
 split at he
 ·cases he
 rename_i h2
 split at he
 ·cases he
 rename_i h3
 split at he
 ·cases he
 rename_i h4
 split at he
 ·cases he
 rename_i h5
 simp only [ne_eq, Decidable.not_not] at h2 h5
 refine h.sq _ _ (by omega) fun _ => ⟨?_, h5.1, by simpa using h3⟩
 rw [Bool.not_eq_false] at h4
 have e : a.what = (a.what.toNat : Nat) := by omega
 rw [e] at h4
 exact owed_empty.1 h4
theorem disarm_sound (h : Sound p s) (he : disarmE p s a = 0) : Sound p (squibS s a.what 0) := by
 unfold disarmE at he
 split at he
 ·cases he
 split at he
 ·cases he
 rename_i h2
 simp only [ne_eq, Decidable.not_not] at h2
 exact h.sq _ _ (by omega) fun h => by omega
theorem fire_sound (h : Sound p s) (he : fireE p s a = 0) : Sound p (squibS s a.what 2) := by
 unfold fireE at he
 split at he
 ·rename_i h1; exact absurd he h1
 split at he
 ·cases he
 rename_i h2
 simp only [ne_eq, Decidable.not_not] at h2
 exact h.sq _ _ (by omega) fun h => by omega
theorem siren_sound (h : Sound p s) (ha : 0 ≤ a.at_) (he : sirenE p s a = 0) : Sound p (sirenS s a) := by
 unfold sirenE at he
 split at he
 ·cases he
 split at he
 ·cases he
 rename_i h2
 split at he
 ·cases he
 rename_i h3
 refine ⟨h.room, h.pair, h.grade, h.keyed, fun q hq h1q => ?_⟩
 have hs := h.safe q hq h1q
 refine ⟨hs.1, ?_, hs.2.2⟩
 unfold sirenS
 dsimp only
 cases ho : onB a with
 | true => simp; exact ha
 | false =>
   rw [ho] at h3
   refine absurd ?_ h3
   simp only [Bool.not_false, Bool.true_and]
   exact anyB_t.2 ⟨q, hq, by
    have : s.squibs.getD q 0 = 1 := h1q
    rw [this]; rfl⟩
theorem thunder_sound (h : Sound p s) (hlq : s.squibs.length = p.squibs.length) : Sound p (thunderS s a) := by
 refine ⟨h.room, h.pair, h.grade, fun i hi q hq => ?_, fun q hq h1q => ?_⟩
 ·rcases h.keyed i hi q hq with h4 | h4
  ·refine .inl ?_
   unfold thunderS
   dsimp only
   rw [getD_map _ _ _ (by have := (nears_in hq).1; omega), h4]
   unfold calm
   simp
  ·exact .inr h4
 ·unfold thunderS at hq h1q ⊢
  dsimp only at hq h1q ⊢
  rw [List.length_map] at hq
  rw [getD_map _ _ _ hq] at h1q
  unfold calm at h1q
  split at h1q
  ·cases h1q
  rename_i h5
  have hs := h.safe q hq h1q
  refine ⟨hs.1, hs.2.1, ?_⟩
  rw [h1q] at h5
  simpa using h5
/-- A move: the zones of one or two people turn. -/
theorem door_ne (hp : PadOk p) {x y : Int} (h : doorB p x y = true) : x ≠ y := by
 have hd : ∀ u v, hasDoor p u v = true → u ≠ v := by
  intro u v h
  unfold hasDoor at h
  obtain ⟨j, hj, e⟩ := anyB_t.1 h
  rw [Bool.and_eq_true, decide_eq_true_iff, decide_eq_true_iff] at e
  have hm : p.doors.getD j default ∈ p.doors := by rw [List.getD_eq_getElem?_getD, List.getElem?_eq_getElem hj, Option.getD_some]; exact List.getElem_mem _
  have := (hp.din _ hm).2.2
  rw [e.1, e.2]; exact this
 unfold doorB at h
 rw [Bool.or_eq_true] at h
 rcases h with h | h
 ·exact hd _ _ h
 ·exact fun e => hd _ _ h e.symm
theorem comes_ok {i z : Int} (h : comesE p s i z = 0) : (0 ≤ z → (zoneOf p z).grade ≤ (personOf p i).grade) ∧ (nears p.zones p.squibs z).any (stormy s) = false ∧ keyedB p s i z = true := by
 unfold comesE at h
 split at h
 ·cases h
 rename_i h1
 split at h
 ·cases h
 rename_i h2
 split at h
 ·cases h
 rename_i h3
 refine ⟨fun h0 => ?_, by simpa using h2, by simpa using h3⟩
 rw [Bool.not_eq_true, Bool.and_eq_false_iff, decide_eq_false_iff_not, decide_eq_false_iff_not] at h1
 rcases h1 with h1 | h1 <;> omega
structure MoveOk (p : Pad) (s : State) (a : PAct) : Prop where
 door : doorB p (fromZ s a) a.what = true
 same : 0 ≤ a.with_ → s.zones.getD a.with_.toNat 0 = fromZ s a
 c1 : comesE p s a.who a.what = 0
 c2 : 0 ≤ a.with_ → comesE p s a.with_ a.what = 0
 room : 0 ≤ a.what → (manyN (movedS s a).zones a.what : Int) ≤ (zoneOf p a.what).room
 al : aloneB p (movedS s a) a.what = false
 af : aloneB p (movedS s a) (fromZ s a) = false
theorem moveOk_of (h : moveE p s a = 0) : MoveOk p s a := by
 unfold moveE at h
 split at h
 ·cases h
 rename_i h1
 split at h
 ·rename_i h2; exact absurd h h2
 rename_i h2
 split at h
 ·rename_i h3; exact absurd h h3.2
 rename_i h3
 split at h
 ·cases h
 rename_i h4
 split at h
 ·cases h
 rename_i h5
 rw [Bool.not_eq_false, Bool.and_eq_true, Bool.or_eq_true, decide_eq_true_iff, decide_eq_true_iff] at h1
 rw [Bool.not_eq_true, Bool.or_eq_false_iff] at h5
 refine ⟨h1.1, fun h0 => ?_, by simpa using h2, fun h0 => ?_, fun h0 => ?_, h5.1, h5.2⟩
 ·rcases h1.2 with h | h
  ·omega
  ·exact h
 ·by_cases h6 : comesE p s a.with_ a.what = 0
  ·exact h6
  ·exact absurd ⟨h0, h6⟩ h3
 ·by_cases h6 : (zoneOf p a.what).room < manyN (movedS s a).zones a.what
  ·exact absurd ⟨h0, h6⟩ h4
  ·omega
/-- Where people are behind a move. -/
theorem moved_get (hw : 0 ≤ a.who) (i : Nat) (hi : i < s.zones.length) : (movedS s a).zones.getD i 0 = if (i : Int) = a.who ∨ (i : Int) = a.with_ then a.what else s.zones.getD i 0 := by
 unfold movedS
 dsimp only
 split
 ·rename_i h
  rw [getD_set]
  by_cases h1 : (i : Int) = a.who
  ·rw [if_pos (by omega), if_pos (.inl h1)]
  ·rw [if_neg (by omega), if_neg (by omega)]
 ·rename_i h
  rw [getD_set, getD_set, List.length_set]
  by_cases h1 : (i : Int) = a.with_
  ·rw [if_pos (by omega), if_pos (.inr h1)]
  ·rw [if_neg (by omega)]
   by_cases h2 : (i : Int) = a.who
   ·rw [if_pos (by omega), if_pos (.inl h2)]
   ·rw [if_neg (by omega), if_neg (by omega)]
theorem moved_len : (movedS s a).zones.length = s.zones.length := by
 unfold movedS; dsimp only; split <;> simp
/-- How many are in a zone behind a move. -/
theorem moved_many (hm : MoveOk p s a) (hw : 0 ≤ a.who) (hwl : a.who < s.zones.length) (hth : 0 ≤ a.with_ → a.with_ < s.zones.length ∧ a.with_ ≠ a.who) (z : Int) (hz : z ≠ a.what) :
 (manyN (movedS s a).zones z ≤ manyN s.zones z) ∧ (z ≠ fromZ s a → manyN (movedS s a).zones z = manyN s.zones z) := by
 have h1 := manyN_set s.zones a.who.toNat a.what z (by omega)
 have hxz : (if a.what = z then 1 else 0 : Nat) = 0 := if_neg (fun e => hz e.symm)
 rw [hxz] at h1
 have hf : s.zones.getD a.who.toNat 0 = fromZ s a := rfl
 rw [hf] at h1
 unfold movedS
 dsimp only
 by_cases h0 : a.with_ < 0
 ·rw [if_pos h0]
  refine ⟨by omega, fun h => ?_⟩
  rw [if_neg (fun e => h e.symm)] at h1
  omega
 ·rw [if_neg h0]
  have ht := hth (by omega)
  have h2 := manyN_set (s.zones.set a.who.toNat a.what) a.with_.toNat a.what z (by rw [List.length_set]; omega)
  have hg : (s.zones.set a.who.toNat a.what).getD a.with_.toNat 0 = fromZ s a := by
   rw [getD_set, if_neg (by omega)]; exact hm.same (by omega)
  rw [hxz, hg] at h2
  refine ⟨by omega, fun h => ?_⟩
  rw [if_neg (fun e => h e.symm)] at h1 h2
  omega
theorem move_sound (hs : StateOk p s) (h : Sound p s) (ha : ActOk p a) (k : a.kind = 1) (he : moveE p s a = 0) : Sound p (movedS s a) := by
 have hm := moveOk_of he
 have hw := ha.who
 have hlz := hs.lz
 have hth : 0 ≤ a.with_ → a.with_ < s.zones.length ∧ a.with_ ≠ a.who := fun h0 => by
  have := ha.wy (by unfold withB; simp [k]; omega)
  exact ⟨by omega, this.2⟩
 have hmany := fun z hz => moved_many hm hw.1 (by omega) hth z hz
 refine ⟨fun z hz => ?_, fun z hz hpr => ?_, fun i hi h0 => ?_, fun i hi q hq => ?_, h.safe⟩
 ·by_cases hzw : (z : Int) = a.what
  ·have := hm.room (by omega)
   unfold zoneOf at this
   rw [← hzw, Int.toNat_natCast] at this
   exact this
  ·have := (hmany z hzw).1
   have := h.room z hz
   omega
 ·by_cases hzw : (z : Int) = a.what
  ·have := hm.al
   unfold aloneB zoneOf at this
   rw [← hzw, Int.toNat_natCast, hpr] at this
   intro e
   rw [e] at this
   simp at this
  ·by_cases hzf : (z : Int) = fromZ s a
   ·have := hm.af
    unfold aloneB zoneOf at this
    rw [← hzf, Int.toNat_natCast, hpr] at this
    intro e
    rw [e] at this
    simp at this
   ·rw [(hmany z hzw).2 hzf]
    exact h.pair z hz hpr
 ·rw [moved_len] at hi
  rw [moved_get hw.1 i hi] at h0 ⊢
  split
  ·rename_i h1
   rw [if_pos h1] at h0
   rcases h1 with h1 | h1
   ·have := (comes_ok hm.c1).1 h0
    unfold personOf at this
    rw [← h1, Int.toNat_natCast] at this
    exact this
   ·have := (comes_ok (hm.c2 (by omega))).1 h0
    unfold personOf at this
    rw [← h1, Int.toNat_natCast] at this
    exact this
  ·rename_i h1
   rw [if_neg h1] at h0
   exact h.grade i hi h0
 ·rw [moved_len] at hi
  rw [moved_get hw.1 i hi] at hq
  split at hq
  ·rename_i h1
   rcases h1 with h1 | h1
   ·have := keyedB_t.1 (comes_ok hm.c1).2.2 q hq
    rw [h1]; exact this
   ·have := keyedB_t.1 (comes_ok (hm.c2 (by omega))).2.2 q hq
    rw [h1]; exact this
  ·exact h.keyed i hi q hq
theorem Sound.now (h : Sound p s) (t : Int) : Sound p (nowS s t) := ⟨h.room, h.pair, h.grade, h.keyed, h.safe⟩
/-- An act that is not refused leads from a sound state to a sound one. -/
theorem done_sound (hp : PadOk p) (hs : StateOk p s) (h : Sound p s) (ha : ActOk p a) (he : doneE p s a = 0) : StateOk p (doneS p s a) ∧ Sound p (doneS p s a) := by
 have hn : s.now ≤ a.at_ := by
  unfold doneE at he
  split at he
  ·cases he
  ·omega
 have hk : kindE p s a = 0 := by
  unfold doneE at he
  split at he
  ·cases he
  ·exact he
 unfold doneS
 rw [if_pos he]
 refine ⟨kind_ok hs ha hn, Sound.now ?_ _⟩
 have hwho := ha.who
 unfold kindE at hk
 unfold kindS
 split
 ·rename_i k; rw [if_pos k] at hk; exact move_sound hs h ha k hk
 rename_i k1; rw [if_neg k1] at hk
 split
 ·rename_i k; rw [if_pos k] at hk; exact take_sound hp h (ha.w2 (by omega)).1 hk
 rename_i k2; rw [if_neg k2] at hk
 split
 ·rename_i k; rw [if_pos k] at hk; exact put_sound hp h hwho.1 hk
 rename_i k3; rw [if_neg k3] at hk
 split
 ·rename_i k; rw [if_pos k] at hk; exact give_sound h hwho.1 hk
 rename_i k4; rw [if_neg k4] at hk
 split
 ·rename_i k; rw [if_pos k] at hk; exact arm_sound h (ha.w3 (by omega)).1 hk
 rename_i k5; rw [if_neg k5] at hk
 split
 ·rename_i k; rw [if_pos k] at hk; exact disarm_sound h hk
 rename_i k6; rw [if_neg k6] at hk
 split
 ·rename_i k; rw [if_pos k] at hk; exact fire_sound h hk
 rename_i k7; rw [if_neg k7] at hk
 split
 ·rename_i k; rw [if_pos k] at hk; exact siren_sound h ha.at0.1 hk
 ·exact thunder_sound h hs.lq
/-- No squib is armed while somebody is near it. -/
theorem sound_far (h : Sound p s) (hlq : s.squibs.length = p.squibs.length) {i q : Nat} (hi : i < s.zones.length) (hq : q ∈ nears p.zones p.squibs (s.zones.getD i 0)) : s.squibs.getD q 0 ≠ 1 := by
 intro h1
 have hl := (nears_in hq).1
 rcases h.keyed i hi q hq with h2 | ⟨j, hj, e⟩
 ·omega
 ·have := (h.safe q (by omega) h1).1 j hj
  omega
end
end Go.Proofs.Ythcnganbnbhhoaa
