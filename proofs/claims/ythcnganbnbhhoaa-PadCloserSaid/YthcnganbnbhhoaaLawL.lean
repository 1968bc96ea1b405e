/- A lesser Clear, a greater area: in plain words. -/
import Derived.Test.YthcnganbnbhhoaaLawB
namespace Go.Proofs.Ythcnganbnbhhoaa
open Go.RowKit
theorem getD_setX {α : Type} (l : List α) (i j : Nat) (x d : α) : (l.set i x).getD j d = if i = j ∧ j < l.length then x else l.getD j d := by
 simp only [List.getD_eq_getElem?_getD, List.getElem?_set]
 by_cases h : i = j
 ·subst h
  by_cases h2 : i < l.length
  ·simp [h2]
  ·simp [h2]
 ·simp [h]
/-- A squib with a lesser Clear. -/
structure LessQ (a b : Squib) : Prop where
 name : b.name = a.name
 x : b.x = a.x
 y : b.y = a.y
 grade : b.grade = a.grade
 keys : b.keys = a.keys
 c : b.clear = a.clear ∨ 0 ≤ b.clear ∧ b.clear ≤ a.clear
structure Less (p r : Pad) : Prop where
 zones : r.zones = p.zones
 doors : r.doors = p.doors
 people : r.people = p.people
 keys : r.keys = p.keys
 panel : r.panel = p.panel
 wait : r.wait = p.wait
 len : r.squibs.length = p.squibs.length
 q : ∀ k, LessQ (p.squibs.getD k default).1 (r.squibs.getD k default).1
theorem LessQ.near {z : Zone} {a b : Squib} (h : LessQ a b) (hn : nearB z b = true) : nearB z a = true := by
 unfold nearB farX farY at hn ⊢
 rw [decide_eq_true_iff] at hn ⊢
 rw [h.x, h.y] at hn
 rcases h.c with hc | ⟨h0, h1⟩
 ·rw [hc] at hn; exact hn
 ·have := sq_le h0 h1
  omega
theorem LessQ.err {a b : Squib} {n : Int} (h : LessQ a b) (hn : squibE a n = 0) : squibE b n = 0 := by
 have hin := squibE_in hn
 unfold squibE at hn ⊢
 rw [h.x, h.y, h.grade, h.keys]
 split at hn
 ·cases hn
 rename_i h1
 rw [Bool.not_eq_false] at h1
 have hc : inB b.clear 0 10000000 = true := inB_t.2 (by
  have := hin.c
  rcases h.c with hc | hc <;> omega)
 simp only [Bool.and_eq_true] at h1
 rw [if_neg (by rw [h1.1.1.1, h1.1.1.2, hc, h1.2]; decide)]
 exact hn
section
variable {p r : Pad} {s : State}
theorem Less.nears (h : Less p r) {z : Int} {q : Nat} (hq : q ∈ nears r.zones r.squibs z) : q ∈ nears p.zones p.squibs z := by
 unfold Go.Proofs.Ythcnganbnbhhoaa.nears at hq ⊢
 split at hq
 ·cases hq
 rename_i h0
 rw [if_neg h0]
 rw [List.mem_filter, List.mem_range, h.len, h.zones] at hq
 rw [List.mem_filter, List.mem_range]
 exact ⟨hq.1, (h.q q).near hq.2⟩
theorem Less.padE (h : Less p r) (hp : (padE p).2.2 = 0) : (padE r).2.2 = 0 := by
 unfold Go.Proofs.Ythcnganbnbhhoaa.padE at hp ⊢
 have e1 : longB r = longB p := by unfold longB; rw [h.zones, h.doors, h.people, h.keys, h.len]
 have e2 : zonesE r = zonesE p := by unfold zonesE; rw [h.zones]
 have e3 : doorsE r = doorsE p := by unfold doorsE; rw [h.zones, h.doors]
 have e4 : peopleE r = peopleE p := by unfold peopleE; rw [h.people]
 have e5 : keysE r = keysE p := by unfold keysE; rw [h.keys]
 rw [e1, e2, e3, e4, e5, h.panel, h.wait]
 split at hp
 ·cases hp
 rename_i h1
 rw [if_neg h1]
 split at hp
 ·rename_i h2; exact absurd hp h2
 rename_i h2
 rw [if_neg h2]
 split at hp
 ·rename_i h3; exact absurd hp h3
 rename_i h3
 rw [if_neg h3]
 split at hp
 ·rename_i h4; exact absurd hp h4
 rename_i h4
 rw [if_neg h4]
 split at hp
 ·rename_i h5; exact absurd hp h5
 rename_i h5
 rw [if_neg h5]
 split at hp
 ·rename_i h6; exact absurd hp h6
 rename_i h6
 have e6 : (squibsE r).2 = 0 := by
  simp only [Decidable.not_not] at h6
  unfold squibsE at h6 ⊢
  rw [h.len, h.keys]
  have hn : (fun k => (r.squibs.getD k default).1.name) = fun k => (p.squibs.getD k default).1.name := funext fun k => (h.q k).name
  rw [hn, firstE_none]
  intro j hj
  have h7 := firstE_zero h6 j hj
  unfold nameE at h7 ⊢
  split at h7
  ·cases h7
  rename_i h8
  rw [if_neg h8]
  split at h7
  ·cases h7
  rename_i h9
  rw [if_neg h9]
  exact (h.q j).err h7
 rw [if_neg (fun g => g e6), h.zones]
 split at hp
 ·cases hp
 rename_i h7
 rw [if_neg h7]
 split at hp
 ·cases hp
 rename_i h8
 have e8 : Go.Proofs.Ythcnganbnbhhoaa.nears p.zones r.squibs p.panel = [] := by
  simp only [Decidable.not_not] at h8
  refine List.eq_nil_iff_forall_not_mem.2 fun q hq => ?_
  have := h.nears (z := p.panel) (q := q) (by rw [h.zones]; exact hq)
  rw [h8] at this
  cases this
 rw [if_neg (fun g => g e8)]
 split at hp
 ·cases hp
 rename_i h9
 rw [if_neg h9]
theorem Less.state (h : Less p r) (hs : stateE p s = 0) : stateE r s = 0 := by
 obtain ⟨h1, h2, h3⟩ := stateE_t.1 hs
 refine stateE_t.2 ⟨h.padE h1, ⟨h2.now, h2.siren, by rw [h.people]; exact h2.lz, by rw [h.keys]; exact h2.lh, by rw [h.len]; exact h2.lq, by rw [h.zones]; exact h2.z, by rw [h.people]; exact h2.h, h2.q⟩, ⟨?_, ?_, ?_, ?_, ?_⟩⟩
 ·rw [h.zones]; exact h3.room
 ·rw [h.zones]; exact h3.pair
 ·unfold zoneOf; rw [h.zones, h.people]; exact h3.grade
 ·intro i hi q hq
  rcases h3.keyed i hi q (h.nears hq) with h4 | ⟨k, hk, e⟩
  ·exact .inl h4
  ·exact .inr ⟨k, by rw [(h.q q).keys]; exact hk, by rw [(h.q q).keys]; exact e⟩
 ·intro q hq h1q
  rw [(h.q q).keys]
  exact h3.safe q hq h1q
end
def lessP (p : Pad) (q : Nat) (c : Int) (v : Value) : Pad := { p with squibs := p.squibs.set q ({ (p.squibs.getD q default).1 with clear := c }, v) }
theorem lessP_less {p : Pad} {q : Nat} {c : Int} {v : Value} (hc : 0 ≤ c ∧ c ≤ (p.squibs.getD q default).1.clear) : Less p (lessP p q c v) := by
 refine ⟨rfl, rfl, rfl, rfl, rfl, rfl, by simp [lessP], fun k => ?_⟩
 unfold lessP
 dsimp only
 rw [getD_setX]
 split
 ·rename_i h
  rw [← h.1]
  exact ⟨rfl, rfl, rfl, rfl, rfl, .inr hc⟩
 ·exact ⟨rfl, rfl, rfl, rfl, rfl, .inl rfl⟩
def moreP (p : Pad) (z : Nat) (h : Int) : Pad := { p with zones := p.zones.set z { (p.zones.getD z default) with xhi := h } }
theorem moreP_near {p : Pad} {z : Nat} {h : Int} {q : Squib} (hz : z < p.zones.length) (hh : (p.zones.getD z default).xhi ≤ h) (hn : nearB (p.zones.getD z default) q = true) : nearB ((moreP p z h).zones.getD z default) q = true := by
 unfold moreP
 dsimp only
 rw [getD_setX, if_pos ⟨rfl, hz⟩]
 unfold nearB farX farY at hn ⊢
 rw [decide_eq_true_iff] at hn ⊢
 dsimp only
 have := sq_le (a := max (max ((p.zones.getD z default).xlo - q.x) (q.x - h)) 0) (b := max (max ((p.zones.getD z default).xlo - q.x) (q.x - (p.zones.getD z default).xhi)) 0) (by omega) (by omega)
 omega
end Go.Proofs.Ythcnganbnbhhoaa
