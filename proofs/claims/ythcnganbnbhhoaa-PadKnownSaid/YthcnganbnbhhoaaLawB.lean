/- What acts that are not refused lead to, what a sound state is, when a zone is near a squib: in plain words. -/
import Derived.Test.YthcnganbnbhhoaaSafe
import Derived.Test.YthcnganbnbhhoaaCs
import Derived.Test.YthcnganbnbhhoaaPlayA
namespace Go.Proofs.Ythcnganbnbhhoaa
open Go.RowKit
section
variable {p : Pad} {s : State} {a : PAct}
theorem done_zero (he : doneE p s a = 0) : s.now ≤ a.at_ ∧ kindE p s a = 0 ∧ doneS p s a = nowS (kindS s a) a.at_ := by
 have h := he
 unfold doneE at h
 split at h
 ·cases h
 ·exact ⟨by omega, h, by unfold doneS; rw [if_pos he]⟩
theorem doE_zero (h : doE p s a = 0) : stateE p s = 0 ∧ actE p a = 0 ∧ doneE p s a = 0 := by
 unfold doE at h
 split at h
 ·rename_i h1; exact absurd h h1
 rename_i h1
 split at h
 ·rename_i h2; exact absurd h h2
 rename_i h2
 exact ⟨by simpa using h1, by simpa using h2, h⟩
theorem doE_eq (h1 : stateE p s = 0) (h2 : actE p a = 0) : doE p s a = doneE p s a := by unfold doE; rw [if_neg (fun g => g h1), if_neg (fun g => g h2)]
theorem doS_eq (h : doE p s a = 0) : doS p s a = doneS p s a := if_pos h
theorem doS_ne (h : doE p s a ≠ 0) : doS p s a = zeroS := if_neg h
theorem moves_rest (ha : ActOk p a) (he : doneE p s a = 0) : ((doneS p s a).storm = s.storm ∨ a.kind = 9) ∧ ((doneS p s a).siren = s.siren ∨ a.kind = 8) ∧ (doneS p s a).now = a.at_ := by
 obtain ⟨_, hk, hd⟩ := done_zero he
 rw [hd]
 unfold nowS kindS
 dsimp only
 split
 ·exact ⟨.inl rfl, .inl rfl, rfl⟩
 split
 ·exact ⟨.inl rfl, .inl rfl, rfl⟩
 split
 ·exact ⟨.inl rfl, .inl rfl, rfl⟩
 split
 ·exact ⟨.inl rfl, .inl rfl, rfl⟩
 split
 ·exact ⟨.inl rfl, .inl rfl, rfl⟩
 split
 ·exact ⟨.inl rfl, .inl rfl, rfl⟩
 split
 ·exact ⟨.inl rfl, .inl rfl, rfl⟩
 split
 ·rename_i k; exact ⟨.inl rfl, .inr k, rfl⟩
 ·exact ⟨.inr (by have := ha.kind; omega), .inl rfl, rfl⟩
end
section
variable {p : Pad} {s x : State} {a : PAct}
theorem stateE_t : stateE p s = 0 ↔ (padE p).2.2 = 0 ∧ StateOk p s ∧ Sound p s := by
 constructor
 ·intro h
  have h1 : (padE p).2.2 = 0 := by
   unfold stateE at h
   split at h
   ·rename_i h1; exact absurd h h1
   ·rename_i h1; simpa using h1
  have h2 := stateE_ok h
  exact ⟨h1, h2.2.1, sound_iff.1 h2.2.2⟩
 ·rintro ⟨h1, h2, h3⟩
  exact stateE_zero h1 (stateOk_iff.2 h2) (sound_iff.2 h3)
theorem stateE_done (h : stateE p s = 0) (ha : ActOk p a) (he : doneE p s a = 0) : stateE p (doneS p s a) = 0 := by
 obtain ⟨h1, h2, h3⟩ := stateE_t.1 h
 have := done_sound (padOk_of h1) h2 h3 ha he
 exact stateE_t.2 ⟨h1, this.1, this.2⟩
theorem stateE_step (h : stateE p s = 0) (ha : ActOk p a) : stateE p (stepS p s a) = 0 := by
 unfold stepS
 split
 ·rename_i he; exact stateE_done h ha he
 ·exact h
theorem stateE_run {l : List PAct} (h : stateE p s = 0) (ha : ∀ a ∈ l, ActOk p a) : stateE p (runS p s l) = 0 := by
 unfold runS
 induction l generalizing s with
 | nil => exact h
 | cons a l ih => exact ih (stateE_step h (ha a (by simp))) (fun x hx => ha x (by simp [hx]))
theorem stateE_start (h : (padE p).2.2 = 0) : stateE p (startS p) = 0 := by
 have hp := padOk_of h
 have hneg : ∀ (n i : Nat), (List.replicate n (-1 : Int)).getD i 0 = -1 ∨ (List.replicate n (-1 : Int)).getD i 0 = 0 := by
  intro n i
  rw [List.getD_eq_getElem?_getD, List.getElem?_replicate]
  split <;> simp
 have hneg2 : ∀ (n i : Nat), i < n → (List.replicate n (-1 : Int)).getD i 0 = -1 := by
  intro n i hi
  rw [List.getD_eq_getElem?_getD, List.getElem?_replicate, if_pos hi]; rfl
 have hz : ∀ (n i : Nat), (List.replicate n (0 : Int)).getD i 0 = 0 := by
  intro n i
  rw [List.getD_eq_getElem?_getD, List.getElem?_replicate]
  split <;> rfl
 have hm : ∀ z : Nat, manyN (startS p).zones z = 0 := by
  intro z
  unfold manyN startS
  rw [List.length_eq_zero_iff, List.filter_eq_nil_iff]
  intro x hx
  have := List.eq_of_mem_replicate hx
  rw [decide_eq_true_iff]; omega
 refine stateE_t.2 ⟨h, ⟨⟨by show (0 : Int) ≤ 0; omega, by show (0 : Int) ≤ 100000; omega⟩, ⟨by show (-1 : Int) ≤ -1; omega, by show (-1 : Int) ≤ 0; omega⟩, by simp [startS], by simp [startS], by simp [startS], fun k hk => ?_, fun k hk => ?_, fun k hk => ?_⟩, ⟨fun z hz => ?_, fun z hz hpr => ?_, fun i hi h0 => ?_, fun i hi q hq => ?_, fun q hq h1 => ?_⟩⟩
 ·have : (startS p).zones.getD k 0 = -1 := hneg2 _ _ (by simpa [startS] using hk)
  have := hp.nz
  omega
 ·have : (startS p).holder.getD k 0 = -1 := hneg2 _ _ (by simpa [startS] using hk)
  omega
 ·have : (startS p).squibs.getD k 0 = 0 := hz _ _
  omega
 ·rw [hm]
  have := (hp.zgr (p.zones.getD z default) (getD_in' _ hz)).2
  omega
 ·rw [hm]; omega
 ·have : (startS p).zones.getD i 0 = -1 := hneg2 _ _ (by simpa [startS] using hi)
  omega
 ·have : (startS p).zones.getD i 0 = -1 := hneg2 _ _ (by simpa [startS] using hi)
  rw [this] at hq
  have := (nears_in hq).2
  omega
 ·have : (startS p).squibs.getD q 0 = 0 := hz _ _
  omega
end
/-- A zone's sides are in order. -/
structure ZoneSide (z : Zone) : Prop where
 x : z.xlo ≤ z.xhi
 y : z.ylo ≤ z.yhi
theorem zoneE_side {z : Zone} (h : zoneE z = 0) : ZoneSide z := by
 unfold zoneE at h
 split at h
 ·rename_i h1
  simp only [sideB, Bool.and_eq_true, decide_eq_true_eq] at h1
  exact ⟨h1.1.1.1.2.2, h1.1.1.2.2.2⟩
 ·cases h
theorem pad_sides {p : Pad} (h : (padE p).2.2 = 0) : ∀ z ∈ p.zones, ZoneSide z := by
 unfold padE at h
 split at h
 ·cases h
 split at h
 ·rename_i h2; exact absurd h h2
 rename_i h2
 simp only [Decidable.not_not] at h2
 exact fun z hz => zoneE_side (firstE_mem (f := zoneE) h2 z hz)
def gapD (lo hi x : Int) : Int := x - max lo (min hi x)
theorem gapD_sq {lo hi x : Int} (h : lo ≤ hi) : gapD lo hi x * gapD lo hi x = max (max (lo - x) (x - hi)) 0 * max (max (lo - x) (x - hi)) 0 := by
 unfold gapD
 by_cases h1 : x < lo
 ·rw [show max lo (min hi x) = lo by omega, show max (max (lo - x) (x - hi)) 0 = -(x - lo) by omega, Int.neg_mul_neg]
 ·by_cases h2 : hi < x
  ·rw [show max lo (min hi x) = hi by omega, show max (max (lo - x) (x - hi)) 0 = x - hi by omega]
  ·rw [show max lo (min hi x) = x by omega, show max (max (lo - x) (x - hi)) 0 = 0 by omega, show x - x = 0 by omega]
/-- Whether a zone is near a squib. -/
def nearQ (p : Pad) (z : Int) (q : Nat) : Bool := decide (q ∈ nears p.zones p.squibs z)
theorem nearQ_t {p : Pad} {z : Int} {q : Nat} : nearQ p z q = true ↔ q ∈ nears p.zones p.squibs z := by unfold nearQ; rw [decide_eq_true_iff]
theorem nearQ_out {p : Pad} {z : Int} {q : Nat} (h : z < 0 ∨ p.squibs.length ≤ q) : nearQ p z q = false := by
 unfold nearQ
 rw [decide_eq_false_iff_not]
 intro hm
 have := nears_in hm
 omega
theorem nearQ_in {p : Pad} {z q : Nat} (hz : z < p.zones.length) (hq : q < p.squibs.length) (hs : ∀ z ∈ p.zones, ZoneSide z) :
 nearQ p z q = decide (gapD (p.zones.getD z default).xlo (p.zones.getD z default).xhi (p.squibs.getD q default).1.x * gapD (p.zones.getD z default).xlo (p.zones.getD z default).xhi (p.squibs.getD q default).1.x + gapD (p.zones.getD z default).ylo (p.zones.getD z default).yhi (p.squibs.getD q default).1.y * gapD (p.zones.getD z default).ylo (p.zones.getD z default).yhi (p.squibs.getD q default).1.y < (p.squibs.getD q default).1.clear * (p.squibs.getD q default).1.clear) := by
 have h := hs _ (getD_in' (default : Zone) hz)
 rw [gapD_sq h.x, gapD_sq h.y]
 unfold nearQ
 rw [decide_eq_decide, near_mem hq]
 unfold zoneOf squibOf nearB farX farY
 rw [decide_eq_true_iff, Int.toNat_natCast, Int.toNat_natCast]
theorem gapD_bound {lo hi x : Int} (a : -10000000 ≤ lo ∧ lo ≤ 10000000) (c : -10000000 ≤ x ∧ x ≤ 10000000) : -20000000 ≤ gapD lo hi x ∧ gapD lo hi x ≤ 20000000 := by
 unfold gapD; omega
end Go.Proofs.Ythcnganbnbhhoaa
