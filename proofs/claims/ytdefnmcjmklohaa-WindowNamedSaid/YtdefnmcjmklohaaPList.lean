/- The place of a number in a list. -/
import Derived.Test.YtdefnmcjmklohaaP6
open Go Go.Proofs.Ytdefnmcjmklohaa.Sh Go.Proofs
namespace Go.Proofs.Ytdefnmcjmklohaa
set_option linter.unusedVariables false
set_option linter.unusedSimpArgs false
theorem hasP_iff {l : List Int} {v : Int} : hasP l v = true ↔ v ∈ l := by
 unfold hasP
 rw [List.any_eq_true]
 constructor
 ·rintro ⟨x, h1, h2⟩
  rw [decide_eq_true_iff] at h2
  exact h2 ▸ h1
 ·intro h
  exact ⟨v, h, by simp⟩
def idxP : List Int → Int → Nat → Int
 | [], _, _ => -1
 | x :: l, v, k => if x = v then (k : Int) else idxP l v (k + 1)
theorem listed_L1 {F : Nat} {s : List Int} {v : Int} (hl : s.length < 9223372036854775808) : ∀ (n k : Nat), s.length < n + k → k ≤ s.length → l_listed_L1 F s v (fun _ => some (-1)) n k = some (idxP (s.drop k) v k)
 | 0, k, h, h2 => absurd h (by omega)
 | n + 1, k, h, h2 => by
  rw [l_listed_L1]
  by_cases hk : k < s.length
  ·rw [if_pos (by omega), ixO_nat hk, Option.bind_some, List.drop_eq_getElem_cons hk, idxP, W_succ (by omega), listed_L1 hl n (k + 1) (by omega) (by omega)]
   by_cases hp : s[k] = v <;> simp [hp]
  ·rw [if_neg (by omega), List.drop_of_length_le (by omega)]
   rfl
theorem listed_eq {F : Nat} {l : List Int} {v : Int} (hl : l.length < 9223372036854775808) (hF : l.length < F) : l_listed F l v = some (idxP l v 0) := by
 have e1 : l_listed_L1 F l v (fun _ => some (-1)) F 0 = _ := listed_L1 hl F 0 (by omega) (by omega)
 exact e1
theorem idxP_has {v : Int} : ∀ {l : List Int} {k : Nat}, decide (0 ≤ idxP l v k) = hasP l v
 | [], k => rfl
 | x :: l, k => by
  have ih := idxP_has (v := v) (l := l) (k := k + 1)
  unfold hasP at ih ⊢
  rw [idxP, List.any_cons]
  by_cases h : x = v
  ·rw [if_pos h, ← h]; simp
  ·have : ¬ v = x := fun e => h e.symm
   rw [if_neg h, ih]; simp [this]
theorem listed_has {F : Nat} {l : List Int} {v : Int} (hl : l.length < 9223372036854775808) (hF : l.length < F) : ∃ x, l_listed F l v = some x ∧ decide (0 ≤ x) = hasP l v := ⟨_, listed_eq hl hF, idxP_has⟩
end Go.Proofs.Ytdefnmcjmklohaa
