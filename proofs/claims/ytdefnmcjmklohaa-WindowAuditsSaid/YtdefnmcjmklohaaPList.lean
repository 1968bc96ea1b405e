/- The place of a number in a list. -/
import Derived.Test.YtdefnmcjmklohaaP6
open Go Go.Proofs.Ytdefnmcjmklohaa.Sh Go.Proofs
namespace Go.Proofs.Ytdefnmcjmklohaa
set_option linter.unusedVariables false
set_option linter.unusedSimpArgs false
theorem hasP_iff {l : List Int} {v : Int} : hasP l v = true ↔ v ∈ l := by
 unfold hasP
 rw [List.any_eq_true]
 constructor
 ·rintro ⟨x, h1, h2⟩
  rw [decide_eq_true_iff] at h2
  exact h2 ▸ h1
 ·intro h
  exact ⟨v, h, by simp⟩
end Go.Proofs.Ytdefnmcjmklohaa
