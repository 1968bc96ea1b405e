/- The plain part of window.Season. -/
import Derived.Test.YtdefnmcjmklohaaPPlays
open Go Go.Proofs.Ytdefnmcjmklohaa.Sh Go.Proofs
namespace Go.Proofs.Ytdefnmcjmklohaa
set_option linter.unusedVariables false
set_option linter.unusedSimpArgs false
structure NightsF (F : Nat) (l : List WiNight) : Prop where
 n : ∀ x ∈ l, NightF F x
 l : l.length < F ∧ l.length < 9223372036854775808
section
variable {F : Nat} {p : WiPlan} {nights : List WiNight}
end
end Go.Proofs.Ytdefnmcjmklohaa
