/- The plain part of the statement about Play. -/
import Derived.Test.YtdefnmcjmklohaaP12
open Go Go.Proofs.Ytdefnmcjmklohaa.Sh Go.Proofs
namespace Go.Proofs.Ytdefnmcjmklohaa
set_option linter.unusedVariables false
set_option linter.unusedSimpArgs false
theorem beq_use (x : WiUse) : WiUse.beq x x = true := by simp [WiUse.beq]
end Go.Proofs.Ytdefnmcjmklohaa
