/- How long lists that come in are at most. Over whatever program. -/
import Derived.Test.YthcnganbnbhhoaaSa22
import Derived.Test.YthcnganbnbhhoaaSa15
namespace Go.Proofs.Ythcnganbnbhhoaa.Sh
set_option linter.unusedVariables false
set_option linter.unusedSimpArgs false
open Go Go.ChangeShapes Go.WideShapes Go.ChangeAt Go.RowKit Go.Joins Go.Deep
section
variable {P : Program} {H : Type} {enc : TypeId × Value → H} {W : World}
end
end Go.Proofs.Ythcnganbnbhhoaa.Sh
