/- How long lists that come in are at most. Over whatever program. -/
import Derived.Test.YtlaogbbcipebgaaGreatSa22
import Derived.Test.YtlaogbbcipebgaaGreatSa15
namespace Go.Proofs.YtlaogbbcipebgaaGreat.Sh
set_option linter.unusedVariables false
set_option linter.unusedSimpArgs false
open Go Go.ChangeShapes Go.WideShapes Go.ChangeAt Go.RowKit Go.Joins Go.Deep
section
variable {P:Program} {H:Type} {enc:TypeId × Value→H} {W:World}
end
end Go.Proofs.YtlaogbbcipebgaaGreat.Sh
