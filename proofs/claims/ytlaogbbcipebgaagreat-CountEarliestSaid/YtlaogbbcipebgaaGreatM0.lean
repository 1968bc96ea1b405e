/- Facts of the whole program. -/
import Derived.Test.YtlaogbbcipebgaaGreatRows
import Derived.KernelRfl
import Derived.JoinedOf
set_option linter.unusedVariables false
set_option linter.unusedSimpArgs false
namespace Go.Proofs.YtlaogbbcipebgaaGreat
open Go Go.Proofs
theorem C3J:Tryz.pinned.checked.prog.mayEnter=true:=by kernel_rfl
theorem C3K:Tryz.pinned.checked.prog.liftsFinal=false:=by kernel_rfl
theorem C3L:Tryz.pinned.checked.prog.make=some Make.cut:=by kernel_rfl
end Go.Proofs.YtlaogbbcipebgaaGreat
