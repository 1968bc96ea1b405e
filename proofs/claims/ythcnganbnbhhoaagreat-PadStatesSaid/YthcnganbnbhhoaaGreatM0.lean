/- Facts of the whole program. -/
import Derived.Test.YthcnganbnbhhoaaGreatRows
import Derived.KernelRfl
import Derived.JoinedOf
set_option linter.unusedVariables false
set_option linter.unusedSimpArgs false
namespace Go.Proofs.YthcnganbnbhhoaaGreat
open Go Go.Proofs
theorem B7m:Tryz.pinned.checked.prog.mayEnter=true:=by kernel_rfl
theorem B7n:Tryz.pinned.checked.prog.liftsFinal=false:=by kernel_rfl
theorem B7o:Tryz.pinned.checked.prog.make=some Make.cut:=by kernel_rfl
end Go.Proofs.YthcnganbnbhhoaaGreat
