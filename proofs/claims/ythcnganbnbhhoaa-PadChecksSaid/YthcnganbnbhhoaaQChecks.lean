/- PadChecks, the plain part. -/
import Derived.Test.YthcnganbnbhhoaaQ2
open Go Go.Proofs.Ythcnganbnbhhoaa.Sh Go.Proofs
namespace Go.Proofs.Ythcnganbnbhhoaa
set_option linter.unusedVariables false
set_option linter.unusedSimpArgs false
theorem checks_any {F : Nat} {p : PdPad} (h : PadF F p) (ha : l_Awake 100 = some true) : l_PadChecks F p = some true := by
 rw [l_PadChecks]
 simp [pad_Check_eq h, r7_Check_eq h, ha]
end Go.Proofs.Ythcnganbnbhhoaa
