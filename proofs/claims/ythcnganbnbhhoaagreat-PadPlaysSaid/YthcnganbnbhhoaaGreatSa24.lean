/- Maps of numbers: a literal's elements, a lookup that says whether the key is there. Over whatever program. -/
import Derived.Test.YthcnganbnbhhoaaGreatSa23
namespace Go.Proofs.YthcnganbnbhhoaaGreat.Sh
set_option linter.unusedVariables false
set_option linter.unusedSimpArgs false
open Go
section
variable {P : Program} {N : Nat} {ops : Array Oper} {l : List Oper} {ts : List (Nat × T)} {L : List (Option Rw)} {tr : List Stp} {K : List Oper → List Stp → St → Prop} {d : Nat} {ty : TypeId} {pos : String} {af : Array Edge} {gd : Option (Nat × Bool)}
end
end Go.Proofs.YthcnganbnbhhoaaGreat.Sh
