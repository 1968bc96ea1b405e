/- The first part of an own row; what is behind an element, appended to what is ahead of it. Over whatever program. -/
import Derived.Test.YtdefnmcjmklohaaSa15
namespace Go.Proofs.Ytdefnmcjmklohaa.Sh
set_option linter.unusedVariables false
set_option linter.unusedSimpArgs false
open Go
section
variable {P : Program} {o : Oper} {fresh : Nat}
end
section
variable {P : Program} {N : Nat} {ops : Array Oper} {l : List Oper} {ts : List (Nat × T)} {L : List (Option Rw)} {tr : List Stp} {d : Nat} {ty : TypeId} {pos : String} {af : Array Edge} {gd : Option (Nat × Bool)} {K : List Oper → List Stp → St → Prop}
end
end Go.Proofs.Ytdefnmcjmklohaa.Sh
