/- Maps of whatever values: written, and looked up with 'is it there'. Over whatever program. -/
import Derived.Test.YthcnganbnbhhoaaGreatSa12
namespace Go.Proofs.YthcnganbnbhhoaaGreat.Sh
set_option linter.unusedVariables false
set_option linter.unusedSimpArgs false
open Go
section
variable {α β : Type} [BEq α] {P : Program} {kt : TypeId} {kv : α → Value}
variable {o : Oper} {fresh : Nat}
variable {o : Oper} {fresh : Nat}
end
section
variable {P : Program} {N : Nat} {ops : Array Oper} {l : List Oper} {ts : List (Nat × T)} {L : List (Option Rw)} {tr : List Stp} {K : List Oper → List Stp → St → Prop} {d : Nat} {ty : TypeId} {pos : String} {af : Array Edge} {gd : Option (Nat × Bool)}
end
def SCA {α : Type} (P : Program) (f : FuncId) (as : List T) (L : List (Option Rw)) (x : Except Int α) (t : T) (L1 : α → List (Option Rw)) (t2 : Int → T) (L2 : List (Option Rw)) : Prop :=
 SC P f as L fun se X => (∃ a, x = .ok a ∧ se = .ret t ∧ X = L1 a) ∨ ∃ e, x = .error e ∧ se = .ret (t2 e) ∧ X = L2
theorem SCA.ok {α : Type} {P : Program} {f : FuncId} {as : List T} {L : List (Option Rw)} {x : Except Int α} {t : T} {L1 : α → List (Option Rw)} {t2 : Int → T} {L2 : List (Option Rw)} (h : SCA P f as L x t L1 t2 L2) {a : α} (hn : x = .ok a) : SCR P f as L t (L1 a) := SC.mono h fun se X hX => by
 rcases hX with ⟨b, h1, h2, h3⟩ | ⟨e, h1, _⟩
 ·rw [hn] at h1; injection h1 with h1; subst h1; exact ⟨h2, h3⟩
 ·rw [hn] at h1; cases h1
theorem SCA.err {α : Type} {P : Program} {f : FuncId} {as : List T} {L : List (Option Rw)} {x : Except Int α} {t : T} {L1 : α → List (Option Rw)} {t2 : Int → T} {L2 : List (Option Rw)} (h : SCA P f as L x t L1 t2 L2) {e : Int} (hn : x = .error e) : SCR P f as L (t2 e) L2 := SC.mono h fun se X hX => by
 rcases hX with ⟨b, h1, _⟩ | ⟨b, h1, h2, h3⟩
 ·rw [hn] at h1; cases h1
 ·rw [hn] at h1; injection h1 with h1; subst h1; exact ⟨h2, h3⟩
end Go.Proofs.YthcnganbnbhhoaaGreat.Sh
