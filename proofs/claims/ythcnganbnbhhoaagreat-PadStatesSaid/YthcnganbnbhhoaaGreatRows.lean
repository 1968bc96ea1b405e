/-
  No cell of these rows narrows 'for every input' (looked for: loops, veiled, ifaces, maps, wideKeys, modest, calm, conditions, laid).
  DERIVED. THE GIVEN ROWS OF THIS SEAT. 4 by the template 'for every input the law returns true; each argument reads behind the call as it read before'; 0 by the template 'total and deterministic' (their statements: YthcnganbnbhhoaaGreatTotals.lean).
  GIVEN WITH THE SEED: the statements are not yours to turn. If you find one false, say at which input.
  Laid BY PROGRAM, IN A SANDBOX (cutbox-rows.mjs): the forced cells as the released guide's own fill.sh prints them over the translation 5eb453ef1401cb9d… (all of the seat's roots in one cut). By AI agents, Wed Nov 11 2026. No macro, syntax, notation, axiom, sorry.
-/
import Derived.Test.YthcnganbnbhhoaaGreatChecked
import GoSem.Claim
import GoSem.ClaimJoined
import GoSem.ClaimMapViews
import Derived.JoinedTies
import Derived.KernelRfl
namespace Go.Proofs.YthcnganbnbhhoaaGreat
/- THE CELL 'sum', in the pinned program and in every row, IS THE sha256 OF THE DUMP (.gsa) THAT YthcnganbnbhhoaaGreatProg.lean LOADS. Nothing in Lean hashes anything: it is a label: what it is worth is what the hold of that sum in a sandbox is worth. -/
noncomputable def Tryz.pinned : Pinned := { name := "ythcnganbnbhhoaagreat", sum := "5eb453ef1401cb9d5c03d170bccfdd10caa6ff3ee60dd07f3d7672fe058cbdb3", checked := Tryz.checked }
namespace Rows
def none {H : Type} : Left H := { results := [], args := [] }

/-- 'hangfirelaw07.PadPlays': WHATEVER THE INPUT: true; the input reads as it did. -/
def padPlaysSpec : ChangeSpec := { name := "padPlays", fn := fun _ => fun
  | [d1, d2, d3] => { results := [.lit (.bool true)], args := [d1, d2, d3] }
  | _ => none }
def padPlaysRow : OpenClaim := { program := "ythcnganbnbhhoaagreat", sum := "5eb453ef1401cb9d5c03d170bccfdd10caa6ff3ee60dd07f3d7672fe058cbdb3", func := "hangfire/hangfirelaw07.PadPlays", spec := "padPlays", unfollowed := true, recurses := true, apart := false }
def PadPlaysSaid : Prop := padPlaysRow.holds Tryz.pinned (OpenSpec.ofChange padPlaysSpec)

/-- ITS FALSE NEIGHBOUR: 'it returns false'. Refute it at one input. -/
def padPlaysWrong : ChangeSpec := { name := "padPlays", fn := fun _ => fun
  | [d1, d2, d3] => { results := [.lit (.bool false)], args := [d1, d2, d3] }
  | _ => none }
def PadPlaysWrongFalsely : Prop := padPlaysRow.holds Tryz.pinned (OpenSpec.ofChange padPlaysWrong)

/-- 'hangfirelaw07.PadDoes': WHATEVER THE INPUT: true; the input reads as it did. -/
def padDoesSpec : ChangeSpec := { name := "padDoes", fn := fun _ => fun
  | [d1, d2, d3] => { results := [.lit (.bool true)], args := [d1, d2, d3] }
  | _ => none }
def padDoesRow : OpenClaim := { program := "ythcnganbnbhhoaagreat", sum := "5eb453ef1401cb9d5c03d170bccfdd10caa6ff3ee60dd07f3d7672fe058cbdb3", func := "hangfire/hangfirelaw07.PadDoes", spec := "padDoes", unfollowed := true, recurses := true, apart := false }
def PadDoesSaid : Prop := padDoesRow.holds Tryz.pinned (OpenSpec.ofChange padDoesSpec)

/-- ITS FALSE NEIGHBOUR: 'it returns false'. Refute it at one input. -/
def padDoesWrong : ChangeSpec := { name := "padDoes", fn := fun _ => fun
  | [d1, d2, d3] => { results := [.lit (.bool false)], args := [d1, d2, d3] }
  | _ => none }
def PadDoesWrongFalsely : Prop := padDoesRow.holds Tryz.pinned (OpenSpec.ofChange padDoesWrong)

/-- 'hangfirelaw07.PadAsks': WHATEVER THE INPUT: true; the input reads as it did. -/
def padAsksSpec : ChangeSpec := { name := "padAsks", fn := fun _ => fun
  | [d1, d2, d3] => { results := [.lit (.bool true)], args := [d1, d2, d3] }
  | _ => none }
def padAsksRow : OpenClaim := { program := "ythcnganbnbhhoaagreat", sum := "5eb453ef1401cb9d5c03d170bccfdd10caa6ff3ee60dd07f3d7672fe058cbdb3", func := "hangfire/hangfirelaw07.PadAsks", spec := "padAsks", unfollowed := true, recurses := true, apart := false }
def PadAsksSaid : Prop := padAsksRow.holds Tryz.pinned (OpenSpec.ofChange padAsksSpec)

/-- ITS FALSE NEIGHBOUR: 'it returns false'. Refute it at one input. -/
def padAsksWrong : ChangeSpec := { name := "padAsks", fn := fun _ => fun
  | [d1, d2, d3] => { results := [.lit (.bool false)], args := [d1, d2, d3] }
  | _ => none }
def PadAsksWrongFalsely : Prop := padAsksRow.holds Tryz.pinned (OpenSpec.ofChange padAsksWrong)

/-- 'hangfirelaw07.PadStates': WHATEVER THE INPUT: true; the input reads as it did. -/
def padStatesSpec : ChangeSpec := { name := "padStates", fn := fun _ => fun
  | [d1, d2] => { results := [.lit (.bool true)], args := [d1, d2] }
  | _ => none }
def padStatesRow : OpenClaim := { program := "ythcnganbnbhhoaagreat", sum := "5eb453ef1401cb9d5c03d170bccfdd10caa6ff3ee60dd07f3d7672fe058cbdb3", func := "hangfire/hangfirelaw07.PadStates", spec := "padStates", unfollowed := true, recurses := true, apart := false }
def PadStatesSaid : Prop := padStatesRow.holds Tryz.pinned (OpenSpec.ofChange padStatesSpec)

/-- ITS FALSE NEIGHBOUR: 'it returns false'. Refute it at one input. -/
def padStatesWrong : ChangeSpec := { name := "padStates", fn := fun _ => fun
  | [d1, d2] => { results := [.lit (.bool false)], args := [d1, d2] }
  | _ => none }
def PadStatesWrongFalsely : Prop := padStatesRow.holds Tryz.pinned (OpenSpec.ofChange padStatesWrong)

/- THE SECOND FORM. 'bulk': how many values and letters a reading holds, each counted each time it is reached (what is shared counts as often as it is met; a slice's spare places count too). A statement '..UptoSaid' is the law's where the arguments, and the package variables that the reading takes, are together of bulk at most 1048576: NARROWER than '..Said'. Prove '..Said' where nothing that the law and all that it calls make is longer than what came in: it says more and counts as full. Else prove '..UptoSaid'. A law counts once. -/
mutual
def uptoBulk {H : Type} : DataW H → Nat
  | .lit (.string bytes) => bytes.length + 1
  | .lit _ => 1
  | .nil => 1
  | .ptr d => uptoBulk d + 1
  | .slice elems spare => uptoBulkAll elems + uptoBulkAll spare + 1
  | .agg parts => uptoBulkAll parts + 1
  | .iface _ d => uptoBulk d + 1
  | .map entries => uptoBulkEntries entries + 1
  | .held _ => 1
def uptoBulkAll {H : Type} : List (DataW H) → Nat
  | [] => 0
  | d :: r => uptoBulk d + uptoBulkAll r
def uptoBulkEntries {H : Type} : List (Lit × DataW H) → Nat
  | [] => 0
  | x :: r => uptoBulkEntry x + uptoBulkEntries r
def uptoBulkEntry {H : Type} : Lit × DataW H → Nat
  | (.string bytes, d) => bytes.length + uptoBulk d + 1
  | (_, d) => uptoBulk d + 1
 end
def uptoSmall : (H : Type) → List (DataW H) → Bool := fun _ ds => decide (uptoBulkAll ds ≤ 1048576)
def OpenSpec.upto (s : _root_.Go.ChangeSpec) : _root_.Go.OpenSpec := { _root_.Go.OpenSpec.ofChange s with cond := some uptoSmall }

/-- 'hangfirelaw07.PadPlays', WHERE WHAT IT READS IS OF BULK AT MOST 1048576: true; the input reads as it did. -/
def padPlaysUptoRow : OpenClaim := { program := "ythcnganbnbhhoaagreat", sum := "5eb453ef1401cb9d5c03d170bccfdd10caa6ff3ee60dd07f3d7672fe058cbdb3", func := "hangfire/hangfirelaw07.PadPlays", spec := "padPlays", unfollowed := true, recurses := true, apart := false, narrowed := true }
def PadPlaysUptoSaid : Prop := padPlaysUptoRow.holds Tryz.pinned (OpenSpec.upto padPlaysSpec)

/-- 'hangfirelaw07.PadDoes', WHERE WHAT IT READS IS OF BULK AT MOST 1048576: true; the input reads as it did. -/
def padDoesUptoRow : OpenClaim := { program := "ythcnganbnbhhoaagreat", sum := "5eb453ef1401cb9d5c03d170bccfdd10caa6ff3ee60dd07f3d7672fe058cbdb3", func := "hangfire/hangfirelaw07.PadDoes", spec := "padDoes", unfollowed := true, recurses := true, apart := false, narrowed := true }
def PadDoesUptoSaid : Prop := padDoesUptoRow.holds Tryz.pinned (OpenSpec.upto padDoesSpec)

/-- 'hangfirelaw07.PadAsks', WHERE WHAT IT READS IS OF BULK AT MOST 1048576: true; the input reads as it did. -/
def padAsksUptoRow : OpenClaim := { program := "ythcnganbnbhhoaagreat", sum := "5eb453ef1401cb9d5c03d170bccfdd10caa6ff3ee60dd07f3d7672fe058cbdb3", func := "hangfire/hangfirelaw07.PadAsks", spec := "padAsks", unfollowed := true, recurses := true, apart := false, narrowed := true }
def PadAsksUptoSaid : Prop := padAsksUptoRow.holds Tryz.pinned (OpenSpec.upto padAsksSpec)

/-- 'hangfirelaw07.PadStates', WHERE WHAT IT READS IS OF BULK AT MOST 1048576: true; the input reads as it did. -/
def padStatesUptoRow : OpenClaim := { program := "ythcnganbnbhhoaagreat", sum := "5eb453ef1401cb9d5c03d170bccfdd10caa6ff3ee60dd07f3d7672fe058cbdb3", func := "hangfire/hangfirelaw07.PadStates", spec := "padStates", unfollowed := true, recurses := true, apart := false, narrowed := true }
def PadStatesUptoSaid : Prop := padStatesUptoRow.holds Tryz.pinned (OpenSpec.upto padStatesSpec)

end Rows
end Go.Proofs.YthcnganbnbhhoaaGreat
