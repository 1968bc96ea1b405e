/-
  No cell of these rows narrows 'for every input' (looked for: loops, veiled, ifaces, maps, wideKeys, modest, calm, conditions, laid).
  DERIVED. THE GIVEN ROWS OF THIS SEAT. 15 by the template 'for every input the law returns true; each argument reads behind the call as it read before'; 0 by the template 'total and deterministic' (their statements: YtlaogbbcipebgaaGreatTotals.lean).
  GIVEN WITH THE SEED: the statements are not yours to turn. If you find one false, say at which input.
  Laid BY PROGRAM, IN A SANDBOX (cutbox-rows.mjs): the forced cells as the released guide's own fill.sh prints them over the translation 313b16a2b3e17edc… (all of the seat's roots in one cut). By AI agents, Wed Nov 11 2026. No macro, syntax, notation, axiom, sorry.
-/
import Derived.Test.YtlaogbbcipebgaaGreatChecked
import GoSem.Claim
import GoSem.ClaimJoined
import GoSem.ClaimMapViews
import Derived.JoinedTies
import Derived.KernelRfl
namespace Go.Proofs.YtlaogbbcipebgaaGreat
/- THE CELL 'sum', in the pinned program and in every row, IS THE sha256 OF THE DUMP (.gsa) THAT YtlaogbbcipebgaaGreatProg.lean LOADS. Nothing in Lean hashes anything: it is a label: what it is worth is what the hold of that sum in a sandbox is worth. -/
noncomputable def Tryz.pinned : Pinned := { name := "ytlaogbbcipebgaagreat", sum := "313b16a2b3e17edc34f47d647c312b0c4a21c71d000c5ada7ecca6ff8ecc6db4", checked := Tryz.checked }
namespace Rows
def none {H : Type} : Left H := { results := [], args := [] }

/-- 'hangfirelaw08.CountPlays': WHATEVER THE INPUT: true; the input reads as it did. -/
def countPlaysSpec : ChangeSpec := { name := "countPlays", fn := fun _ => fun
  | [d1, d2] => { results := [.lit (.bool true)], args := [d1, d2] }
  | _ => none }
def countPlaysRow : OpenClaim := { program := "ytlaogbbcipebgaagreat", sum := "313b16a2b3e17edc34f47d647c312b0c4a21c71d000c5ada7ecca6ff8ecc6db4", func := "hangfire/hangfirelaw08.CountPlays", spec := "countPlays", unfollowed := true, recurses := true, apart := false }
def CountPlaysSaid : Prop := countPlaysRow.holds Tryz.pinned (OpenSpec.ofChange countPlaysSpec)

/-- ITS FALSE NEIGHBOUR: 'it returns false'. Refute it at one input. -/
def countPlaysWrong : ChangeSpec := { name := "countPlays", fn := fun _ => fun
  | [d1, d2] => { results := [.lit (.bool false)], args := [d1, d2] }
  | _ => none }
def CountPlaysWrongFalsely : Prop := countPlaysRow.holds Tryz.pinned (OpenSpec.ofChange countPlaysWrong)

/-- 'hangfirelaw08.CountEarliest': WHATEVER THE INPUT: true; the input reads as it did. -/
def countEarliestSpec : ChangeSpec := { name := "countEarliest", fn := fun _ => fun
  | [d1, d2, d3] => { results := [.lit (.bool true)], args := [d1, d2, d3] }
  | _ => none }
def countEarliestRow : OpenClaim := { program := "ytlaogbbcipebgaagreat", sum := "313b16a2b3e17edc34f47d647c312b0c4a21c71d000c5ada7ecca6ff8ecc6db4", func := "hangfire/hangfirelaw08.CountEarliest", spec := "countEarliest", unfollowed := true, recurses := true, apart := false }
def CountEarliestSaid : Prop := countEarliestRow.holds Tryz.pinned (OpenSpec.ofChange countEarliestSpec)

/-- ITS FALSE NEIGHBOUR: 'it returns false'. Refute it at one input. -/
def countEarliestWrong : ChangeSpec := { name := "countEarliest", fn := fun _ => fun
  | [d1, d2, d3] => { results := [.lit (.bool false)], args := [d1, d2, d3] }
  | _ => none }
def CountEarliestWrongFalsely : Prop := countEarliestRow.holds Tryz.pinned (OpenSpec.ofChange countEarliestWrong)

/-- 'hangfirelaw08.CountPrefix': WHATEVER THE INPUT: true; the input reads as it did. -/
def countPrefixSpec : ChangeSpec := { name := "countPrefix", fn := fun _ => fun
  | [d1, d2, d3] => { results := [.lit (.bool true)], args := [d1, d2, d3] }
  | _ => none }
def countPrefixRow : OpenClaim := { program := "ytlaogbbcipebgaagreat", sum := "313b16a2b3e17edc34f47d647c312b0c4a21c71d000c5ada7ecca6ff8ecc6db4", func := "hangfire/hangfirelaw08.CountPrefix", spec := "countPrefix", unfollowed := true, recurses := true, apart := false }
def CountPrefixSaid : Prop := countPrefixRow.holds Tryz.pinned (OpenSpec.ofChange countPrefixSpec)

/-- ITS FALSE NEIGHBOUR: 'it returns false'. Refute it at one input. -/
def countPrefixWrong : ChangeSpec := { name := "countPrefix", fn := fun _ => fun
  | [d1, d2, d3] => { results := [.lit (.bool false)], args := [d1, d2, d3] }
  | _ => none }
def CountPrefixWrongFalsely : Prop := countPrefixRow.holds Tryz.pinned (OpenSpec.ofChange countPrefixWrong)

/-- 'hangfirelaw08.CountWithout': WHATEVER THE INPUT: true; the input reads as it did. -/
def countWithoutSpec : ChangeSpec := { name := "countWithout", fn := fun _ => fun
  | [d1, d2] => { results := [.lit (.bool true)], args := [d1, d2] }
  | _ => none }
def countWithoutRow : OpenClaim := { program := "ytlaogbbcipebgaagreat", sum := "313b16a2b3e17edc34f47d647c312b0c4a21c71d000c5ada7ecca6ff8ecc6db4", func := "hangfire/hangfirelaw08.CountWithout", spec := "countWithout", unfollowed := true, recurses := true, apart := false }
def CountWithoutSaid : Prop := countWithoutRow.holds Tryz.pinned (OpenSpec.ofChange countWithoutSpec)

/-- ITS FALSE NEIGHBOUR: 'it returns false'. Refute it at one input. -/
def countWithoutWrong : ChangeSpec := { name := "countWithout", fn := fun _ => fun
  | [d1, d2] => { results := [.lit (.bool false)], args := [d1, d2] }
  | _ => none }
def CountWithoutWrongFalsely : Prop := countWithoutRow.holds Tryz.pinned (OpenSpec.ofChange countWithoutWrong)

/-- 'hangfirelaw08.CountNever': WHATEVER THE INPUT: true; the input reads as it did. -/
def countNeverSpec : ChangeSpec := { name := "countNever", fn := fun _ => fun
  | [d1, d2, d3] => { results := [.lit (.bool true)], args := [d1, d2, d3] }
  | _ => none }
def countNeverRow : OpenClaim := { program := "ytlaogbbcipebgaagreat", sum := "313b16a2b3e17edc34f47d647c312b0c4a21c71d000c5ada7ecca6ff8ecc6db4", func := "hangfire/hangfirelaw08.CountNever", spec := "countNever", unfollowed := true, recurses := true, apart := false }
def CountNeverSaid : Prop := countNeverRow.holds Tryz.pinned (OpenSpec.ofChange countNeverSpec)

/-- ITS FALSE NEIGHBOUR: 'it returns false'. Refute it at one input. -/
def countNeverWrong : ChangeSpec := { name := "countNever", fn := fun _ => fun
  | [d1, d2, d3] => { results := [.lit (.bool false)], args := [d1, d2, d3] }
  | _ => none }
def CountNeverWrongFalsely : Prop := countNeverRow.holds Tryz.pinned (OpenSpec.ofChange countNeverWrong)

/-- 'hangfirelaw08.CountOrder': WHATEVER THE INPUT: true; the input reads as it did. -/
def countOrderSpec : ChangeSpec := { name := "countOrder", fn := fun _ => fun
  | [d1, d2] => { results := [.lit (.bool true)], args := [d1, d2] }
  | _ => none }
def countOrderRow : OpenClaim := { program := "ytlaogbbcipebgaagreat", sum := "313b16a2b3e17edc34f47d647c312b0c4a21c71d000c5ada7ecca6ff8ecc6db4", func := "hangfire/hangfirelaw08.CountOrder", spec := "countOrder", unfollowed := true, recurses := true, apart := false }
def CountOrderSaid : Prop := countOrderRow.holds Tryz.pinned (OpenSpec.ofChange countOrderSpec)

/-- ITS FALSE NEIGHBOUR: 'it returns false'. Refute it at one input. -/
def countOrderWrong : ChangeSpec := { name := "countOrder", fn := fun _ => fun
  | [d1, d2] => { results := [.lit (.bool false)], args := [d1, d2] }
  | _ => none }
def CountOrderWrongFalsely : Prop := countOrderRow.holds Tryz.pinned (OpenSpec.ofChange countOrderWrong)

/-- 'hangfirelaw08.CountSoon': WHATEVER THE INPUT: true; the input reads as it did. -/
def countSoonSpec : ChangeSpec := { name := "countSoon", fn := fun _ => fun
  | [d] => { results := [.lit (.bool true)], args := [d] }
  | _ => none }
def countSoonRow : OpenClaim := { program := "ytlaogbbcipebgaagreat", sum := "313b16a2b3e17edc34f47d647c312b0c4a21c71d000c5ada7ecca6ff8ecc6db4", func := "hangfire/hangfirelaw08.CountSoon", spec := "countSoon", unfollowed := true, recurses := true, apart := false }
def CountSoonSaid : Prop := countSoonRow.holds Tryz.pinned (OpenSpec.ofChange countSoonSpec)

/-- ITS FALSE NEIGHBOUR: 'it returns false'. Refute it at one input. -/
def countSoonWrong : ChangeSpec := { name := "countSoon", fn := fun _ => fun
  | [d] => { results := [.lit (.bool false)], args := [d] }
  | _ => none }
def CountSoonWrongFalsely : Prop := countSoonRow.holds Tryz.pinned (OpenSpec.ofChange countSoonWrong)

/-- 'hangfirelaw08.CountLate': WHATEVER THE INPUT: true; the input reads as it did. -/
def countLateSpec : ChangeSpec := { name := "countLate", fn := fun _ => fun
  | [d1, d2, d3] => { results := [.lit (.bool true)], args := [d1, d2, d3] }
  | _ => none }
def countLateRow : OpenClaim := { program := "ytlaogbbcipebgaagreat", sum := "313b16a2b3e17edc34f47d647c312b0c4a21c71d000c5ada7ecca6ff8ecc6db4", func := "hangfire/hangfirelaw08.CountLate", spec := "countLate", unfollowed := true, recurses := true, apart := false }
def CountLateSaid : Prop := countLateRow.holds Tryz.pinned (OpenSpec.ofChange countLateSpec)

/-- ITS FALSE NEIGHBOUR: 'it returns false'. Refute it at one input. -/
def countLateWrong : ChangeSpec := { name := "countLate", fn := fun _ => fun
  | [d1, d2, d3] => { results := [.lit (.bool false)], args := [d1, d2, d3] }
  | _ => none }
def CountLateWrongFalsely : Prop := countLateRow.holds Tryz.pinned (OpenSpec.ofChange countLateWrong)

/-- 'hangfirelaw08.CountBatteries': WHATEVER THE INPUT: true; the input reads as it did. -/
def countBatteriesSpec : ChangeSpec := { name := "countBatteries", fn := fun _ => fun
  | [d1, d2, d3] => { results := [.lit (.bool true)], args := [d1, d2, d3] }
  | _ => none }
def countBatteriesRow : OpenClaim := { program := "ytlaogbbcipebgaagreat", sum := "313b16a2b3e17edc34f47d647c312b0c4a21c71d000c5ada7ecca6ff8ecc6db4", func := "hangfire/hangfirelaw08.CountBatteries", spec := "countBatteries", unfollowed := true, recurses := true, apart := false }
def CountBatteriesSaid : Prop := countBatteriesRow.holds Tryz.pinned (OpenSpec.ofChange countBatteriesSpec)

/-- ITS FALSE NEIGHBOUR: 'it returns false'. Refute it at one input. -/
def countBatteriesWrong : ChangeSpec := { name := "countBatteries", fn := fun _ => fun
  | [d1, d2, d3] => { results := [.lit (.bool false)], args := [d1, d2, d3] }
  | _ => none }
def CountBatteriesWrongFalsely : Prop := countBatteriesRow.holds Tryz.pinned (OpenSpec.ofChange countBatteriesWrong)

/-- 'hangfirelaw08.CountLongest': WHATEVER THE INPUT: true; the input reads as it did. -/
def countLongestSpec : ChangeSpec := { name := "countLongest", fn := fun _ => fun
  | [d1, d2] => { results := [.lit (.bool true)], args := [d1, d2] }
  | _ => none }
def countLongestRow : OpenClaim := { program := "ytlaogbbcipebgaagreat", sum := "313b16a2b3e17edc34f47d647c312b0c4a21c71d000c5ada7ecca6ff8ecc6db4", func := "hangfire/hangfirelaw08.CountLongest", spec := "countLongest", unfollowed := true, recurses := true, apart := false }
def CountLongestSaid : Prop := countLongestRow.holds Tryz.pinned (OpenSpec.ofChange countLongestSpec)

/-- ITS FALSE NEIGHBOUR: 'it returns false'. Refute it at one input. -/
def countLongestWrong : ChangeSpec := { name := "countLongest", fn := fun _ => fun
  | [d1, d2] => { results := [.lit (.bool false)], args := [d1, d2] }
  | _ => none }
def CountLongestWrongFalsely : Prop := countLongestRow.holds Tryz.pinned (OpenSpec.ofChange countLongestWrong)

/-- 'hangfirelaw08.CountReady': WHATEVER THE INPUT: true; the input reads as it did. -/
def countReadySpec : ChangeSpec := { name := "countReady", fn := fun _ => fun
  | [d1, d2, d3] => { results := [.lit (.bool true)], args := [d1, d2, d3] }
  | _ => none }
def countReadyRow : OpenClaim := { program := "ytlaogbbcipebgaagreat", sum := "313b16a2b3e17edc34f47d647c312b0c4a21c71d000c5ada7ecca6ff8ecc6db4", func := "hangfire/hangfirelaw08.CountReady", spec := "countReady", unfollowed := true, recurses := true, apart := false }
def CountReadySaid : Prop := countReadyRow.holds Tryz.pinned (OpenSpec.ofChange countReadySpec)

/-- ITS FALSE NEIGHBOUR: 'it returns false'. Refute it at one input. -/
def countReadyWrong : ChangeSpec := { name := "countReady", fn := fun _ => fun
  | [d1, d2, d3] => { results := [.lit (.bool false)], args := [d1, d2, d3] }
  | _ => none }
def CountReadyWrongFalsely : Prop := countReadyRow.holds Tryz.pinned (OpenSpec.ofChange countReadyWrong)

/-- 'hangfirelaw08.CountChecks': WHATEVER THE INPUT: true; the input reads as it did. -/
def countChecksSpec : ChangeSpec := { name := "countChecks", fn := fun _ => fun
  | [d] => { results := [.lit (.bool true)], args := [d] }
  | _ => none }
def countChecksRow : OpenClaim := { program := "ytlaogbbcipebgaagreat", sum := "313b16a2b3e17edc34f47d647c312b0c4a21c71d000c5ada7ecca6ff8ecc6db4", func := "hangfire/hangfirelaw08.CountChecks", spec := "countChecks", unfollowed := true, recurses := true, apart := false }
def CountChecksSaid : Prop := countChecksRow.holds Tryz.pinned (OpenSpec.ofChange countChecksSpec)

/-- ITS FALSE NEIGHBOUR: 'it returns false'. Refute it at one input. -/
def countChecksWrong : ChangeSpec := { name := "countChecks", fn := fun _ => fun
  | [d] => { results := [.lit (.bool false)], args := [d] }
  | _ => none }
def CountChecksWrongFalsely : Prop := countChecksRow.holds Tryz.pinned (OpenSpec.ofChange countChecksWrong)

/-- 'hangfirelaw08.CountKnown': WHATEVER THE INPUT: true; the input reads as it did. -/
def countKnownSpec : ChangeSpec := { name := "countKnown", fn := fun _ => fun
  | [] => { results := [.lit (.bool true)], args := [] }
  | _ => none }
def countKnownRow : OpenClaim := { program := "ytlaogbbcipebgaagreat", sum := "313b16a2b3e17edc34f47d647c312b0c4a21c71d000c5ada7ecca6ff8ecc6db4", func := "hangfire/hangfirelaw08.CountKnown", spec := "countKnown", unfollowed := true, recurses := true, apart := false }
def CountKnownSaid : Prop := countKnownRow.holds Tryz.pinned (OpenSpec.ofChange countKnownSpec)

/-- ITS FALSE NEIGHBOUR: 'it returns false'. Refute it at one input. -/
def countKnownWrong : ChangeSpec := { name := "countKnown", fn := fun _ => fun
  | [] => { results := [.lit (.bool false)], args := [] }
  | _ => none }
def CountKnownWrongFalsely : Prop := countKnownRow.holds Tryz.pinned (OpenSpec.ofChange countKnownWrong)

/-- 'hangfirelaw08.CountSafe': WHATEVER THE INPUT: true; the input reads as it did. -/
def countSafeSpec : ChangeSpec := { name := "countSafe", fn := fun _ => fun
  | [d1, d2] => { results := [.lit (.bool true)], args := [d1, d2] }
  | _ => none }
def countSafeRow : OpenClaim := { program := "ytlaogbbcipebgaagreat", sum := "313b16a2b3e17edc34f47d647c312b0c4a21c71d000c5ada7ecca6ff8ecc6db4", func := "hangfire/hangfirelaw08.CountSafe", spec := "countSafe", unfollowed := true, recurses := true, apart := false }
def CountSafeSaid : Prop := countSafeRow.holds Tryz.pinned (OpenSpec.ofChange countSafeSpec)

/-- ITS FALSE NEIGHBOUR: 'it returns false'. Refute it at one input. -/
def countSafeWrong : ChangeSpec := { name := "countSafe", fn := fun _ => fun
  | [d1, d2] => { results := [.lit (.bool false)], args := [d1, d2] }
  | _ => none }
def CountSafeWrongFalsely : Prop := countSafeRow.holds Tryz.pinned (OpenSpec.ofChange countSafeWrong)

/-- 'hangfirelaw08.CountPeople': WHATEVER THE INPUT: true; the input reads as it did. -/
def countPeopleSpec : ChangeSpec := { name := "countPeople", fn := fun _ => fun
  | [d1, d2] => { results := [.lit (.bool true)], args := [d1, d2] }
  | _ => none }
def countPeopleRow : OpenClaim := { program := "ytlaogbbcipebgaagreat", sum := "313b16a2b3e17edc34f47d647c312b0c4a21c71d000c5ada7ecca6ff8ecc6db4", func := "hangfire/hangfirelaw08.CountPeople", spec := "countPeople", unfollowed := true, recurses := true, apart := false }
def CountPeopleSaid : Prop := countPeopleRow.holds Tryz.pinned (OpenSpec.ofChange countPeopleSpec)

/-- ITS FALSE NEIGHBOUR: 'it returns false'. Refute it at one input. -/
def countPeopleWrong : ChangeSpec := { name := "countPeople", fn := fun _ => fun
  | [d1, d2] => { results := [.lit (.bool false)], args := [d1, d2] }
  | _ => none }
def CountPeopleWrongFalsely : Prop := countPeopleRow.holds Tryz.pinned (OpenSpec.ofChange countPeopleWrong)

/- THE SECOND FORM. 'bulk': how many values and letters a reading holds, each counted each time it is reached (what is shared counts as often as it is met; a slice's spare places count too). A statement '..UptoSaid' is the law's where the arguments, and the package variables that the reading takes, are together of bulk at most 1048576: NARROWER than '..Said'. Prove '..Said' where nothing that the law and all that it calls make is longer than what came in: it says more and counts as full. Else prove '..UptoSaid'. A law counts once. -/
mutual
def uptoBulk {H : Type} : DataW H → Nat
  | .lit (.string bytes) => bytes.length + 1
  | .lit _ => 1
  | .nil => 1
  | .ptr d => uptoBulk d + 1
  | .slice elems spare => uptoBulkAll elems + uptoBulkAll spare + 1
  | .agg parts => uptoBulkAll parts + 1
  | .iface _ d => uptoBulk d + 1
  | .map entries => uptoBulkEntries entries + 1
  | .held _ => 1
def uptoBulkAll {H : Type} : List (DataW H) → Nat
  | [] => 0
  | d :: r => uptoBulk d + uptoBulkAll r
def uptoBulkEntries {H : Type} : List (Lit × DataW H) → Nat
  | [] => 0
  | x :: r => uptoBulkEntry x + uptoBulkEntries r
def uptoBulkEntry {H : Type} : Lit × DataW H → Nat
  | (.string bytes, d) => bytes.length + uptoBulk d + 1
  | (_, d) => uptoBulk d + 1
 end
def uptoSmall : (H : Type) → List (DataW H) → Bool := fun _ ds => decide (uptoBulkAll ds ≤ 1048576)
def OpenSpec.upto (s : _root_.Go.ChangeSpec) : _root_.Go.OpenSpec := { _root_.Go.OpenSpec.ofChange s with cond := some uptoSmall }

/-- 'hangfirelaw08.CountPlays', WHERE WHAT IT READS IS OF BULK AT MOST 1048576: true; the input reads as it did. -/
def countPlaysUptoRow : OpenClaim := { program := "ytlaogbbcipebgaagreat", sum := "313b16a2b3e17edc34f47d647c312b0c4a21c71d000c5ada7ecca6ff8ecc6db4", func := "hangfire/hangfirelaw08.CountPlays", spec := "countPlays", unfollowed := true, recurses := true, apart := false, narrowed := true }
def CountPlaysUptoSaid : Prop := countPlaysUptoRow.holds Tryz.pinned (OpenSpec.upto countPlaysSpec)

/-- 'hangfirelaw08.CountEarliest', WHERE WHAT IT READS IS OF BULK AT MOST 1048576: true; the input reads as it did. -/
def countEarliestUptoRow : OpenClaim := { program := "ytlaogbbcipebgaagreat", sum := "313b16a2b3e17edc34f47d647c312b0c4a21c71d000c5ada7ecca6ff8ecc6db4", func := "hangfire/hangfirelaw08.CountEarliest", spec := "countEarliest", unfollowed := true, recurses := true, apart := false, narrowed := true }
def CountEarliestUptoSaid : Prop := countEarliestUptoRow.holds Tryz.pinned (OpenSpec.upto countEarliestSpec)

/-- 'hangfirelaw08.CountPrefix', WHERE WHAT IT READS IS OF BULK AT MOST 1048576: true; the input reads as it did. -/
def countPrefixUptoRow : OpenClaim := { program := "ytlaogbbcipebgaagreat", sum := "313b16a2b3e17edc34f47d647c312b0c4a21c71d000c5ada7ecca6ff8ecc6db4", func := "hangfire/hangfirelaw08.CountPrefix", spec := "countPrefix", unfollowed := true, recurses := true, apart := false, narrowed := true }
def CountPrefixUptoSaid : Prop := countPrefixUptoRow.holds Tryz.pinned (OpenSpec.upto countPrefixSpec)

/-- 'hangfirelaw08.CountWithout', WHERE WHAT IT READS IS OF BULK AT MOST 1048576: true; the input reads as it did. -/
def countWithoutUptoRow : OpenClaim := { program := "ytlaogbbcipebgaagreat", sum := "313b16a2b3e17edc34f47d647c312b0c4a21c71d000c5ada7ecca6ff8ecc6db4", func := "hangfire/hangfirelaw08.CountWithout", spec := "countWithout", unfollowed := true, recurses := true, apart := false, narrowed := true }
def CountWithoutUptoSaid : Prop := countWithoutUptoRow.holds Tryz.pinned (OpenSpec.upto countWithoutSpec)

/-- 'hangfirelaw08.CountNever', WHERE WHAT IT READS IS OF BULK AT MOST 1048576: true; the input reads as it did. -/
def countNeverUptoRow : OpenClaim := { program := "ytlaogbbcipebgaagreat", sum := "313b16a2b3e17edc34f47d647c312b0c4a21c71d000c5ada7ecca6ff8ecc6db4", func := "hangfire/hangfirelaw08.CountNever", spec := "countNever", unfollowed := true, recurses := true, apart := false, narrowed := true }
def CountNeverUptoSaid : Prop := countNeverUptoRow.holds Tryz.pinned (OpenSpec.upto countNeverSpec)

/-- 'hangfirelaw08.CountOrder', WHERE WHAT IT READS IS OF BULK AT MOST 1048576: true; the input reads as it did. -/
def countOrderUptoRow : OpenClaim := { program := "ytlaogbbcipebgaagreat", sum := "313b16a2b3e17edc34f47d647c312b0c4a21c71d000c5ada7ecca6ff8ecc6db4", func := "hangfire/hangfirelaw08.CountOrder", spec := "countOrder", unfollowed := true, recurses := true, apart := false, narrowed := true }
def CountOrderUptoSaid : Prop := countOrderUptoRow.holds Tryz.pinned (OpenSpec.upto countOrderSpec)

/-- 'hangfirelaw08.CountSoon', WHERE WHAT IT READS IS OF BULK AT MOST 1048576: true; the input reads as it did. -/
def countSoonUptoRow : OpenClaim := { program := "ytlaogbbcipebgaagreat", sum := "313b16a2b3e17edc34f47d647c312b0c4a21c71d000c5ada7ecca6ff8ecc6db4", func := "hangfire/hangfirelaw08.CountSoon", spec := "countSoon", unfollowed := true, recurses := true, apart := false, narrowed := true }
def CountSoonUptoSaid : Prop := countSoonUptoRow.holds Tryz.pinned (OpenSpec.upto countSoonSpec)

/-- 'hangfirelaw08.CountLate', WHERE WHAT IT READS IS OF BULK AT MOST 1048576: true; the input reads as it did. -/
def countLateUptoRow : OpenClaim := { program := "ytlaogbbcipebgaagreat", sum := "313b16a2b3e17edc34f47d647c312b0c4a21c71d000c5ada7ecca6ff8ecc6db4", func := "hangfire/hangfirelaw08.CountLate", spec := "countLate", unfollowed := true, recurses := true, apart := false, narrowed := true }
def CountLateUptoSaid : Prop := countLateUptoRow.holds Tryz.pinned (OpenSpec.upto countLateSpec)

/-- 'hangfirelaw08.CountBatteries', WHERE WHAT IT READS IS OF BULK AT MOST 1048576: true; the input reads as it did. -/
def countBatteriesUptoRow : OpenClaim := { program := "ytlaogbbcipebgaagreat", sum := "313b16a2b3e17edc34f47d647c312b0c4a21c71d000c5ada7ecca6ff8ecc6db4", func := "hangfire/hangfirelaw08.CountBatteries", spec := "countBatteries", unfollowed := true, recurses := true, apart := false, narrowed := true }
def CountBatteriesUptoSaid : Prop := countBatteriesUptoRow.holds Tryz.pinned (OpenSpec.upto countBatteriesSpec)

/-- 'hangfirelaw08.CountLongest', WHERE WHAT IT READS IS OF BULK AT MOST 1048576: true; the input reads as it did. -/
def countLongestUptoRow : OpenClaim := { program := "ytlaogbbcipebgaagreat", sum := "313b16a2b3e17edc34f47d647c312b0c4a21c71d000c5ada7ecca6ff8ecc6db4", func := "hangfire/hangfirelaw08.CountLongest", spec := "countLongest", unfollowed := true, recurses := true, apart := false, narrowed := true }
def CountLongestUptoSaid : Prop := countLongestUptoRow.holds Tryz.pinned (OpenSpec.upto countLongestSpec)

/-- 'hangfirelaw08.CountReady', WHERE WHAT IT READS IS OF BULK AT MOST 1048576: true; the input reads as it did. -/
def countReadyUptoRow : OpenClaim := { program := "ytlaogbbcipebgaagreat", sum := "313b16a2b3e17edc34f47d647c312b0c4a21c71d000c5ada7ecca6ff8ecc6db4", func := "hangfire/hangfirelaw08.CountReady", spec := "countReady", unfollowed := true, recurses := true, apart := false, narrowed := true }
def CountReadyUptoSaid : Prop := countReadyUptoRow.holds Tryz.pinned (OpenSpec.upto countReadySpec)

/-- 'hangfirelaw08.CountChecks', WHERE WHAT IT READS IS OF BULK AT MOST 1048576: true; the input reads as it did. -/
def countChecksUptoRow : OpenClaim := { program := "ytlaogbbcipebgaagreat", sum := "313b16a2b3e17edc34f47d647c312b0c4a21c71d000c5ada7ecca6ff8ecc6db4", func := "hangfire/hangfirelaw08.CountChecks", spec := "countChecks", unfollowed := true, recurses := true, apart := false, narrowed := true }
def CountChecksUptoSaid : Prop := countChecksUptoRow.holds Tryz.pinned (OpenSpec.upto countChecksSpec)

/-- 'hangfirelaw08.CountKnown', WHERE WHAT IT READS IS OF BULK AT MOST 1048576: true; the input reads as it did. -/
def countKnownUptoRow : OpenClaim := { program := "ytlaogbbcipebgaagreat", sum := "313b16a2b3e17edc34f47d647c312b0c4a21c71d000c5ada7ecca6ff8ecc6db4", func := "hangfire/hangfirelaw08.CountKnown", spec := "countKnown", unfollowed := true, recurses := true, apart := false, narrowed := true }
def CountKnownUptoSaid : Prop := countKnownUptoRow.holds Tryz.pinned (OpenSpec.upto countKnownSpec)

/-- 'hangfirelaw08.CountSafe', WHERE WHAT IT READS IS OF BULK AT MOST 1048576: true; the input reads as it did. -/
def countSafeUptoRow : OpenClaim := { program := "ytlaogbbcipebgaagreat", sum := "313b16a2b3e17edc34f47d647c312b0c4a21c71d000c5ada7ecca6ff8ecc6db4", func := "hangfire/hangfirelaw08.CountSafe", spec := "countSafe", unfollowed := true, recurses := true, apart := false, narrowed := true }
def CountSafeUptoSaid : Prop := countSafeUptoRow.holds Tryz.pinned (OpenSpec.upto countSafeSpec)

/-- 'hangfirelaw08.CountPeople', WHERE WHAT IT READS IS OF BULK AT MOST 1048576: true; the input reads as it did. -/
def countPeopleUptoRow : OpenClaim := { program := "ytlaogbbcipebgaagreat", sum := "313b16a2b3e17edc34f47d647c312b0c4a21c71d000c5ada7ecca6ff8ecc6db4", func := "hangfire/hangfirelaw08.CountPeople", spec := "countPeople", unfollowed := true, recurses := true, apart := false, narrowed := true }
def CountPeopleUptoSaid : Prop := countPeopleUptoRow.holds Tryz.pinned (OpenSpec.upto countPeopleSpec)

end Rows
end Go.Proofs.YtlaogbbcipebgaaGreat
