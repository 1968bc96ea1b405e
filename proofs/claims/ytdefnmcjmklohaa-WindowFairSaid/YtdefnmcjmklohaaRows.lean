/-
  No cell of these rows narrows 'for every input' (looked for: loops, veiled, ifaces, maps, wideKeys, modest, calm, conditions, laid).
  DERIVED. THE GIVEN ROWS OF THIS SEAT. 13 by the template 'for every input the law returns true; each argument reads behind the call as it read before'; 0 by the template 'total and deterministic' (their statements: YtdefnmcjmklohaaTotals.lean).
  GIVEN WITH THE SEED: the statements are not yours to turn. If you find one false, say at which input.
  Laid BY PROGRAM, IN A SANDBOX (cutbox-rows.mjs): the forced cells as the released guide's own fill.sh prints them over the translation c30623d8cd8ef77c… (all of the seat's roots in one cut). By AI agents, Wed Nov 11 2026. No macro, syntax, notation, axiom, sorry.
-/
import Derived.Test.YtdefnmcjmklohaaChecked
import GoSem.Claim
import GoSem.ClaimJoined
import GoSem.ClaimMapViews
import Derived.JoinedTies
import Derived.KernelRfl
namespace Go.Proofs.Ytdefnmcjmklohaa
/- THE CELL 'sum', in the pinned program and in every row, IS THE sha256 OF THE DUMP (.gsa) THAT YtdefnmcjmklohaaProg.lean LOADS. Nothing in Lean hashes anything: it is a label: what it is worth is what the hold of that sum in a sandbox is worth. -/
noncomputable def Try.pinned : Pinned := { name := "ytdefnmcjmklohaa", sum := "c30623d8cd8ef77cc06ff1834b840424a589390bf51b9be82a95bb812be5a675", checked := Try.checked }
namespace Rows
def none {H : Type} : Left H := { results := [], args := [] }

/-- 'hangfirelaw11.WindowChecks': WHATEVER THE INPUT: true; the input reads as it did. -/
def windowChecksSpec : ChangeSpec := { name := "windowChecks", fn := fun _ => fun
  | [d1, d2] => { results := [.lit (.bool true)], args := [d1, d2] }
  | _ => none }
def windowChecksRow : OpenClaim := { program := "ytdefnmcjmklohaa", sum := "c30623d8cd8ef77cc06ff1834b840424a589390bf51b9be82a95bb812be5a675", func := "hangfire/hangfirelaw11.WindowChecks", spec := "windowChecks", unfollowed := true, recurses := true, apart := false }
def WindowChecksSaid : Prop := windowChecksRow.holds Try.pinned (OpenSpec.ofChange windowChecksSpec)

/-- ITS FALSE NEIGHBOUR: 'it returns false'. Refute it at one input. -/
def windowChecksWrong : ChangeSpec := { name := "windowChecks", fn := fun _ => fun
  | [d1, d2] => { results := [.lit (.bool false)], args := [d1, d2] }
  | _ => none }
def WindowChecksWrongFalsely : Prop := windowChecksRow.holds Try.pinned (OpenSpec.ofChange windowChecksWrong)

/-- 'hangfirelaw11.WindowPlays': WHATEVER THE INPUT: true; the input reads as it did. -/
def windowPlaysSpec : ChangeSpec := { name := "windowPlays", fn := fun _ => fun
  | [d1, d2, d3] => { results := [.lit (.bool true)], args := [d1, d2, d3] }
  | _ => none }
def windowPlaysRow : OpenClaim := { program := "ytdefnmcjmklohaa", sum := "c30623d8cd8ef77cc06ff1834b840424a589390bf51b9be82a95bb812be5a675", func := "hangfire/hangfirelaw11.WindowPlays", spec := "windowPlays", unfollowed := true, recurses := true, apart := false }
def WindowPlaysSaid : Prop := windowPlaysRow.holds Try.pinned (OpenSpec.ofChange windowPlaysSpec)

/-- ITS FALSE NEIGHBOUR: 'it returns false'. Refute it at one input. -/
def windowPlaysWrong : ChangeSpec := { name := "windowPlays", fn := fun _ => fun
  | [d1, d2, d3] => { results := [.lit (.bool false)], args := [d1, d2, d3] }
  | _ => none }
def WindowPlaysWrongFalsely : Prop := windowPlaysRow.holds Try.pinned (OpenSpec.ofChange windowPlaysWrong)

/-- 'hangfirelaw11.WindowFair': WHATEVER THE INPUT: true; the input reads as it did. -/
def windowFairSpec : ChangeSpec := { name := "windowFair", fn := fun _ => fun
  | [d1, d2, d3] => { results := [.lit (.bool true)], args := [d1, d2, d3] }
  | _ => none }
def windowFairRow : OpenClaim := { program := "ytdefnmcjmklohaa", sum := "c30623d8cd8ef77cc06ff1834b840424a589390bf51b9be82a95bb812be5a675", func := "hangfire/hangfirelaw11.WindowFair", spec := "windowFair", unfollowed := true, recurses := true, apart := false }
def WindowFairSaid : Prop := windowFairRow.holds Try.pinned (OpenSpec.ofChange windowFairSpec)

/-- ITS FALSE NEIGHBOUR: 'it returns false'. Refute it at one input. -/
def windowFairWrong : ChangeSpec := { name := "windowFair", fn := fun _ => fun
  | [d1, d2, d3] => { results := [.lit (.bool false)], args := [d1, d2, d3] }
  | _ => none }
def WindowFairWrongFalsely : Prop := windowFairRow.holds Try.pinned (OpenSpec.ofChange windowFairWrong)

/-- 'hangfirelaw11.WindowParts': WHATEVER THE INPUT: true; the input reads as it did. -/
def windowPartsSpec : ChangeSpec := { name := "windowParts", fn := fun _ => fun
  | [d1, d2, d3] => { results := [.lit (.bool true)], args := [d1, d2, d3] }
  | _ => none }
def windowPartsRow : OpenClaim := { program := "ytdefnmcjmklohaa", sum := "c30623d8cd8ef77cc06ff1834b840424a589390bf51b9be82a95bb812be5a675", func := "hangfire/hangfirelaw11.WindowParts", spec := "windowParts", unfollowed := true, recurses := true, apart := false }
def WindowPartsSaid : Prop := windowPartsRow.holds Try.pinned (OpenSpec.ofChange windowPartsSpec)

/-- ITS FALSE NEIGHBOUR: 'it returns false'. Refute it at one input. -/
def windowPartsWrong : ChangeSpec := { name := "windowParts", fn := fun _ => fun
  | [d1, d2, d3] => { results := [.lit (.bool false)], args := [d1, d2, d3] }
  | _ => none }
def WindowPartsWrongFalsely : Prop := windowPartsRow.holds Try.pinned (OpenSpec.ofChange windowPartsWrong)

/-- 'hangfirelaw11.WindowFirst': WHATEVER THE INPUT: true; the input reads as it did. -/
def windowFirstSpec : ChangeSpec := { name := "windowFirst", fn := fun _ => fun
  | [d1, d2] => { results := [.lit (.bool true)], args := [d1, d2] }
  | _ => none }
def windowFirstRow : OpenClaim := { program := "ytdefnmcjmklohaa", sum := "c30623d8cd8ef77cc06ff1834b840424a589390bf51b9be82a95bb812be5a675", func := "hangfire/hangfirelaw11.WindowFirst", spec := "windowFirst", unfollowed := true, recurses := true, apart := false }
def WindowFirstSaid : Prop := windowFirstRow.holds Try.pinned (OpenSpec.ofChange windowFirstSpec)

/-- ITS FALSE NEIGHBOUR: 'it returns false'. Refute it at one input. -/
def windowFirstWrong : ChangeSpec := { name := "windowFirst", fn := fun _ => fun
  | [d1, d2] => { results := [.lit (.bool false)], args := [d1, d2] }
  | _ => none }
def WindowFirstWrongFalsely : Prop := windowFirstRow.holds Try.pinned (OpenSpec.ofChange windowFirstWrong)

/-- 'hangfirelaw11.WindowTurns': WHATEVER THE INPUT: true; the input reads as it did. -/
def windowTurnsSpec : ChangeSpec := { name := "windowTurns", fn := fun _ => fun
  | [d1, d2, d3] => { results := [.lit (.bool true)], args := [d1, d2, d3] }
  | _ => none }
def windowTurnsRow : OpenClaim := { program := "ytdefnmcjmklohaa", sum := "c30623d8cd8ef77cc06ff1834b840424a589390bf51b9be82a95bb812be5a675", func := "hangfire/hangfirelaw11.WindowTurns", spec := "windowTurns", unfollowed := true, recurses := true, apart := false }
def WindowTurnsSaid : Prop := windowTurnsRow.holds Try.pinned (OpenSpec.ofChange windowTurnsSpec)

/-- ITS FALSE NEIGHBOUR: 'it returns false'. Refute it at one input. -/
def windowTurnsWrong : ChangeSpec := { name := "windowTurns", fn := fun _ => fun
  | [d1, d2, d3] => { results := [.lit (.bool false)], args := [d1, d2, d3] }
  | _ => none }
def WindowTurnsWrongFalsely : Prop := windowTurnsRow.holds Try.pinned (OpenSpec.ofChange windowTurnsWrong)

/-- 'hangfirelaw11.WindowNamed': WHATEVER THE INPUT: true; the input reads as it did. -/
def windowNamedSpec : ChangeSpec := { name := "windowNamed", fn := fun _ => fun
  | [d1, d2, d3] => { results := [.lit (.bool true)], args := [d1, d2, d3] }
  | _ => none }
def windowNamedRow : OpenClaim := { program := "ytdefnmcjmklohaa", sum := "c30623d8cd8ef77cc06ff1834b840424a589390bf51b9be82a95bb812be5a675", func := "hangfire/hangfirelaw11.WindowNamed", spec := "windowNamed", unfollowed := true, recurses := true, apart := false }
def WindowNamedSaid : Prop := windowNamedRow.holds Try.pinned (OpenSpec.ofChange windowNamedSpec)

/-- ITS FALSE NEIGHBOUR: 'it returns false'. Refute it at one input. -/
def windowNamedWrong : ChangeSpec := { name := "windowNamed", fn := fun _ => fun
  | [d1, d2, d3] => { results := [.lit (.bool false)], args := [d1, d2, d3] }
  | _ => none }
def WindowNamedWrongFalsely : Prop := windowNamedRow.holds Try.pinned (OpenSpec.ofChange windowNamedWrong)

/-- 'hangfirelaw11.WindowPassed': WHATEVER THE INPUT: true; the input reads as it did. -/
def windowPassedSpec : ChangeSpec := { name := "windowPassed", fn := fun _ => fun
  | [d1, d2, d3] => { results := [.lit (.bool true)], args := [d1, d2, d3] }
  | _ => none }
def windowPassedRow : OpenClaim := { program := "ytdefnmcjmklohaa", sum := "c30623d8cd8ef77cc06ff1834b840424a589390bf51b9be82a95bb812be5a675", func := "hangfire/hangfirelaw11.WindowPassed", spec := "windowPassed", unfollowed := true, recurses := true, apart := false }
def WindowPassedSaid : Prop := windowPassedRow.holds Try.pinned (OpenSpec.ofChange windowPassedSpec)

/-- ITS FALSE NEIGHBOUR: 'it returns false'. Refute it at one input. -/
def windowPassedWrong : ChangeSpec := { name := "windowPassed", fn := fun _ => fun
  | [d1, d2, d3] => { results := [.lit (.bool false)], args := [d1, d2, d3] }
  | _ => none }
def WindowPassedWrongFalsely : Prop := windowPassedRow.holds Try.pinned (OpenSpec.ofChange windowPassedWrong)

/-- 'hangfirelaw11.WindowScrubs': WHATEVER THE INPUT: true; the input reads as it did. -/
def windowScrubsSpec : ChangeSpec := { name := "windowScrubs", fn := fun _ => fun
  | [d1, d2, d3] => { results := [.lit (.bool true)], args := [d1, d2, d3] }
  | _ => none }
def windowScrubsRow : OpenClaim := { program := "ytdefnmcjmklohaa", sum := "c30623d8cd8ef77cc06ff1834b840424a589390bf51b9be82a95bb812be5a675", func := "hangfire/hangfirelaw11.WindowScrubs", spec := "windowScrubs", unfollowed := true, recurses := true, apart := false }
def WindowScrubsSaid : Prop := windowScrubsRow.holds Try.pinned (OpenSpec.ofChange windowScrubsSpec)

/-- ITS FALSE NEIGHBOUR: 'it returns false'. Refute it at one input. -/
def windowScrubsWrong : ChangeSpec := { name := "windowScrubs", fn := fun _ => fun
  | [d1, d2, d3] => { results := [.lit (.bool false)], args := [d1, d2, d3] }
  | _ => none }
def WindowScrubsWrongFalsely : Prop := windowScrubsRow.holds Try.pinned (OpenSpec.ofChange windowScrubsWrong)

/-- 'hangfirelaw11.WindowAudits': WHATEVER THE INPUT: true; the input reads as it did. -/
def windowAuditsSpec : ChangeSpec := { name := "windowAudits", fn := fun _ => fun
  | [d1, d2, d3] => { results := [.lit (.bool true)], args := [d1, d2, d3] }
  | _ => none }
def windowAuditsRow : OpenClaim := { program := "ytdefnmcjmklohaa", sum := "c30623d8cd8ef77cc06ff1834b840424a589390bf51b9be82a95bb812be5a675", func := "hangfire/hangfirelaw11.WindowAudits", spec := "windowAudits", unfollowed := true, recurses := true, apart := false }
def WindowAuditsSaid : Prop := windowAuditsRow.holds Try.pinned (OpenSpec.ofChange windowAuditsSpec)

/-- ITS FALSE NEIGHBOUR: 'it returns false'. Refute it at one input. -/
def windowAuditsWrong : ChangeSpec := { name := "windowAudits", fn := fun _ => fun
  | [d1, d2, d3] => { results := [.lit (.bool false)], args := [d1, d2, d3] }
  | _ => none }
def WindowAuditsWrongFalsely : Prop := windowAuditsRow.holds Try.pinned (OpenSpec.ofChange windowAuditsWrong)

/-- 'hangfirelaw11.WindowRights': WHATEVER THE INPUT: true; the input reads as it did. -/
def windowRightsSpec : ChangeSpec := { name := "windowRights", fn := fun _ => fun
  | [d1, d2] => { results := [.lit (.bool true)], args := [d1, d2] }
  | _ => none }
def windowRightsRow : OpenClaim := { program := "ytdefnmcjmklohaa", sum := "c30623d8cd8ef77cc06ff1834b840424a589390bf51b9be82a95bb812be5a675", func := "hangfire/hangfirelaw11.WindowRights", spec := "windowRights", unfollowed := true, recurses := true, apart := false }
def WindowRightsSaid : Prop := windowRightsRow.holds Try.pinned (OpenSpec.ofChange windowRightsSpec)

/-- ITS FALSE NEIGHBOUR: 'it returns false'. Refute it at one input. -/
def windowRightsWrong : ChangeSpec := { name := "windowRights", fn := fun _ => fun
  | [d1, d2] => { results := [.lit (.bool false)], args := [d1, d2] }
  | _ => none }
def WindowRightsWrongFalsely : Prop := windowRightsRow.holds Try.pinned (OpenSpec.ofChange windowRightsWrong)

/-- 'hangfirelaw11.WindowLater': WHATEVER THE INPUT: true; the input reads as it did. -/
def windowLaterSpec : ChangeSpec := { name := "windowLater", fn := fun _ => fun
  | [d1, d2, d3] => { results := [.lit (.bool true)], args := [d1, d2, d3] }
  | _ => none }
def windowLaterRow : OpenClaim := { program := "ytdefnmcjmklohaa", sum := "c30623d8cd8ef77cc06ff1834b840424a589390bf51b9be82a95bb812be5a675", func := "hangfire/hangfirelaw11.WindowLater", spec := "windowLater", unfollowed := true, recurses := true, apart := false }
def WindowLaterSaid : Prop := windowLaterRow.holds Try.pinned (OpenSpec.ofChange windowLaterSpec)

/-- ITS FALSE NEIGHBOUR: 'it returns false'. Refute it at one input. -/
def windowLaterWrong : ChangeSpec := { name := "windowLater", fn := fun _ => fun
  | [d1, d2, d3] => { results := [.lit (.bool false)], args := [d1, d2, d3] }
  | _ => none }
def WindowLaterWrongFalsely : Prop := windowLaterRow.holds Try.pinned (OpenSpec.ofChange windowLaterWrong)

/-- 'hangfirelaw11.WindowKnown': WHATEVER THE INPUT: true; the input reads as it did. -/
def windowKnownSpec : ChangeSpec := { name := "windowKnown", fn := fun _ => fun
  | [] => { results := [.lit (.bool true)], args := [] }
  | _ => none }
def windowKnownRow : OpenClaim := { program := "ytdefnmcjmklohaa", sum := "c30623d8cd8ef77cc06ff1834b840424a589390bf51b9be82a95bb812be5a675", func := "hangfire/hangfirelaw11.WindowKnown", spec := "windowKnown", unfollowed := true, recurses := true, apart := false }
def WindowKnownSaid : Prop := windowKnownRow.holds Try.pinned (OpenSpec.ofChange windowKnownSpec)

/-- ITS FALSE NEIGHBOUR: 'it returns false'. Refute it at one input. -/
def windowKnownWrong : ChangeSpec := { name := "windowKnown", fn := fun _ => fun
  | [] => { results := [.lit (.bool false)], args := [] }
  | _ => none }
def WindowKnownWrongFalsely : Prop := windowKnownRow.holds Try.pinned (OpenSpec.ofChange windowKnownWrong)

/- THE SECOND FORM. 'bulk': how many values and letters a reading holds, each counted each time it is reached (what is shared counts as often as it is met; a slice's spare places count too). A statement '..UptoSaid' is the law's where the arguments, and the package variables that the reading takes, are together of bulk at most 1048576: NARROWER than '..Said'. Prove '..Said' where nothing that the law and all that it calls make is longer than what came in: it says more and counts as full. Else prove '..UptoSaid'. A law counts once. -/
mutual
def uptoBulk {H : Type} : DataW H → Nat
  | .lit (.string bytes) => bytes.length + 1
  | .lit _ => 1
  | .nil => 1
  | .ptr d => uptoBulk d + 1
  | .slice elems spare => uptoBulkAll elems + uptoBulkAll spare + 1
  | .agg parts => uptoBulkAll parts + 1
  | .iface _ d => uptoBulk d + 1
  | .map entries => uptoBulkEntries entries + 1
  | .held _ => 1
def uptoBulkAll {H : Type} : List (DataW H) → Nat
  | [] => 0
  | d :: r => uptoBulk d + uptoBulkAll r
def uptoBulkEntries {H : Type} : List (Lit × DataW H) → Nat
  | [] => 0
  | x :: r => uptoBulkEntry x + uptoBulkEntries r
def uptoBulkEntry {H : Type} : Lit × DataW H → Nat
  | (.string bytes, d) => bytes.length + uptoBulk d + 1
  | (_, d) => uptoBulk d + 1
 end
def uptoSmall : (H : Type) → List (DataW H) → Bool := fun _ ds => decide (uptoBulkAll ds ≤ 1048576)
def OpenSpec.upto (s : _root_.Go.ChangeSpec) : _root_.Go.OpenSpec := { _root_.Go.OpenSpec.ofChange s with cond := some uptoSmall }

/-- 'hangfirelaw11.WindowChecks', WHERE WHAT IT READS IS OF BULK AT MOST 1048576: true; the input reads as it did. -/
def windowChecksUptoRow : OpenClaim := { program := "ytdefnmcjmklohaa", sum := "c30623d8cd8ef77cc06ff1834b840424a589390bf51b9be82a95bb812be5a675", func := "hangfire/hangfirelaw11.WindowChecks", spec := "windowChecks", unfollowed := true, recurses := true, apart := false, narrowed := true }
def WindowChecksUptoSaid : Prop := windowChecksUptoRow.holds Try.pinned (OpenSpec.upto windowChecksSpec)

/-- 'hangfirelaw11.WindowPlays', WHERE WHAT IT READS IS OF BULK AT MOST 1048576: true; the input reads as it did. -/
def windowPlaysUptoRow : OpenClaim := { program := "ytdefnmcjmklohaa", sum := "c30623d8cd8ef77cc06ff1834b840424a589390bf51b9be82a95bb812be5a675", func := "hangfire/hangfirelaw11.WindowPlays", spec := "windowPlays", unfollowed := true, recurses := true, apart := false, narrowed := true }
def WindowPlaysUptoSaid : Prop := windowPlaysUptoRow.holds Try.pinned (OpenSpec.upto windowPlaysSpec)

/-- 'hangfirelaw11.WindowFair', WHERE WHAT IT READS IS OF BULK AT MOST 1048576: true; the input reads as it did. -/
def windowFairUptoRow : OpenClaim := { program := "ytdefnmcjmklohaa", sum := "c30623d8cd8ef77cc06ff1834b840424a589390bf51b9be82a95bb812be5a675", func := "hangfire/hangfirelaw11.WindowFair", spec := "windowFair", unfollowed := true, recurses := true, apart := false, narrowed := true }
def WindowFairUptoSaid : Prop := windowFairUptoRow.holds Try.pinned (OpenSpec.upto windowFairSpec)

/-- 'hangfirelaw11.WindowParts', WHERE WHAT IT READS IS OF BULK AT MOST 1048576: true; the input reads as it did. -/
def windowPartsUptoRow : OpenClaim := { program := "ytdefnmcjmklohaa", sum := "c30623d8cd8ef77cc06ff1834b840424a589390bf51b9be82a95bb812be5a675", func := "hangfire/hangfirelaw11.WindowParts", spec := "windowParts", unfollowed := true, recurses := true, apart := false, narrowed := true }
def WindowPartsUptoSaid : Prop := windowPartsUptoRow.holds Try.pinned (OpenSpec.upto windowPartsSpec)

/-- 'hangfirelaw11.WindowFirst', WHERE WHAT IT READS IS OF BULK AT MOST 1048576: true; the input reads as it did. -/
def windowFirstUptoRow : OpenClaim := { program := "ytdefnmcjmklohaa", sum := "c30623d8cd8ef77cc06ff1834b840424a589390bf51b9be82a95bb812be5a675", func := "hangfire/hangfirelaw11.WindowFirst", spec := "windowFirst", unfollowed := true, recurses := true, apart := false, narrowed := true }
def WindowFirstUptoSaid : Prop := windowFirstUptoRow.holds Try.pinned (OpenSpec.upto windowFirstSpec)

/-- 'hangfirelaw11.WindowTurns', WHERE WHAT IT READS IS OF BULK AT MOST 1048576: true; the input reads as it did. -/
def windowTurnsUptoRow : OpenClaim := { program := "ytdefnmcjmklohaa", sum := "c30623d8cd8ef77cc06ff1834b840424a589390bf51b9be82a95bb812be5a675", func := "hangfire/hangfirelaw11.WindowTurns", spec := "windowTurns", unfollowed := true, recurses := true, apart := false, narrowed := true }
def WindowTurnsUptoSaid : Prop := windowTurnsUptoRow.holds Try.pinned (OpenSpec.upto windowTurnsSpec)

/-- 'hangfirelaw11.WindowNamed', WHERE WHAT IT READS IS OF BULK AT MOST 1048576: true; the input reads as it did. -/
def windowNamedUptoRow : OpenClaim := { program := "ytdefnmcjmklohaa", sum := "c30623d8cd8ef77cc06ff1834b840424a589390bf51b9be82a95bb812be5a675", func := "hangfire/hangfirelaw11.WindowNamed", spec := "windowNamed", unfollowed := true, recurses := true, apart := false, narrowed := true }
def WindowNamedUptoSaid : Prop := windowNamedUptoRow.holds Try.pinned (OpenSpec.upto windowNamedSpec)

/-- 'hangfirelaw11.WindowPassed', WHERE WHAT IT READS IS OF BULK AT MOST 1048576: true; the input reads as it did. -/
def windowPassedUptoRow : OpenClaim := { program := "ytdefnmcjmklohaa", sum := "c30623d8cd8ef77cc06ff1834b840424a589390bf51b9be82a95bb812be5a675", func := "hangfire/hangfirelaw11.WindowPassed", spec := "windowPassed", unfollowed := true, recurses := true, apart := false, narrowed := true }
def WindowPassedUptoSaid : Prop := windowPassedUptoRow.holds Try.pinned (OpenSpec.upto windowPassedSpec)

/-- 'hangfirelaw11.WindowScrubs', WHERE WHAT IT READS IS OF BULK AT MOST 1048576: true; the input reads as it did. -/
def windowScrubsUptoRow : OpenClaim := { program := "ytdefnmcjmklohaa", sum := "c30623d8cd8ef77cc06ff1834b840424a589390bf51b9be82a95bb812be5a675", func := "hangfire/hangfirelaw11.WindowScrubs", spec := "windowScrubs", unfollowed := true, recurses := true, apart := false, narrowed := true }
def WindowScrubsUptoSaid : Prop := windowScrubsUptoRow.holds Try.pinned (OpenSpec.upto windowScrubsSpec)

/-- 'hangfirelaw11.WindowAudits', WHERE WHAT IT READS IS OF BULK AT MOST 1048576: true; the input reads as it did. -/
def windowAuditsUptoRow : OpenClaim := { program := "ytdefnmcjmklohaa", sum := "c30623d8cd8ef77cc06ff1834b840424a589390bf51b9be82a95bb812be5a675", func := "hangfire/hangfirelaw11.WindowAudits", spec := "windowAudits", unfollowed := true, recurses := true, apart := false, narrowed := true }
def WindowAuditsUptoSaid : Prop := windowAuditsUptoRow.holds Try.pinned (OpenSpec.upto windowAuditsSpec)

/-- 'hangfirelaw11.WindowRights', WHERE WHAT IT READS IS OF BULK AT MOST 1048576: true; the input reads as it did. -/
def windowRightsUptoRow : OpenClaim := { program := "ytdefnmcjmklohaa", sum := "c30623d8cd8ef77cc06ff1834b840424a589390bf51b9be82a95bb812be5a675", func := "hangfire/hangfirelaw11.WindowRights", spec := "windowRights", unfollowed := true, recurses := true, apart := false, narrowed := true }
def WindowRightsUptoSaid : Prop := windowRightsUptoRow.holds Try.pinned (OpenSpec.upto windowRightsSpec)

/-- 'hangfirelaw11.WindowLater', WHERE WHAT IT READS IS OF BULK AT MOST 1048576: true; the input reads as it did. -/
def windowLaterUptoRow : OpenClaim := { program := "ytdefnmcjmklohaa", sum := "c30623d8cd8ef77cc06ff1834b840424a589390bf51b9be82a95bb812be5a675", func := "hangfire/hangfirelaw11.WindowLater", spec := "windowLater", unfollowed := true, recurses := true, apart := false, narrowed := true }
def WindowLaterUptoSaid : Prop := windowLaterUptoRow.holds Try.pinned (OpenSpec.upto windowLaterSpec)

/-- 'hangfirelaw11.WindowKnown', WHERE WHAT IT READS IS OF BULK AT MOST 1048576: true; the input reads as it did. -/
def windowKnownUptoRow : OpenClaim := { program := "ytdefnmcjmklohaa", sum := "c30623d8cd8ef77cc06ff1834b840424a589390bf51b9be82a95bb812be5a675", func := "hangfire/hangfirelaw11.WindowKnown", spec := "windowKnown", unfollowed := true, recurses := true, apart := false, narrowed := true }
def WindowKnownUptoSaid : Prop := windowKnownUptoRow.holds Try.pinned (OpenSpec.upto windowKnownSpec)

end Rows
end Go.Proofs.Ytdefnmcjmklohaa
