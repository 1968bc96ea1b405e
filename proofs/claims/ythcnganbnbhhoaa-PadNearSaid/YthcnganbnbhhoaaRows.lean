/-
  No cell of these rows narrows 'for every input' (looked for: loops, veiled, ifaces, maps, wideKeys, modest, calm, conditions, laid).
  DERIVED. THE GIVEN ROWS OF THIS SEAT. 13 by the template 'for every input the law returns true; each argument reads behind the call as it read before'; 0 by the template 'total and deterministic' (their statements: YthcnganbnbhhoaaTotals.lean).
  GIVEN WITH THE SEED: the statements are not yours to turn. If you find one false, say at which input.
  Laid BY PROGRAM, IN A SANDBOX (cutbox-rows.mjs): the forced cells as the released guide's own fill.sh prints them over the translation c294329bd8b8062f… (all of the seat's roots in one cut). By AI agents, Wed Nov 11 2026. No macro, syntax, notation, axiom, sorry.
-/
import Derived.Test.YthcnganbnbhhoaaChecked
import GoSem.Claim
import GoSem.ClaimJoined
import GoSem.ClaimMapViews
import Derived.JoinedTies
import Derived.KernelRfl
namespace Go.Proofs.Ythcnganbnbhhoaa
/- THE CELL 'sum', in the pinned program and in every row, IS THE sha256 OF THE DUMP (.gsa) THAT YthcnganbnbhhoaaProg.lean LOADS. Nothing in Lean hashes anything: it is a label: what it is worth is what the hold of that sum in a sandbox is worth. -/
noncomputable def Try.pinned : Pinned := { name := "ythcnganbnbhhoaa", sum := "c294329bd8b8062ffc159974b70b85342f0722aa87da34e61835b9325d95f2ec", checked := Try.checked }
namespace Rows
def none {H : Type} : Left H := { results := [], args := [] }

/-- 'hangfirelaw07.PadChecks': WHATEVER THE INPUT: true; the input reads as it did. -/
def padChecksSpec : ChangeSpec := { name := "padChecks", fn := fun _ => fun
  | [d] => { results := [.lit (.bool true)], args := [d] }
  | _ => none }
def padChecksRow : OpenClaim := { program := "ythcnganbnbhhoaa", sum := "c294329bd8b8062ffc159974b70b85342f0722aa87da34e61835b9325d95f2ec", func := "hangfire/hangfirelaw07.PadChecks", spec := "padChecks", unfollowed := true, recurses := true, apart := false }
def PadChecksSaid : Prop := padChecksRow.holds Try.pinned (OpenSpec.ofChange padChecksSpec)

/-- ITS FALSE NEIGHBOUR: 'it returns false'. Refute it at one input. -/
def padChecksWrong : ChangeSpec := { name := "padChecks", fn := fun _ => fun
  | [d] => { results := [.lit (.bool false)], args := [d] }
  | _ => none }
def PadChecksWrongFalsely : Prop := padChecksRow.holds Try.pinned (OpenSpec.ofChange padChecksWrong)

/-- 'hangfirelaw07.PadNear': WHATEVER THE INPUT: true; the input reads as it did. -/
def padNearSpec : ChangeSpec := { name := "padNear", fn := fun _ => fun
  | [d1, d2, d3] => { results := [.lit (.bool true)], args := [d1, d2, d3] }
  | _ => none }
def padNearRow : OpenClaim := { program := "ythcnganbnbhhoaa", sum := "c294329bd8b8062ffc159974b70b85342f0722aa87da34e61835b9325d95f2ec", func := "hangfire/hangfirelaw07.PadNear", spec := "padNear", unfollowed := true, recurses := true, apart := false }
def PadNearSaid : Prop := padNearRow.holds Try.pinned (OpenSpec.ofChange padNearSpec)

/-- ITS FALSE NEIGHBOUR: 'it returns false'. Refute it at one input. -/
def padNearWrong : ChangeSpec := { name := "padNear", fn := fun _ => fun
  | [d1, d2, d3] => { results := [.lit (.bool false)], args := [d1, d2, d3] }
  | _ => none }
def PadNearWrongFalsely : Prop := padNearRow.holds Try.pinned (OpenSpec.ofChange padNearWrong)

/-- 'hangfirelaw07.PadWithout': WHATEVER THE INPUT: true; the input reads as it did. -/
def padWithoutSpec : ChangeSpec := { name := "padWithout", fn := fun _ => fun
  | [d1, d2, d3] => { results := [.lit (.bool true)], args := [d1, d2, d3] }
  | _ => none }
def padWithoutRow : OpenClaim := { program := "ythcnganbnbhhoaa", sum := "c294329bd8b8062ffc159974b70b85342f0722aa87da34e61835b9325d95f2ec", func := "hangfire/hangfirelaw07.PadWithout", spec := "padWithout", unfollowed := true, recurses := true, apart := false }
def PadWithoutSaid : Prop := padWithoutRow.holds Try.pinned (OpenSpec.ofChange padWithoutSpec)

/-- ITS FALSE NEIGHBOUR: 'it returns false'. Refute it at one input. -/
def padWithoutWrong : ChangeSpec := { name := "padWithout", fn := fun _ => fun
  | [d1, d2, d3] => { results := [.lit (.bool false)], args := [d1, d2, d3] }
  | _ => none }
def PadWithoutWrongFalsely : Prop := padWithoutRow.holds Try.pinned (OpenSpec.ofChange padWithoutWrong)

/-- 'hangfirelaw07.PadCloser': WHATEVER THE INPUT: true; the input reads as it did. -/
def padCloserSpec : ChangeSpec := { name := "padCloser", fn := fun _ => fun
  | [d1, d2, d3] => { results := [.lit (.bool true)], args := [d1, d2, d3] }
  | _ => none }
def padCloserRow : OpenClaim := { program := "ythcnganbnbhhoaa", sum := "c294329bd8b8062ffc159974b70b85342f0722aa87da34e61835b9325d95f2ec", func := "hangfire/hangfirelaw07.PadCloser", spec := "padCloser", unfollowed := true, recurses := true, apart := false }
def PadCloserSaid : Prop := padCloserRow.holds Try.pinned (OpenSpec.ofChange padCloserSpec)

/-- ITS FALSE NEIGHBOUR: 'it returns false'. Refute it at one input. -/
def padCloserWrong : ChangeSpec := { name := "padCloser", fn := fun _ => fun
  | [d1, d2, d3] => { results := [.lit (.bool false)], args := [d1, d2, d3] }
  | _ => none }
def PadCloserWrongFalsely : Prop := padCloserRow.holds Try.pinned (OpenSpec.ofChange padCloserWrong)

/-- 'hangfirelaw07.PadKeyed': WHATEVER THE INPUT: true; the input reads as it did. -/
def padKeyedSpec : ChangeSpec := { name := "padKeyed", fn := fun _ => fun
  | [d1, d2, d3] => { results := [.lit (.bool true)], args := [d1, d2, d3] }
  | _ => none }
def padKeyedRow : OpenClaim := { program := "ythcnganbnbhhoaa", sum := "c294329bd8b8062ffc159974b70b85342f0722aa87da34e61835b9325d95f2ec", func := "hangfire/hangfirelaw07.PadKeyed", spec := "padKeyed", unfollowed := true, recurses := true, apart := false }
def PadKeyedSaid : Prop := padKeyedRow.holds Try.pinned (OpenSpec.ofChange padKeyedSpec)

/-- ITS FALSE NEIGHBOUR: 'it returns false'. Refute it at one input. -/
def padKeyedWrong : ChangeSpec := { name := "padKeyed", fn := fun _ => fun
  | [d1, d2, d3] => { results := [.lit (.bool false)], args := [d1, d2, d3] }
  | _ => none }
def PadKeyedWrongFalsely : Prop := padKeyedRow.holds Try.pinned (OpenSpec.ofChange padKeyedWrong)

/-- 'hangfirelaw07.PadMoves': WHATEVER THE INPUT: true; the input reads as it did. -/
def padMovesSpec : ChangeSpec := { name := "padMoves", fn := fun _ => fun
  | [d1, d2, d3] => { results := [.lit (.bool true)], args := [d1, d2, d3] }
  | _ => none }
def padMovesRow : OpenClaim := { program := "ythcnganbnbhhoaa", sum := "c294329bd8b8062ffc159974b70b85342f0722aa87da34e61835b9325d95f2ec", func := "hangfire/hangfirelaw07.PadMoves", spec := "padMoves", unfollowed := true, recurses := true, apart := false }
def PadMovesSaid : Prop := padMovesRow.holds Try.pinned (OpenSpec.ofChange padMovesSpec)

/-- ITS FALSE NEIGHBOUR: 'it returns false'. Refute it at one input. -/
def padMovesWrong : ChangeSpec := { name := "padMoves", fn := fun _ => fun
  | [d1, d2, d3] => { results := [.lit (.bool false)], args := [d1, d2, d3] }
  | _ => none }
def PadMovesWrongFalsely : Prop := padMovesRow.holds Try.pinned (OpenSpec.ofChange padMovesWrong)

/-- 'hangfirelaw07.PadPrefix': WHATEVER THE INPUT: true; the input reads as it did. -/
def padPrefixSpec : ChangeSpec := { name := "padPrefix", fn := fun _ => fun
  | [d1, d2, d3] => { results := [.lit (.bool true)], args := [d1, d2, d3] }
  | _ => none }
def padPrefixRow : OpenClaim := { program := "ythcnganbnbhhoaa", sum := "c294329bd8b8062ffc159974b70b85342f0722aa87da34e61835b9325d95f2ec", func := "hangfire/hangfirelaw07.PadPrefix", spec := "padPrefix", unfollowed := true, recurses := true, apart := false }
def PadPrefixSaid : Prop := padPrefixRow.holds Try.pinned (OpenSpec.ofChange padPrefixSpec)

/-- ITS FALSE NEIGHBOUR: 'it returns false'. Refute it at one input. -/
def padPrefixWrong : ChangeSpec := { name := "padPrefix", fn := fun _ => fun
  | [d1, d2, d3] => { results := [.lit (.bool false)], args := [d1, d2, d3] }
  | _ => none }
def PadPrefixWrongFalsely : Prop := padPrefixRow.holds Try.pinned (OpenSpec.ofChange padPrefixWrong)

/-- 'hangfirelaw07.PadStorms': WHATEVER THE INPUT: true; the input reads as it did. -/
def padStormsSpec : ChangeSpec := { name := "padStorms", fn := fun _ => fun
  | [d1, d2, d3] => { results := [.lit (.bool true)], args := [d1, d2, d3] }
  | _ => none }
def padStormsRow : OpenClaim := { program := "ythcnganbnbhhoaa", sum := "c294329bd8b8062ffc159974b70b85342f0722aa87da34e61835b9325d95f2ec", func := "hangfire/hangfirelaw07.PadStorms", spec := "padStorms", unfollowed := true, recurses := true, apart := false }
def PadStormsSaid : Prop := padStormsRow.holds Try.pinned (OpenSpec.ofChange padStormsSpec)

/-- ITS FALSE NEIGHBOUR: 'it returns false'. Refute it at one input. -/
def padStormsWrong : ChangeSpec := { name := "padStorms", fn := fun _ => fun
  | [d1, d2, d3] => { results := [.lit (.bool false)], args := [d1, d2, d3] }
  | _ => none }
def PadStormsWrongFalsely : Prop := padStormsRow.holds Try.pinned (OpenSpec.ofChange padStormsWrong)

/-- 'hangfirelaw07.PadClear': WHATEVER THE INPUT: true; the input reads as it did. -/
def padClearSpec : ChangeSpec := { name := "padClear", fn := fun _ => fun
  | [d1, d2, d3] => { results := [.lit (.bool true)], args := [d1, d2, d3] }
  | _ => none }
def padClearRow : OpenClaim := { program := "ythcnganbnbhhoaa", sum := "c294329bd8b8062ffc159974b70b85342f0722aa87da34e61835b9325d95f2ec", func := "hangfire/hangfirelaw07.PadClear", spec := "padClear", unfollowed := true, recurses := true, apart := false }
def PadClearSaid : Prop := padClearRow.holds Try.pinned (OpenSpec.ofChange padClearSpec)

/-- ITS FALSE NEIGHBOUR: 'it returns false'. Refute it at one input. -/
def padClearWrong : ChangeSpec := { name := "padClear", fn := fun _ => fun
  | [d1, d2, d3] => { results := [.lit (.bool false)], args := [d1, d2, d3] }
  | _ => none }
def PadClearWrongFalsely : Prop := padClearRow.holds Try.pinned (OpenSpec.ofChange padClearWrong)

/-- 'hangfirelaw07.PadMay': WHATEVER THE INPUT: true; the input reads as it did. -/
def padMaySpec : ChangeSpec := { name := "padMay", fn := fun _ => fun
  | [d1, d2, d3] => { results := [.lit (.bool true)], args := [d1, d2, d3] }
  | _ => none }
def padMayRow : OpenClaim := { program := "ythcnganbnbhhoaa", sum := "c294329bd8b8062ffc159974b70b85342f0722aa87da34e61835b9325d95f2ec", func := "hangfire/hangfirelaw07.PadMay", spec := "padMay", unfollowed := true, recurses := true, apart := false }
def PadMaySaid : Prop := padMayRow.holds Try.pinned (OpenSpec.ofChange padMaySpec)

/-- ITS FALSE NEIGHBOUR: 'it returns false'. Refute it at one input. -/
def padMayWrong : ChangeSpec := { name := "padMay", fn := fun _ => fun
  | [d1, d2, d3] => { results := [.lit (.bool false)], args := [d1, d2, d3] }
  | _ => none }
def PadMayWrongFalsely : Prop := padMayRow.holds Try.pinned (OpenSpec.ofChange padMayWrong)

/-- 'hangfirelaw07.PadNever': WHATEVER THE INPUT: true; the input reads as it did. -/
def padNeverSpec : ChangeSpec := { name := "padNever", fn := fun _ => fun
  | [d1, d2] => { results := [.lit (.bool true)], args := [d1, d2] }
  | _ => none }
def padNeverRow : OpenClaim := { program := "ythcnganbnbhhoaa", sum := "c294329bd8b8062ffc159974b70b85342f0722aa87da34e61835b9325d95f2ec", func := "hangfire/hangfirelaw07.PadNever", spec := "padNever", unfollowed := true, recurses := true, apart := false }
def PadNeverSaid : Prop := padNeverRow.holds Try.pinned (OpenSpec.ofChange padNeverSpec)

/-- ITS FALSE NEIGHBOUR: 'it returns false'. Refute it at one input. -/
def padNeverWrong : ChangeSpec := { name := "padNever", fn := fun _ => fun
  | [d1, d2] => { results := [.lit (.bool false)], args := [d1, d2] }
  | _ => none }
def PadNeverWrongFalsely : Prop := padNeverRow.holds Try.pinned (OpenSpec.ofChange padNeverWrong)

/-- 'hangfirelaw07.PadSound': WHATEVER THE INPUT: true; the input reads as it did. -/
def padSoundSpec : ChangeSpec := { name := "padSound", fn := fun _ => fun
  | [d1, d2, d3] => { results := [.lit (.bool true)], args := [d1, d2, d3] }
  | _ => none }
def padSoundRow : OpenClaim := { program := "ythcnganbnbhhoaa", sum := "c294329bd8b8062ffc159974b70b85342f0722aa87da34e61835b9325d95f2ec", func := "hangfire/hangfirelaw07.PadSound", spec := "padSound", unfollowed := true, recurses := true, apart := false }
def PadSoundSaid : Prop := padSoundRow.holds Try.pinned (OpenSpec.ofChange padSoundSpec)

/-- ITS FALSE NEIGHBOUR: 'it returns false'. Refute it at one input. -/
def padSoundWrong : ChangeSpec := { name := "padSound", fn := fun _ => fun
  | [d1, d2, d3] => { results := [.lit (.bool false)], args := [d1, d2, d3] }
  | _ => none }
def PadSoundWrongFalsely : Prop := padSoundRow.holds Try.pinned (OpenSpec.ofChange padSoundWrong)

/-- 'hangfirelaw07.PadKnown': WHATEVER THE INPUT: true; the input reads as it did. -/
def padKnownSpec : ChangeSpec := { name := "padKnown", fn := fun _ => fun
  | [] => { results := [.lit (.bool true)], args := [] }
  | _ => none }
def padKnownRow : OpenClaim := { program := "ythcnganbnbhhoaa", sum := "c294329bd8b8062ffc159974b70b85342f0722aa87da34e61835b9325d95f2ec", func := "hangfire/hangfirelaw07.PadKnown", spec := "padKnown", unfollowed := true, recurses := true, apart := false }
def PadKnownSaid : Prop := padKnownRow.holds Try.pinned (OpenSpec.ofChange padKnownSpec)

/-- ITS FALSE NEIGHBOUR: 'it returns false'. Refute it at one input. -/
def padKnownWrong : ChangeSpec := { name := "padKnown", fn := fun _ => fun
  | [] => { results := [.lit (.bool false)], args := [] }
  | _ => none }
def PadKnownWrongFalsely : Prop := padKnownRow.holds Try.pinned (OpenSpec.ofChange padKnownWrong)

/- THE SECOND FORM. 'bulk': how many values and letters a reading holds, each counted each time it is reached (what is shared counts as often as it is met; a slice's spare places count too). A statement '..UptoSaid' is the law's where the arguments, and the package variables that the reading takes, are together of bulk at most 1048576: NARROWER than '..Said'. Prove '..Said' where nothing that the law and all that it calls make is longer than what came in: it says more and counts as full. Else prove '..UptoSaid'. A law counts once. -/
mutual
def uptoBulk {H : Type} : DataW H → Nat
  | .lit (.string bytes) => bytes.length + 1
  | .lit _ => 1
  | .nil => 1
  | .ptr d => uptoBulk d + 1
  | .slice elems spare => uptoBulkAll elems + uptoBulkAll spare + 1
  | .agg parts => uptoBulkAll parts + 1
  | .iface _ d => uptoBulk d + 1
  | .map entries => uptoBulkEntries entries + 1
  | .held _ => 1
def uptoBulkAll {H : Type} : List (DataW H) → Nat
  | [] => 0
  | d :: r => uptoBulk d + uptoBulkAll r
def uptoBulkEntries {H : Type} : List (Lit × DataW H) → Nat
  | [] => 0
  | x :: r => uptoBulkEntry x + uptoBulkEntries r
def uptoBulkEntry {H : Type} : Lit × DataW H → Nat
  | (.string bytes, d) => bytes.length + uptoBulk d + 1
  | (_, d) => uptoBulk d + 1
 end
def uptoSmall : (H : Type) → List (DataW H) → Bool := fun _ ds => decide (uptoBulkAll ds ≤ 1048576)
def OpenSpec.upto (s : _root_.Go.ChangeSpec) : _root_.Go.OpenSpec := { _root_.Go.OpenSpec.ofChange s with cond := some uptoSmall }

/-- 'hangfirelaw07.PadChecks', WHERE WHAT IT READS IS OF BULK AT MOST 1048576: true; the input reads as it did. -/
def padChecksUptoRow : OpenClaim := { program := "ythcnganbnbhhoaa", sum := "c294329bd8b8062ffc159974b70b85342f0722aa87da34e61835b9325d95f2ec", func := "hangfire/hangfirelaw07.PadChecks", spec := "padChecks", unfollowed := true, recurses := true, apart := false, narrowed := true }
def PadChecksUptoSaid : Prop := padChecksUptoRow.holds Try.pinned (OpenSpec.upto padChecksSpec)

/-- 'hangfirelaw07.PadNear', WHERE WHAT IT READS IS OF BULK AT MOST 1048576: true; the input reads as it did. -/
def padNearUptoRow : OpenClaim := { program := "ythcnganbnbhhoaa", sum := "c294329bd8b8062ffc159974b70b85342f0722aa87da34e61835b9325d95f2ec", func := "hangfire/hangfirelaw07.PadNear", spec := "padNear", unfollowed := true, recurses := true, apart := false, narrowed := true }
def PadNearUptoSaid : Prop := padNearUptoRow.holds Try.pinned (OpenSpec.upto padNearSpec)

/-- 'hangfirelaw07.PadWithout', WHERE WHAT IT READS IS OF BULK AT MOST 1048576: true; the input reads as it did. -/
def padWithoutUptoRow : OpenClaim := { program := "ythcnganbnbhhoaa", sum := "c294329bd8b8062ffc159974b70b85342f0722aa87da34e61835b9325d95f2ec", func := "hangfire/hangfirelaw07.PadWithout", spec := "padWithout", unfollowed := true, recurses := true, apart := false, narrowed := true }
def PadWithoutUptoSaid : Prop := padWithoutUptoRow.holds Try.pinned (OpenSpec.upto padWithoutSpec)

/-- 'hangfirelaw07.PadCloser', WHERE WHAT IT READS IS OF BULK AT MOST 1048576: true; the input reads as it did. -/
def padCloserUptoRow : OpenClaim := { program := "ythcnganbnbhhoaa", sum := "c294329bd8b8062ffc159974b70b85342f0722aa87da34e61835b9325d95f2ec", func := "hangfire/hangfirelaw07.PadCloser", spec := "padCloser", unfollowed := true, recurses := true, apart := false, narrowed := true }
def PadCloserUptoSaid : Prop := padCloserUptoRow.holds Try.pinned (OpenSpec.upto padCloserSpec)

/-- 'hangfirelaw07.PadKeyed', WHERE WHAT IT READS IS OF BULK AT MOST 1048576: true; the input reads as it did. -/
def padKeyedUptoRow : OpenClaim := { program := "ythcnganbnbhhoaa", sum := "c294329bd8b8062ffc159974b70b85342f0722aa87da34e61835b9325d95f2ec", func := "hangfire/hangfirelaw07.PadKeyed", spec := "padKeyed", unfollowed := true, recurses := true, apart := false, narrowed := true }
def PadKeyedUptoSaid : Prop := padKeyedUptoRow.holds Try.pinned (OpenSpec.upto padKeyedSpec)

/-- 'hangfirelaw07.PadMoves', WHERE WHAT IT READS IS OF BULK AT MOST 1048576: true; the input reads as it did. -/
def padMovesUptoRow : OpenClaim := { program := "ythcnganbnbhhoaa", sum := "c294329bd8b8062ffc159974b70b85342f0722aa87da34e61835b9325d95f2ec", func := "hangfire/hangfirelaw07.PadMoves", spec := "padMoves", unfollowed := true, recurses := true, apart := false, narrowed := true }
def PadMovesUptoSaid : Prop := padMovesUptoRow.holds Try.pinned (OpenSpec.upto padMovesSpec)

/-- 'hangfirelaw07.PadPrefix', WHERE WHAT IT READS IS OF BULK AT MOST 1048576: true; the input reads as it did. -/
def padPrefixUptoRow : OpenClaim := { program := "ythcnganbnbhhoaa", sum := "c294329bd8b8062ffc159974b70b85342f0722aa87da34e61835b9325d95f2ec", func := "hangfire/hangfirelaw07.PadPrefix", spec := "padPrefix", unfollowed := true, recurses := true, apart := false, narrowed := true }
def PadPrefixUptoSaid : Prop := padPrefixUptoRow.holds Try.pinned (OpenSpec.upto padPrefixSpec)

/-- 'hangfirelaw07.PadStorms', WHERE WHAT IT READS IS OF BULK AT MOST 1048576: true; the input reads as it did. -/
def padStormsUptoRow : OpenClaim := { program := "ythcnganbnbhhoaa", sum := "c294329bd8b8062ffc159974b70b85342f0722aa87da34e61835b9325d95f2ec", func := "hangfire/hangfirelaw07.PadStorms", spec := "padStorms", unfollowed := true, recurses := true, apart := false, narrowed := true }
def PadStormsUptoSaid : Prop := padStormsUptoRow.holds Try.pinned (OpenSpec.upto padStormsSpec)

/-- 'hangfirelaw07.PadClear', WHERE WHAT IT READS IS OF BULK AT MOST 1048576: true; the input reads as it did. -/
def padClearUptoRow : OpenClaim := { program := "ythcnganbnbhhoaa", sum := "c294329bd8b8062ffc159974b70b85342f0722aa87da34e61835b9325d95f2ec", func := "hangfire/hangfirelaw07.PadClear", spec := "padClear", unfollowed := true, recurses := true, apart := false, narrowed := true }
def PadClearUptoSaid : Prop := padClearUptoRow.holds Try.pinned (OpenSpec.upto padClearSpec)

/-- 'hangfirelaw07.PadMay', WHERE WHAT IT READS IS OF BULK AT MOST 1048576: true; the input reads as it did. -/
def padMayUptoRow : OpenClaim := { program := "ythcnganbnbhhoaa", sum := "c294329bd8b8062ffc159974b70b85342f0722aa87da34e61835b9325d95f2ec", func := "hangfire/hangfirelaw07.PadMay", spec := "padMay", unfollowed := true, recurses := true, apart := false, narrowed := true }
def PadMayUptoSaid : Prop := padMayUptoRow.holds Try.pinned (OpenSpec.upto padMaySpec)

/-- 'hangfirelaw07.PadNever', WHERE WHAT IT READS IS OF BULK AT MOST 1048576: true; the input reads as it did. -/
def padNeverUptoRow : OpenClaim := { program := "ythcnganbnbhhoaa", sum := "c294329bd8b8062ffc159974b70b85342f0722aa87da34e61835b9325d95f2ec", func := "hangfire/hangfirelaw07.PadNever", spec := "padNever", unfollowed := true, recurses := true, apart := false, narrowed := true }
def PadNeverUptoSaid : Prop := padNeverUptoRow.holds Try.pinned (OpenSpec.upto padNeverSpec)

/-- 'hangfirelaw07.PadSound', WHERE WHAT IT READS IS OF BULK AT MOST 1048576: true; the input reads as it did. -/
def padSoundUptoRow : OpenClaim := { program := "ythcnganbnbhhoaa", sum := "c294329bd8b8062ffc159974b70b85342f0722aa87da34e61835b9325d95f2ec", func := "hangfire/hangfirelaw07.PadSound", spec := "padSound", unfollowed := true, recurses := true, apart := false, narrowed := true }
def PadSoundUptoSaid : Prop := padSoundUptoRow.holds Try.pinned (OpenSpec.upto padSoundSpec)

/-- 'hangfirelaw07.PadKnown', WHERE WHAT IT READS IS OF BULK AT MOST 1048576: true; the input reads as it did. -/
def padKnownUptoRow : OpenClaim := { program := "ythcnganbnbhhoaa", sum := "c294329bd8b8062ffc159974b70b85342f0722aa87da34e61835b9325d95f2ec", func := "hangfire/hangfirelaw07.PadKnown", spec := "padKnown", unfollowed := true, recurses := true, apart := false, narrowed := true }
def PadKnownUptoSaid : Prop := padKnownUptoRow.holds Try.pinned (OpenSpec.upto padKnownSpec)

end Rows
end Go.Proofs.Ythcnganbnbhhoaa
