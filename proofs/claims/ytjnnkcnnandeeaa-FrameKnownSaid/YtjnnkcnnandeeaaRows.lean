/-
  No cell of these rows narrows 'for every input' (looked for: loops, veiled, ifaces, maps, wideKeys, modest, calm, conditions, laid).
  DERIVED. THE GIVEN ROWS OF THIS SEAT. 16 by the template 'for every input the law returns true; each argument reads behind the call as it read before'; 0 by the template 'total and deterministic' (their statements: YtjnnkcnnandeeaaTotals.lean).
  GIVEN WITH THE SEED: the statements are not yours to turn. If you find one false, say at which input.
  Laid BY PROGRAM, IN A SANDBOX (cutbox-rows.mjs): the forced cells as the released guide's own fill.sh prints them over the translation 7c22ff6dfdd5d10e… (all of the seat's roots in one cut). By AI agents, Wed Nov 11 2026. No macro, syntax, notation, axiom, sorry.
-/
import Derived.Test.YtjnnkcnnandeeaaChecked
import GoSem.Claim
import GoSem.ClaimJoined
import GoSem.ClaimMapViews
import Derived.JoinedTies
import Derived.KernelRfl
namespace Go.Proofs.Ytjnnkcnnandeeaa
/- THE CELL 'sum', in the pinned program and in every row, IS THE sha256 OF THE DUMP (.gsa) THAT YtjnnkcnnandeeaaProg.lean LOADS. Nothing in Lean hashes anything: it is a label: what it is worth is what the hold of that sum in a sandbox is worth. -/
noncomputable def Try.pinned : Pinned := { name := "ytjnnkcnnandeeaa", sum := "7c22ff6dfdd5d10e29be278ba8922815b605e93957cb12c45d4f65a2b3990bde", checked := Try.checked }
namespace Rows
def none {H : Type} : Left H := { results := [], args := [] }

/-- 'hangfirelaw09.FrameSums': WHATEVER THE INPUT: true; the input reads as it did. -/
def frameSumsSpec : ChangeSpec := { name := "frameSums", fn := fun _ => fun
  | [d] => { results := [.lit (.bool true)], args := [d] }
  | _ => none }
def frameSumsRow : OpenClaim := { program := "ytjnnkcnnandeeaa", sum := "7c22ff6dfdd5d10e29be278ba8922815b605e93957cb12c45d4f65a2b3990bde", func := "hangfire/hangfirelaw09.FrameSums", spec := "frameSums", unfollowed := true, recurses := true, plainKeys := false, apart := false }
def FrameSumsSaid : Prop := frameSumsRow.holds Try.pinned (OpenSpec.ofChange frameSumsSpec)

/-- ITS FALSE NEIGHBOUR: 'it returns false'. Refute it at one input. -/
def frameSumsWrong : ChangeSpec := { name := "frameSums", fn := fun _ => fun
  | [d] => { results := [.lit (.bool false)], args := [d] }
  | _ => none }
def FrameSumsWrongFalsely : Prop := frameSumsRow.holds Try.pinned (OpenSpec.ofChange frameSumsWrong)

/-- 'hangfirelaw09.FrameCodes': WHATEVER THE INPUT: true; the input reads as it did. -/
def frameCodesSpec : ChangeSpec := { name := "frameCodes", fn := fun _ => fun
  | [d1, d2, d3] => { results := [.lit (.bool true)], args := [d1, d2, d3] }
  | _ => none }
def frameCodesRow : OpenClaim := { program := "ytjnnkcnnandeeaa", sum := "7c22ff6dfdd5d10e29be278ba8922815b605e93957cb12c45d4f65a2b3990bde", func := "hangfire/hangfirelaw09.FrameCodes", spec := "frameCodes", unfollowed := true, recurses := true, plainKeys := false, apart := false }
def FrameCodesSaid : Prop := frameCodesRow.holds Try.pinned (OpenSpec.ofChange frameCodesSpec)

/-- ITS FALSE NEIGHBOUR: 'it returns false'. Refute it at one input. -/
def frameCodesWrong : ChangeSpec := { name := "frameCodes", fn := fun _ => fun
  | [d1, d2, d3] => { results := [.lit (.bool false)], args := [d1, d2, d3] }
  | _ => none }
def FrameCodesWrongFalsely : Prop := frameCodesRow.holds Try.pinned (OpenSpec.ofChange frameCodesWrong)

/-- 'hangfirelaw09.FrameTapes': WHATEVER THE INPUT: true; the input reads as it did. -/
def frameTapesSpec : ChangeSpec := { name := "frameTapes", fn := fun _ => fun
  | [d1, d2, d3] => { results := [.lit (.bool true)], args := [d1, d2, d3] }
  | _ => none }
def frameTapesRow : OpenClaim := { program := "ytjnnkcnnandeeaa", sum := "7c22ff6dfdd5d10e29be278ba8922815b605e93957cb12c45d4f65a2b3990bde", func := "hangfire/hangfirelaw09.FrameTapes", spec := "frameTapes", unfollowed := true, recurses := true, plainKeys := false, apart := false }
def FrameTapesSaid : Prop := frameTapesRow.holds Try.pinned (OpenSpec.ofChange frameTapesSpec)

/-- ITS FALSE NEIGHBOUR: 'it returns false'. Refute it at one input. -/
def frameTapesWrong : ChangeSpec := { name := "frameTapes", fn := fun _ => fun
  | [d1, d2, d3] => { results := [.lit (.bool false)], args := [d1, d2, d3] }
  | _ => none }
def FrameTapesWrongFalsely : Prop := frameTapesRow.holds Try.pinned (OpenSpec.ofChange frameTapesWrong)

/-- 'hangfirelaw09.FrameDecodes': WHATEVER THE INPUT: true; the input reads as it did. -/
def frameDecodesSpec : ChangeSpec := { name := "frameDecodes", fn := fun _ => fun
  | [d1, d2] => { results := [.lit (.bool true)], args := [d1, d2] }
  | _ => none }
def frameDecodesRow : OpenClaim := { program := "ytjnnkcnnandeeaa", sum := "7c22ff6dfdd5d10e29be278ba8922815b605e93957cb12c45d4f65a2b3990bde", func := "hangfire/hangfirelaw09.FrameDecodes", spec := "frameDecodes", unfollowed := true, recurses := true, plainKeys := false, apart := false }
def FrameDecodesSaid : Prop := frameDecodesRow.holds Try.pinned (OpenSpec.ofChange frameDecodesSpec)

/-- ITS FALSE NEIGHBOUR: 'it returns false'. Refute it at one input. -/
def frameDecodesWrong : ChangeSpec := { name := "frameDecodes", fn := fun _ => fun
  | [d1, d2] => { results := [.lit (.bool false)], args := [d1, d2] }
  | _ => none }
def FrameDecodesWrongFalsely : Prop := frameDecodesRow.holds Try.pinned (OpenSpec.ofChange frameDecodesWrong)

/-- 'hangfirelaw09.FrameRound': WHATEVER THE INPUT: true; the input reads as it did. -/
def frameRoundSpec : ChangeSpec := { name := "frameRound", fn := fun _ => fun
  | [d1, d2] => { results := [.lit (.bool true)], args := [d1, d2] }
  | _ => none }
def frameRoundRow : OpenClaim := { program := "ytjnnkcnnandeeaa", sum := "7c22ff6dfdd5d10e29be278ba8922815b605e93957cb12c45d4f65a2b3990bde", func := "hangfire/hangfirelaw09.FrameRound", spec := "frameRound", unfollowed := true, recurses := true, plainKeys := false, apart := false }
def FrameRoundSaid : Prop := frameRoundRow.holds Try.pinned (OpenSpec.ofChange frameRoundSpec)

/-- ITS FALSE NEIGHBOUR: 'it returns false'. Refute it at one input. -/
def frameRoundWrong : ChangeSpec := { name := "frameRound", fn := fun _ => fun
  | [d1, d2] => { results := [.lit (.bool false)], args := [d1, d2] }
  | _ => none }
def FrameRoundWrongFalsely : Prop := frameRoundRow.holds Try.pinned (OpenSpec.ofChange frameRoundWrong)

/-- 'hangfirelaw09.FrameSent': WHATEVER THE INPUT: true; the input reads as it did. -/
def frameSentSpec : ChangeSpec := { name := "frameSent", fn := fun _ => fun
  | [d1, d2] => { results := [.lit (.bool true)], args := [d1, d2] }
  | _ => none }
def frameSentRow : OpenClaim := { program := "ytjnnkcnnandeeaa", sum := "7c22ff6dfdd5d10e29be278ba8922815b605e93957cb12c45d4f65a2b3990bde", func := "hangfire/hangfirelaw09.FrameSent", spec := "frameSent", unfollowed := true, recurses := true, plainKeys := false, apart := false }
def FrameSentSaid : Prop := frameSentRow.holds Try.pinned (OpenSpec.ofChange frameSentSpec)

/-- ITS FALSE NEIGHBOUR: 'it returns false'. Refute it at one input. -/
def frameSentWrong : ChangeSpec := { name := "frameSent", fn := fun _ => fun
  | [d1, d2] => { results := [.lit (.bool false)], args := [d1, d2] }
  | _ => none }
def FrameSentWrongFalsely : Prop := frameSentRow.holds Try.pinned (OpenSpec.ofChange frameSentWrong)

/-- 'hangfirelaw09.FrameBurst': WHATEVER THE INPUT: true; the input reads as it did. -/
def frameBurstSpec : ChangeSpec := { name := "frameBurst", fn := fun _ => fun
  | [d1, d2] => { results := [.lit (.bool true)], args := [d1, d2] }
  | _ => none }
def frameBurstRow : OpenClaim := { program := "ytjnnkcnnandeeaa", sum := "7c22ff6dfdd5d10e29be278ba8922815b605e93957cb12c45d4f65a2b3990bde", func := "hangfire/hangfirelaw09.FrameBurst", spec := "frameBurst", unfollowed := true, recurses := true, plainKeys := false, apart := false }
def FrameBurstSaid : Prop := frameBurstRow.holds Try.pinned (OpenSpec.ofChange frameBurstSpec)

/-- ITS FALSE NEIGHBOUR: 'it returns false'. Refute it at one input. -/
def frameBurstWrong : ChangeSpec := { name := "frameBurst", fn := fun _ => fun
  | [d1, d2] => { results := [.lit (.bool false)], args := [d1, d2] }
  | _ => none }
def FrameBurstWrongFalsely : Prop := frameBurstRow.holds Try.pinned (OpenSpec.ofChange frameBurstWrong)

/-- 'hangfirelaw09.FrameJoin': WHATEVER THE INPUT: true; the input reads as it did. -/
def frameJoinSpec : ChangeSpec := { name := "frameJoin", fn := fun _ => fun
  | [d1, d2, d3] => { results := [.lit (.bool true)], args := [d1, d2, d3] }
  | _ => none }
def frameJoinRow : OpenClaim := { program := "ytjnnkcnnandeeaa", sum := "7c22ff6dfdd5d10e29be278ba8922815b605e93957cb12c45d4f65a2b3990bde", func := "hangfire/hangfirelaw09.FrameJoin", spec := "frameJoin", unfollowed := true, recurses := true, plainKeys := false, apart := false }
def FrameJoinSaid : Prop := frameJoinRow.holds Try.pinned (OpenSpec.ofChange frameJoinSpec)

/-- ITS FALSE NEIGHBOUR: 'it returns false'. Refute it at one input. -/
def frameJoinWrong : ChangeSpec := { name := "frameJoin", fn := fun _ => fun
  | [d1, d2, d3] => { results := [.lit (.bool false)], args := [d1, d2, d3] }
  | _ => none }
def FrameJoinWrongFalsely : Prop := frameJoinRow.holds Try.pinned (OpenSpec.ofChange frameJoinWrong)

/-- 'hangfirelaw09.FrameChecks': WHATEVER THE INPUT: true; the input reads as it did. -/
def frameChecksSpec : ChangeSpec := { name := "frameChecks", fn := fun _ => fun
  | [d1, d2] => { results := [.lit (.bool true)], args := [d1, d2] }
  | _ => none }
def frameChecksRow : OpenClaim := { program := "ytjnnkcnnandeeaa", sum := "7c22ff6dfdd5d10e29be278ba8922815b605e93957cb12c45d4f65a2b3990bde", func := "hangfire/hangfirelaw09.FrameChecks", spec := "frameChecks", unfollowed := true, recurses := true, plainKeys := false, apart := false }
def FrameChecksSaid : Prop := frameChecksRow.holds Try.pinned (OpenSpec.ofChange frameChecksSpec)

/-- ITS FALSE NEIGHBOUR: 'it returns false'. Refute it at one input. -/
def frameChecksWrong : ChangeSpec := { name := "frameChecks", fn := fun _ => fun
  | [d1, d2] => { results := [.lit (.bool false)], args := [d1, d2] }
  | _ => none }
def FrameChecksWrongFalsely : Prop := frameChecksRow.holds Try.pinned (OpenSpec.ofChange frameChecksWrong)

/-- 'hangfirelaw09.FrameShared': WHATEVER THE INPUT: true; the input reads as it did. -/
def frameSharedSpec : ChangeSpec := { name := "frameShared", fn := fun _ => fun
  | [d1, d2] => { results := [.lit (.bool true)], args := [d1, d2] }
  | _ => none }
def frameSharedRow : OpenClaim := { program := "ytjnnkcnnandeeaa", sum := "7c22ff6dfdd5d10e29be278ba8922815b605e93957cb12c45d4f65a2b3990bde", func := "hangfire/hangfirelaw09.FrameShared", spec := "frameShared", unfollowed := true, recurses := true, plainKeys := false, apart := false }
def FrameSharedSaid : Prop := frameSharedRow.holds Try.pinned (OpenSpec.ofChange frameSharedSpec)

/-- ITS FALSE NEIGHBOUR: 'it returns false'. Refute it at one input. -/
def frameSharedWrong : ChangeSpec := { name := "frameShared", fn := fun _ => fun
  | [d1, d2] => { results := [.lit (.bool false)], args := [d1, d2] }
  | _ => none }
def FrameSharedWrongFalsely : Prop := frameSharedRow.holds Try.pinned (OpenSpec.ofChange frameSharedWrong)

/-- 'hangfirelaw09.FrameAxes': WHATEVER THE INPUT: true; the input reads as it did. -/
def frameAxesSpec : ChangeSpec := { name := "frameAxes", fn := fun _ => fun
  | [d1, d2, d3] => { results := [.lit (.bool true)], args := [d1, d2, d3] }
  | _ => none }
def frameAxesRow : OpenClaim := { program := "ytjnnkcnnandeeaa", sum := "7c22ff6dfdd5d10e29be278ba8922815b605e93957cb12c45d4f65a2b3990bde", func := "hangfire/hangfirelaw09.FrameAxes", spec := "frameAxes", unfollowed := true, recurses := true, plainKeys := false, apart := false }
def FrameAxesSaid : Prop := frameAxesRow.holds Try.pinned (OpenSpec.ofChange frameAxesSpec)

/-- ITS FALSE NEIGHBOUR: 'it returns false'. Refute it at one input. -/
def frameAxesWrong : ChangeSpec := { name := "frameAxes", fn := fun _ => fun
  | [d1, d2, d3] => { results := [.lit (.bool false)], args := [d1, d2, d3] }
  | _ => none }
def FrameAxesWrongFalsely : Prop := frameAxesRow.holds Try.pinned (OpenSpec.ofChange frameAxesWrong)

/-- 'hangfirelaw09.FrameAxis': WHATEVER THE INPUT: true; the input reads as it did. -/
def frameAxisSpec : ChangeSpec := { name := "frameAxis", fn := fun _ => fun
  | [d1, d2, d3] => { results := [.lit (.bool true)], args := [d1, d2, d3] }
  | _ => none }
def frameAxisRow : OpenClaim := { program := "ytjnnkcnnandeeaa", sum := "7c22ff6dfdd5d10e29be278ba8922815b605e93957cb12c45d4f65a2b3990bde", func := "hangfire/hangfirelaw09.FrameAxis", spec := "frameAxis", unfollowed := true, recurses := true, plainKeys := false, apart := false }
def FrameAxisSaid : Prop := frameAxisRow.holds Try.pinned (OpenSpec.ofChange frameAxisSpec)

/-- ITS FALSE NEIGHBOUR: 'it returns false'. Refute it at one input. -/
def frameAxisWrong : ChangeSpec := { name := "frameAxis", fn := fun _ => fun
  | [d1, d2, d3] => { results := [.lit (.bool false)], args := [d1, d2, d3] }
  | _ => none }
def FrameAxisWrongFalsely : Prop := frameAxisRow.holds Try.pinned (OpenSpec.ofChange frameAxisWrong)

/-- 'hangfirelaw09.FrameLess': WHATEVER THE INPUT: true; the input reads as it did. -/
def frameLessSpec : ChangeSpec := { name := "frameLess", fn := fun _ => fun
  | [d1, d2, d3] => { results := [.lit (.bool true)], args := [d1, d2, d3] }
  | _ => none }
def frameLessRow : OpenClaim := { program := "ytjnnkcnnandeeaa", sum := "7c22ff6dfdd5d10e29be278ba8922815b605e93957cb12c45d4f65a2b3990bde", func := "hangfire/hangfirelaw09.FrameLess", spec := "frameLess", unfollowed := true, recurses := true, plainKeys := false, apart := false }
def FrameLessSaid : Prop := frameLessRow.holds Try.pinned (OpenSpec.ofChange frameLessSpec)

/-- ITS FALSE NEIGHBOUR: 'it returns false'. Refute it at one input. -/
def frameLessWrong : ChangeSpec := { name := "frameLess", fn := fun _ => fun
  | [d1, d2, d3] => { results := [.lit (.bool false)], args := [d1, d2, d3] }
  | _ => none }
def FrameLessWrongFalsely : Prop := frameLessRow.holds Try.pinned (OpenSpec.ofChange frameLessWrong)

/-- 'hangfirelaw09.FrameMerges': WHATEVER THE INPUT: true; the input reads as it did. -/
def frameMergesSpec : ChangeSpec := { name := "frameMerges", fn := fun _ => fun
  | [d1, d2] => { results := [.lit (.bool true)], args := [d1, d2] }
  | _ => none }
def frameMergesRow : OpenClaim := { program := "ytjnnkcnnandeeaa", sum := "7c22ff6dfdd5d10e29be278ba8922815b605e93957cb12c45d4f65a2b3990bde", func := "hangfire/hangfirelaw09.FrameMerges", spec := "frameMerges", unfollowed := true, recurses := true, plainKeys := false, apart := false }
def FrameMergesSaid : Prop := frameMergesRow.holds Try.pinned (OpenSpec.ofChange frameMergesSpec)

/-- ITS FALSE NEIGHBOUR: 'it returns false'. Refute it at one input. -/
def frameMergesWrong : ChangeSpec := { name := "frameMerges", fn := fun _ => fun
  | [d1, d2] => { results := [.lit (.bool false)], args := [d1, d2] }
  | _ => none }
def FrameMergesWrongFalsely : Prop := frameMergesRow.holds Try.pinned (OpenSpec.ofChange frameMergesWrong)

/-- 'hangfirelaw09.FrameReceivers': WHATEVER THE INPUT: true; the input reads as it did. -/
def frameReceiversSpec : ChangeSpec := { name := "frameReceivers", fn := fun _ => fun
  | [d1, d2, d3] => { results := [.lit (.bool true)], args := [d1, d2, d3] }
  | _ => none }
def frameReceiversRow : OpenClaim := { program := "ytjnnkcnnandeeaa", sum := "7c22ff6dfdd5d10e29be278ba8922815b605e93957cb12c45d4f65a2b3990bde", func := "hangfire/hangfirelaw09.FrameReceivers", spec := "frameReceivers", unfollowed := true, recurses := true, plainKeys := false, apart := false }
def FrameReceiversSaid : Prop := frameReceiversRow.holds Try.pinned (OpenSpec.ofChange frameReceiversSpec)

/-- ITS FALSE NEIGHBOUR: 'it returns false'. Refute it at one input. -/
def frameReceiversWrong : ChangeSpec := { name := "frameReceivers", fn := fun _ => fun
  | [d1, d2, d3] => { results := [.lit (.bool false)], args := [d1, d2, d3] }
  | _ => none }
def FrameReceiversWrongFalsely : Prop := frameReceiversRow.holds Try.pinned (OpenSpec.ofChange frameReceiversWrong)

/-- 'hangfirelaw09.FrameKnown': WHATEVER THE INPUT: true; the input reads as it did. -/
def frameKnownSpec : ChangeSpec := { name := "frameKnown", fn := fun _ => fun
  | [] => { results := [.lit (.bool true)], args := [] }
  | _ => none }
def frameKnownRow : OpenClaim := { program := "ytjnnkcnnandeeaa", sum := "7c22ff6dfdd5d10e29be278ba8922815b605e93957cb12c45d4f65a2b3990bde", func := "hangfire/hangfirelaw09.FrameKnown", spec := "frameKnown", unfollowed := true, recurses := true, plainKeys := false, apart := false }
def FrameKnownSaid : Prop := frameKnownRow.holds Try.pinned (OpenSpec.ofChange frameKnownSpec)

/-- ITS FALSE NEIGHBOUR: 'it returns false'. Refute it at one input. -/
def frameKnownWrong : ChangeSpec := { name := "frameKnown", fn := fun _ => fun
  | [] => { results := [.lit (.bool false)], args := [] }
  | _ => none }
def FrameKnownWrongFalsely : Prop := frameKnownRow.holds Try.pinned (OpenSpec.ofChange frameKnownWrong)

/- THE SECOND FORM. 'bulk': how many values and letters a reading holds, each counted each time it is reached (what is shared counts as often as it is met; a slice's spare places count too). A statement '..UptoSaid' is the law's where the arguments, and the package variables that the reading takes, are together of bulk at most 1048576: NARROWER than '..Said'. Prove '..Said' where nothing that the law and all that it calls make is longer than what came in: it says more and counts as full. Else prove '..UptoSaid'. A law counts once. -/
mutual
def uptoBulk {H : Type} : DataW H → Nat
  | .lit (.string bytes) => bytes.length + 1
  | .lit _ => 1
  | .nil => 1
  | .ptr d => uptoBulk d + 1
  | .slice elems spare => uptoBulkAll elems + uptoBulkAll spare + 1
  | .agg parts => uptoBulkAll parts + 1
  | .iface _ d => uptoBulk d + 1
  | .map entries => uptoBulkEntries entries + 1
  | .held _ => 1
def uptoBulkAll {H : Type} : List (DataW H) → Nat
  | [] => 0
  | d :: r => uptoBulk d + uptoBulkAll r
def uptoBulkEntries {H : Type} : List (Lit × DataW H) → Nat
  | [] => 0
  | x :: r => uptoBulkEntry x + uptoBulkEntries r
def uptoBulkEntry {H : Type} : Lit × DataW H → Nat
  | (.string bytes, d) => bytes.length + uptoBulk d + 1
  | (_, d) => uptoBulk d + 1
 end
def uptoSmall : (H : Type) → List (DataW H) → Bool := fun _ ds => decide (uptoBulkAll ds ≤ 1048576)
def OpenSpec.upto (s : _root_.Go.ChangeSpec) : _root_.Go.OpenSpec := { _root_.Go.OpenSpec.ofChange s with cond := some uptoSmall }

/-- 'hangfirelaw09.FrameSums', WHERE WHAT IT READS IS OF BULK AT MOST 1048576: true; the input reads as it did. -/
def frameSumsUptoRow : OpenClaim := { program := "ytjnnkcnnandeeaa", sum := "7c22ff6dfdd5d10e29be278ba8922815b605e93957cb12c45d4f65a2b3990bde", func := "hangfire/hangfirelaw09.FrameSums", spec := "frameSums", unfollowed := true, recurses := true, plainKeys := false, apart := false, narrowed := true }
def FrameSumsUptoSaid : Prop := frameSumsUptoRow.holds Try.pinned (OpenSpec.upto frameSumsSpec)

/-- 'hangfirelaw09.FrameCodes', WHERE WHAT IT READS IS OF BULK AT MOST 1048576: true; the input reads as it did. -/
def frameCodesUptoRow : OpenClaim := { program := "ytjnnkcnnandeeaa", sum := "7c22ff6dfdd5d10e29be278ba8922815b605e93957cb12c45d4f65a2b3990bde", func := "hangfire/hangfirelaw09.FrameCodes", spec := "frameCodes", unfollowed := true, recurses := true, plainKeys := false, apart := false, narrowed := true }
def FrameCodesUptoSaid : Prop := frameCodesUptoRow.holds Try.pinned (OpenSpec.upto frameCodesSpec)

/-- 'hangfirelaw09.FrameTapes', WHERE WHAT IT READS IS OF BULK AT MOST 1048576: true; the input reads as it did. -/
def frameTapesUptoRow : OpenClaim := { program := "ytjnnkcnnandeeaa", sum := "7c22ff6dfdd5d10e29be278ba8922815b605e93957cb12c45d4f65a2b3990bde", func := "hangfire/hangfirelaw09.FrameTapes", spec := "frameTapes", unfollowed := true, recurses := true, plainKeys := false, apart := false, narrowed := true }
def FrameTapesUptoSaid : Prop := frameTapesUptoRow.holds Try.pinned (OpenSpec.upto frameTapesSpec)

/-- 'hangfirelaw09.FrameDecodes', WHERE WHAT IT READS IS OF BULK AT MOST 1048576: true; the input reads as it did. -/
def frameDecodesUptoRow : OpenClaim := { program := "ytjnnkcnnandeeaa", sum := "7c22ff6dfdd5d10e29be278ba8922815b605e93957cb12c45d4f65a2b3990bde", func := "hangfire/hangfirelaw09.FrameDecodes", spec := "frameDecodes", unfollowed := true, recurses := true, plainKeys := false, apart := false, narrowed := true }
def FrameDecodesUptoSaid : Prop := frameDecodesUptoRow.holds Try.pinned (OpenSpec.upto frameDecodesSpec)

/-- 'hangfirelaw09.FrameRound', WHERE WHAT IT READS IS OF BULK AT MOST 1048576: true; the input reads as it did. -/
def frameRoundUptoRow : OpenClaim := { program := "ytjnnkcnnandeeaa", sum := "7c22ff6dfdd5d10e29be278ba8922815b605e93957cb12c45d4f65a2b3990bde", func := "hangfire/hangfirelaw09.FrameRound", spec := "frameRound", unfollowed := true, recurses := true, plainKeys := false, apart := false, narrowed := true }
def FrameRoundUptoSaid : Prop := frameRoundUptoRow.holds Try.pinned (OpenSpec.upto frameRoundSpec)

/-- 'hangfirelaw09.FrameSent', WHERE WHAT IT READS IS OF BULK AT MOST 1048576: true; the input reads as it did. -/
def frameSentUptoRow : OpenClaim := { program := "ytjnnkcnnandeeaa", sum := "7c22ff6dfdd5d10e29be278ba8922815b605e93957cb12c45d4f65a2b3990bde", func := "hangfire/hangfirelaw09.FrameSent", spec := "frameSent", unfollowed := true, recurses := true, plainKeys := false, apart := false, narrowed := true }
def FrameSentUptoSaid : Prop := frameSentUptoRow.holds Try.pinned (OpenSpec.upto frameSentSpec)

/-- 'hangfirelaw09.FrameBurst', WHERE WHAT IT READS IS OF BULK AT MOST 1048576: true; the input reads as it did. -/
def frameBurstUptoRow : OpenClaim := { program := "ytjnnkcnnandeeaa", sum := "7c22ff6dfdd5d10e29be278ba8922815b605e93957cb12c45d4f65a2b3990bde", func := "hangfire/hangfirelaw09.FrameBurst", spec := "frameBurst", unfollowed := true, recurses := true, plainKeys := false, apart := false, narrowed := true }
def FrameBurstUptoSaid : Prop := frameBurstUptoRow.holds Try.pinned (OpenSpec.upto frameBurstSpec)

/-- 'hangfirelaw09.FrameJoin', WHERE WHAT IT READS IS OF BULK AT MOST 1048576: true; the input reads as it did. -/
def frameJoinUptoRow : OpenClaim := { program := "ytjnnkcnnandeeaa", sum := "7c22ff6dfdd5d10e29be278ba8922815b605e93957cb12c45d4f65a2b3990bde", func := "hangfire/hangfirelaw09.FrameJoin", spec := "frameJoin", unfollowed := true, recurses := true, plainKeys := false, apart := false, narrowed := true }
def FrameJoinUptoSaid : Prop := frameJoinUptoRow.holds Try.pinned (OpenSpec.upto frameJoinSpec)

/-- 'hangfirelaw09.FrameChecks', WHERE WHAT IT READS IS OF BULK AT MOST 1048576: true; the input reads as it did. -/
def frameChecksUptoRow : OpenClaim := { program := "ytjnnkcnnandeeaa", sum := "7c22ff6dfdd5d10e29be278ba8922815b605e93957cb12c45d4f65a2b3990bde", func := "hangfire/hangfirelaw09.FrameChecks", spec := "frameChecks", unfollowed := true, recurses := true, plainKeys := false, apart := false, narrowed := true }
def FrameChecksUptoSaid : Prop := frameChecksUptoRow.holds Try.pinned (OpenSpec.upto frameChecksSpec)

/-- 'hangfirelaw09.FrameShared', WHERE WHAT IT READS IS OF BULK AT MOST 1048576: true; the input reads as it did. -/
def frameSharedUptoRow : OpenClaim := { program := "ytjnnkcnnandeeaa", sum := "7c22ff6dfdd5d10e29be278ba8922815b605e93957cb12c45d4f65a2b3990bde", func := "hangfire/hangfirelaw09.FrameShared", spec := "frameShared", unfollowed := true, recurses := true, plainKeys := false, apart := false, narrowed := true }
def FrameSharedUptoSaid : Prop := frameSharedUptoRow.holds Try.pinned (OpenSpec.upto frameSharedSpec)

/-- 'hangfirelaw09.FrameAxes', WHERE WHAT IT READS IS OF BULK AT MOST 1048576: true; the input reads as it did. -/
def frameAxesUptoRow : OpenClaim := { program := "ytjnnkcnnandeeaa", sum := "7c22ff6dfdd5d10e29be278ba8922815b605e93957cb12c45d4f65a2b3990bde", func := "hangfire/hangfirelaw09.FrameAxes", spec := "frameAxes", unfollowed := true, recurses := true, plainKeys := false, apart := false, narrowed := true }
def FrameAxesUptoSaid : Prop := frameAxesUptoRow.holds Try.pinned (OpenSpec.upto frameAxesSpec)

/-- 'hangfirelaw09.FrameAxis', WHERE WHAT IT READS IS OF BULK AT MOST 1048576: true; the input reads as it did. -/
def frameAxisUptoRow : OpenClaim := { program := "ytjnnkcnnandeeaa", sum := "7c22ff6dfdd5d10e29be278ba8922815b605e93957cb12c45d4f65a2b3990bde", func := "hangfire/hangfirelaw09.FrameAxis", spec := "frameAxis", unfollowed := true, recurses := true, plainKeys := false, apart := false, narrowed := true }
def FrameAxisUptoSaid : Prop := frameAxisUptoRow.holds Try.pinned (OpenSpec.upto frameAxisSpec)

/-- 'hangfirelaw09.FrameLess', WHERE WHAT IT READS IS OF BULK AT MOST 1048576: true; the input reads as it did. -/
def frameLessUptoRow : OpenClaim := { program := "ytjnnkcnnandeeaa", sum := "7c22ff6dfdd5d10e29be278ba8922815b605e93957cb12c45d4f65a2b3990bde", func := "hangfire/hangfirelaw09.FrameLess", spec := "frameLess", unfollowed := true, recurses := true, plainKeys := false, apart := false, narrowed := true }
def FrameLessUptoSaid : Prop := frameLessUptoRow.holds Try.pinned (OpenSpec.upto frameLessSpec)

/-- 'hangfirelaw09.FrameMerges', WHERE WHAT IT READS IS OF BULK AT MOST 1048576: true; the input reads as it did. -/
def frameMergesUptoRow : OpenClaim := { program := "ytjnnkcnnandeeaa", sum := "7c22ff6dfdd5d10e29be278ba8922815b605e93957cb12c45d4f65a2b3990bde", func := "hangfire/hangfirelaw09.FrameMerges", spec := "frameMerges", unfollowed := true, recurses := true, plainKeys := false, apart := false, narrowed := true }
def FrameMergesUptoSaid : Prop := frameMergesUptoRow.holds Try.pinned (OpenSpec.upto frameMergesSpec)

/-- 'hangfirelaw09.FrameReceivers', WHERE WHAT IT READS IS OF BULK AT MOST 1048576: true; the input reads as it did. -/
def frameReceiversUptoRow : OpenClaim := { program := "ytjnnkcnnandeeaa", sum := "7c22ff6dfdd5d10e29be278ba8922815b605e93957cb12c45d4f65a2b3990bde", func := "hangfire/hangfirelaw09.FrameReceivers", spec := "frameReceivers", unfollowed := true, recurses := true, plainKeys := false, apart := false, narrowed := true }
def FrameReceiversUptoSaid : Prop := frameReceiversUptoRow.holds Try.pinned (OpenSpec.upto frameReceiversSpec)

/-- 'hangfirelaw09.FrameKnown', WHERE WHAT IT READS IS OF BULK AT MOST 1048576: true; the input reads as it did. -/
def frameKnownUptoRow : OpenClaim := { program := "ytjnnkcnnandeeaa", sum := "7c22ff6dfdd5d10e29be278ba8922815b605e93957cb12c45d4f65a2b3990bde", func := "hangfire/hangfirelaw09.FrameKnown", spec := "frameKnown", unfollowed := true, recurses := true, plainKeys := false, apart := false, narrowed := true }
def FrameKnownUptoSaid : Prop := frameKnownUptoRow.holds Try.pinned (OpenSpec.upto frameKnownSpec)

end Rows
end Go.Proofs.Ytjnnkcnnandeeaa
