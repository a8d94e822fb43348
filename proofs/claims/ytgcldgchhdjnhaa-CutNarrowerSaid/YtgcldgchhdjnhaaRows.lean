/-
  No cell of these rows narrows 'for every input' (looked for: loops, veiled, ifaces, maps, wideKeys, modest, calm, conditions, laid).
  DERIVED. THE GIVEN ROWS OF THIS SEAT. 14 by the template 'for every input the law returns true; each argument reads behind the call as it read before'; 0 by the template 'total and deterministic' (their statements: YtgcldgchhdjnhaaTotals.lean).
  GIVEN WITH THE SEED: the statements are not yours to turn. If you find one false, say at which input.
  Laid BY PROGRAM, IN A SANDBOX (cutbox-rows.mjs): the forced cells as the released guide's own fill.sh prints them over the translation f8e4a3ff6d011c30… (all of the seat's roots in one cut). By AI agents, Wed Nov 11 2026. No macro, syntax, notation, axiom, sorry.
-/
import Derived.Test.YtgcldgchhdjnhaaChecked
import GoSem.Claim
import GoSem.ClaimJoined
import GoSem.ClaimMapViews
import Derived.JoinedTies
import Derived.KernelRfl
namespace Go.Proofs.Ytgcldgchhdjnhaa
/- THE CELL 'sum', in the pinned program and in every row, IS THE sha256 OF THE DUMP (.gsa) THAT YtgcldgchhdjnhaaProg.lean LOADS. Nothing in Lean hashes anything: it is a label: what it is worth is what the hold of that sum in a sandbox is worth. -/
noncomputable def Try.pinned : Pinned := { name := "ytgcldgchhdjnhaa", sum := "f8e4a3ff6d011c304eaf3578c736366dda3b3573b6caaaec9590ae7bd2ceebac", checked := Try.checked }
namespace Rows
def none {H : Type} : Left H := { results := [], args := [] }

/-- 'quinellalaw05.CutHalls': WHATEVER THE INPUT: true; the input reads as it did. -/
def cutHallsSpec : ChangeSpec := { name := "cutHalls", fn := fun _ => fun
  | [d1, d2] => { results := [.lit (.bool true)], args := [d1, d2] }
  | _ => none }
def cutHallsRow : OpenClaim := { program := "ytgcldgchhdjnhaa", sum := "f8e4a3ff6d011c304eaf3578c736366dda3b3573b6caaaec9590ae7bd2ceebac", func := "quinella/quinellalaw05.CutHalls", spec := "cutHalls", unfollowed := true, recurses := true, plainKeys := false, apart := false }
def CutHallsSaid : Prop := cutHallsRow.holds Try.pinned (OpenSpec.ofChange cutHallsSpec)

/-- ITS FALSE NEIGHBOUR: 'it returns false'. Refute it at one input. -/
def cutHallsWrong : ChangeSpec := { name := "cutHalls", fn := fun _ => fun
  | [d1, d2] => { results := [.lit (.bool false)], args := [d1, d2] }
  | _ => none }
def CutHallsWrongFalsely : Prop := cutHallsRow.holds Try.pinned (OpenSpec.ofChange cutHallsWrong)

/-- 'quinellalaw05.CutSpans': WHATEVER THE INPUT: true; the input reads as it did. -/
def cutSpansSpec : ChangeSpec := { name := "cutSpans", fn := fun _ => fun
  | [d1, d2, d3] => { results := [.lit (.bool true)], args := [d1, d2, d3] }
  | _ => none }
def cutSpansRow : OpenClaim := { program := "ytgcldgchhdjnhaa", sum := "f8e4a3ff6d011c304eaf3578c736366dda3b3573b6caaaec9590ae7bd2ceebac", func := "quinella/quinellalaw05.CutSpans", spec := "cutSpans", unfollowed := true, recurses := true, plainKeys := false, apart := false }
def CutSpansSaid : Prop := cutSpansRow.holds Try.pinned (OpenSpec.ofChange cutSpansSpec)

/-- ITS FALSE NEIGHBOUR: 'it returns false'. Refute it at one input. -/
def cutSpansWrong : ChangeSpec := { name := "cutSpans", fn := fun _ => fun
  | [d1, d2, d3] => { results := [.lit (.bool false)], args := [d1, d2, d3] }
  | _ => none }
def CutSpansWrongFalsely : Prop := cutSpansRow.holds Try.pinned (OpenSpec.ofChange cutSpansWrong)

/-- 'quinellalaw05.CutWays': WHATEVER THE INPUT: true; the input reads as it did. -/
def cutWaysSpec : ChangeSpec := { name := "cutWays", fn := fun _ => fun
  | [d1, d2, d3, d4] => { results := [.lit (.bool true)], args := [d1, d2, d3, d4] }
  | _ => none }
def cutWaysRow : OpenClaim := { program := "ytgcldgchhdjnhaa", sum := "f8e4a3ff6d011c304eaf3578c736366dda3b3573b6caaaec9590ae7bd2ceebac", func := "quinella/quinellalaw05.CutWays", spec := "cutWays", unfollowed := true, recurses := true, plainKeys := false, apart := false }
def CutWaysSaid : Prop := cutWaysRow.holds Try.pinned (OpenSpec.ofChange cutWaysSpec)

/-- ITS FALSE NEIGHBOUR: 'it returns false'. Refute it at one input. -/
def cutWaysWrong : ChangeSpec := { name := "cutWays", fn := fun _ => fun
  | [d1, d2, d3, d4] => { results := [.lit (.bool false)], args := [d1, d2, d3, d4] }
  | _ => none }
def CutWaysWrongFalsely : Prop := cutWaysRow.holds Try.pinned (OpenSpec.ofChange cutWaysWrong)

/-- 'quinellalaw05.CutRings': WHATEVER THE INPUT: true; the input reads as it did. -/
def cutRingsSpec : ChangeSpec := { name := "cutRings", fn := fun _ => fun
  | [d1, d2] => { results := [.lit (.bool true)], args := [d1, d2] }
  | _ => none }
def cutRingsRow : OpenClaim := { program := "ytgcldgchhdjnhaa", sum := "f8e4a3ff6d011c304eaf3578c736366dda3b3573b6caaaec9590ae7bd2ceebac", func := "quinella/quinellalaw05.CutRings", spec := "cutRings", unfollowed := true, recurses := true, plainKeys := false, apart := false }
def CutRingsSaid : Prop := cutRingsRow.holds Try.pinned (OpenSpec.ofChange cutRingsSpec)

/-- ITS FALSE NEIGHBOUR: 'it returns false'. Refute it at one input. -/
def cutRingsWrong : ChangeSpec := { name := "cutRings", fn := fun _ => fun
  | [d1, d2] => { results := [.lit (.bool false)], args := [d1, d2] }
  | _ => none }
def CutRingsWrongFalsely : Prop := cutRingsRow.holds Try.pinned (OpenSpec.ofChange cutRingsWrong)

/-- 'quinellalaw05.CutWrongs': WHATEVER THE INPUT: true; the input reads as it did. -/
def cutWrongsSpec : ChangeSpec := { name := "cutWrongs", fn := fun _ => fun
  | [d1, d2] => { results := [.lit (.bool true)], args := [d1, d2] }
  | _ => none }
def cutWrongsRow : OpenClaim := { program := "ytgcldgchhdjnhaa", sum := "f8e4a3ff6d011c304eaf3578c736366dda3b3573b6caaaec9590ae7bd2ceebac", func := "quinella/quinellalaw05.CutWrongs", spec := "cutWrongs", unfollowed := true, recurses := true, plainKeys := false, apart := false }
def CutWrongsSaid : Prop := cutWrongsRow.holds Try.pinned (OpenSpec.ofChange cutWrongsSpec)

/-- ITS FALSE NEIGHBOUR: 'it returns false'. Refute it at one input. -/
def cutWrongsWrong : ChangeSpec := { name := "cutWrongs", fn := fun _ => fun
  | [d1, d2] => { results := [.lit (.bool false)], args := [d1, d2] }
  | _ => none }
def CutWrongsWrongFalsely : Prop := cutWrongsRow.holds Try.pinned (OpenSpec.ofChange cutWrongsWrong)

/-- 'quinellalaw05.CutEither': WHATEVER THE INPUT: true; the input reads as it did. -/
def cutEitherSpec : ChangeSpec := { name := "cutEither", fn := fun _ => fun
  | [d1, d2, d3] => { results := [.lit (.bool true)], args := [d1, d2, d3] }
  | _ => none }
def cutEitherRow : OpenClaim := { program := "ytgcldgchhdjnhaa", sum := "f8e4a3ff6d011c304eaf3578c736366dda3b3573b6caaaec9590ae7bd2ceebac", func := "quinella/quinellalaw05.CutEither", spec := "cutEither", unfollowed := true, recurses := true, plainKeys := false, apart := false }
def CutEitherSaid : Prop := cutEitherRow.holds Try.pinned (OpenSpec.ofChange cutEitherSpec)

/-- ITS FALSE NEIGHBOUR: 'it returns false'. Refute it at one input. -/
def cutEitherWrong : ChangeSpec := { name := "cutEither", fn := fun _ => fun
  | [d1, d2, d3] => { results := [.lit (.bool false)], args := [d1, d2, d3] }
  | _ => none }
def CutEitherWrongFalsely : Prop := cutEitherRow.holds Try.pinned (OpenSpec.ofChange cutEitherWrong)

/-- 'quinellalaw05.CutHeld': WHATEVER THE INPUT: true; the input reads as it did. -/
def cutHeldSpec : ChangeSpec := { name := "cutHeld", fn := fun _ => fun
  | [d1, d2, d3, d4, d5] => { results := [.lit (.bool true)], args := [d1, d2, d3, d4, d5] }
  | _ => none }
def cutHeldRow : OpenClaim := { program := "ytgcldgchhdjnhaa", sum := "f8e4a3ff6d011c304eaf3578c736366dda3b3573b6caaaec9590ae7bd2ceebac", func := "quinella/quinellalaw05.CutHeld", spec := "cutHeld", unfollowed := true, recurses := true, plainKeys := false, apart := false }
def CutHeldSaid : Prop := cutHeldRow.holds Try.pinned (OpenSpec.ofChange cutHeldSpec)

/-- ITS FALSE NEIGHBOUR: 'it returns false'. Refute it at one input. -/
def cutHeldWrong : ChangeSpec := { name := "cutHeld", fn := fun _ => fun
  | [d1, d2, d3, d4, d5] => { results := [.lit (.bool false)], args := [d1, d2, d3, d4, d5] }
  | _ => none }
def CutHeldWrongFalsely : Prop := cutHeldRow.holds Try.pinned (OpenSpec.ofChange cutHeldWrong)

/-- 'quinellalaw05.CutProved': WHATEVER THE INPUT: true; the input reads as it did. -/
def cutProvedSpec : ChangeSpec := { name := "cutProved", fn := fun _ => fun
  | [d1, d2, d3, d4] => { results := [.lit (.bool true)], args := [d1, d2, d3, d4] }
  | _ => none }
def cutProvedRow : OpenClaim := { program := "ytgcldgchhdjnhaa", sum := "f8e4a3ff6d011c304eaf3578c736366dda3b3573b6caaaec9590ae7bd2ceebac", func := "quinella/quinellalaw05.CutProved", spec := "cutProved", unfollowed := true, recurses := true, plainKeys := false, apart := false }
def CutProvedSaid : Prop := cutProvedRow.holds Try.pinned (OpenSpec.ofChange cutProvedSpec)

/-- ITS FALSE NEIGHBOUR: 'it returns false'. Refute it at one input. -/
def cutProvedWrong : ChangeSpec := { name := "cutProved", fn := fun _ => fun
  | [d1, d2, d3, d4] => { results := [.lit (.bool false)], args := [d1, d2, d3, d4] }
  | _ => none }
def CutProvedWrongFalsely : Prop := cutProvedRow.holds Try.pinned (OpenSpec.ofChange cutProvedWrong)

/-- 'quinellalaw05.CutNarrower': WHATEVER THE INPUT: true; the input reads as it did. -/
def cutNarrowerSpec : ChangeSpec := { name := "cutNarrower", fn := fun _ => fun
  | [d1, d2, d3, d4, d5, d6] => { results := [.lit (.bool true)], args := [d1, d2, d3, d4, d5, d6] }
  | _ => none }
def cutNarrowerRow : OpenClaim := { program := "ytgcldgchhdjnhaa", sum := "f8e4a3ff6d011c304eaf3578c736366dda3b3573b6caaaec9590ae7bd2ceebac", func := "quinella/quinellalaw05.CutNarrower", spec := "cutNarrower", unfollowed := true, recurses := true, plainKeys := false, apart := false }
def CutNarrowerSaid : Prop := cutNarrowerRow.holds Try.pinned (OpenSpec.ofChange cutNarrowerSpec)

/-- ITS FALSE NEIGHBOUR: 'it returns false'. Refute it at one input. -/
def cutNarrowerWrong : ChangeSpec := { name := "cutNarrower", fn := fun _ => fun
  | [d1, d2, d3, d4, d5, d6] => { results := [.lit (.bool false)], args := [d1, d2, d3, d4, d5, d6] }
  | _ => none }
def CutNarrowerWrongFalsely : Prop := cutNarrowerRow.holds Try.pinned (OpenSpec.ofChange cutNarrowerWrong)

/-- 'quinellalaw05.CutJoined': WHATEVER THE INPUT: true; the input reads as it did. -/
def cutJoinedSpec : ChangeSpec := { name := "cutJoined", fn := fun _ => fun
  | [d1, d2, d3, d4] => { results := [.lit (.bool true)], args := [d1, d2, d3, d4] }
  | _ => none }
def cutJoinedRow : OpenClaim := { program := "ytgcldgchhdjnhaa", sum := "f8e4a3ff6d011c304eaf3578c736366dda3b3573b6caaaec9590ae7bd2ceebac", func := "quinella/quinellalaw05.CutJoined", spec := "cutJoined", unfollowed := true, recurses := true, plainKeys := false, apart := false }
def CutJoinedSaid : Prop := cutJoinedRow.holds Try.pinned (OpenSpec.ofChange cutJoinedSpec)

/-- ITS FALSE NEIGHBOUR: 'it returns false'. Refute it at one input. -/
def cutJoinedWrong : ChangeSpec := { name := "cutJoined", fn := fun _ => fun
  | [d1, d2, d3, d4] => { results := [.lit (.bool false)], args := [d1, d2, d3, d4] }
  | _ => none }
def CutJoinedWrongFalsely : Prop := cutJoinedRow.holds Try.pinned (OpenSpec.ofChange cutJoinedWrong)

/-- 'quinellalaw05.CutBlamed': WHATEVER THE INPUT: true; the input reads as it did. -/
def cutBlamedSpec : ChangeSpec := { name := "cutBlamed", fn := fun _ => fun
  | [d1, d2, d3] => { results := [.lit (.bool true)], args := [d1, d2, d3] }
  | _ => none }
def cutBlamedRow : OpenClaim := { program := "ytgcldgchhdjnhaa", sum := "f8e4a3ff6d011c304eaf3578c736366dda3b3573b6caaaec9590ae7bd2ceebac", func := "quinella/quinellalaw05.CutBlamed", spec := "cutBlamed", unfollowed := true, recurses := true, plainKeys := false, apart := false }
def CutBlamedSaid : Prop := cutBlamedRow.holds Try.pinned (OpenSpec.ofChange cutBlamedSpec)

/-- ITS FALSE NEIGHBOUR: 'it returns false'. Refute it at one input. -/
def cutBlamedWrong : ChangeSpec := { name := "cutBlamed", fn := fun _ => fun
  | [d1, d2, d3] => { results := [.lit (.bool false)], args := [d1, d2, d3] }
  | _ => none }
def CutBlamedWrongFalsely : Prop := cutBlamedRow.holds Try.pinned (OpenSpec.ofChange cutBlamedWrong)

/-- 'quinellalaw05.CutTurned': WHATEVER THE INPUT: true; the input reads as it did. -/
def cutTurnedSpec : ChangeSpec := { name := "cutTurned", fn := fun _ => fun
  | [d1, d2, d3, d4] => { results := [.lit (.bool true)], args := [d1, d2, d3, d4] }
  | _ => none }
def cutTurnedRow : OpenClaim := { program := "ytgcldgchhdjnhaa", sum := "f8e4a3ff6d011c304eaf3578c736366dda3b3573b6caaaec9590ae7bd2ceebac", func := "quinella/quinellalaw05.CutTurned", spec := "cutTurned", unfollowed := true, recurses := true, plainKeys := false, apart := false }
def CutTurnedSaid : Prop := cutTurnedRow.holds Try.pinned (OpenSpec.ofChange cutTurnedSpec)

/-- ITS FALSE NEIGHBOUR: 'it returns false'. Refute it at one input. -/
def cutTurnedWrong : ChangeSpec := { name := "cutTurned", fn := fun _ => fun
  | [d1, d2, d3, d4] => { results := [.lit (.bool false)], args := [d1, d2, d3, d4] }
  | _ => none }
def CutTurnedWrongFalsely : Prop := cutTurnedRow.holds Try.pinned (OpenSpec.ofChange cutTurnedWrong)

/-- 'quinellalaw05.CutNamed': WHATEVER THE INPUT: true; the input reads as it did. -/
def cutNamedSpec : ChangeSpec := { name := "cutNamed", fn := fun _ => fun
  | [d1, d2, d3, d4, d5] => { results := [.lit (.bool true)], args := [d1, d2, d3, d4, d5] }
  | _ => none }
def cutNamedRow : OpenClaim := { program := "ytgcldgchhdjnhaa", sum := "f8e4a3ff6d011c304eaf3578c736366dda3b3573b6caaaec9590ae7bd2ceebac", func := "quinella/quinellalaw05.CutNamed", spec := "cutNamed", unfollowed := true, recurses := true, plainKeys := false, apart := false }
def CutNamedSaid : Prop := cutNamedRow.holds Try.pinned (OpenSpec.ofChange cutNamedSpec)

/-- ITS FALSE NEIGHBOUR: 'it returns false'. Refute it at one input. -/
def cutNamedWrong : ChangeSpec := { name := "cutNamed", fn := fun _ => fun
  | [d1, d2, d3, d4, d5] => { results := [.lit (.bool false)], args := [d1, d2, d3, d4, d5] }
  | _ => none }
def CutNamedWrongFalsely : Prop := cutNamedRow.holds Try.pinned (OpenSpec.ofChange cutNamedWrong)

/-- 'quinellalaw05.CutKnown': WHATEVER THE INPUT: true; the input reads as it did. -/
def cutKnownSpec : ChangeSpec := { name := "cutKnown", fn := fun _ => fun
  | [] => { results := [.lit (.bool true)], args := [] }
  | _ => none }
def cutKnownRow : OpenClaim := { program := "ytgcldgchhdjnhaa", sum := "f8e4a3ff6d011c304eaf3578c736366dda3b3573b6caaaec9590ae7bd2ceebac", func := "quinella/quinellalaw05.CutKnown", spec := "cutKnown", unfollowed := true, recurses := true, plainKeys := false, apart := false }
def CutKnownSaid : Prop := cutKnownRow.holds Try.pinned (OpenSpec.ofChange cutKnownSpec)

/-- ITS FALSE NEIGHBOUR: 'it returns false'. Refute it at one input. -/
def cutKnownWrong : ChangeSpec := { name := "cutKnown", fn := fun _ => fun
  | [] => { results := [.lit (.bool false)], args := [] }
  | _ => none }
def CutKnownWrongFalsely : Prop := cutKnownRow.holds Try.pinned (OpenSpec.ofChange cutKnownWrong)

/- THE SECOND FORM. 'bulk': how many values and letters a reading holds, each counted each time it is reached (what is shared counts as often as it is met; a slice's spare places count too). A statement '..UptoSaid' is the law's where the arguments, and the package variables that the reading takes, are together of bulk at most 1048576: NARROWER than '..Said'. Prove '..Said' where nothing that the law and all that it calls make is longer than what came in: it says more and counts as full. Else prove '..UptoSaid'. A law counts once. -/
mutual
def uptoBulk {H : Type} : DataW H → Nat
  | .lit (.string bytes) => bytes.length + 1
  | .lit _ => 1
  | .nil => 1
  | .ptr d => uptoBulk d + 1
  | .slice elems spare => uptoBulkAll elems + uptoBulkAll spare + 1
  | .agg parts => uptoBulkAll parts + 1
  | .iface _ d => uptoBulk d + 1
  | .map entries => uptoBulkEntries entries + 1
  | .held _ => 1
def uptoBulkAll {H : Type} : List (DataW H) → Nat
  | [] => 0
  | d :: r => uptoBulk d + uptoBulkAll r
def uptoBulkEntries {H : Type} : List (Lit × DataW H) → Nat
  | [] => 0
  | x :: r => uptoBulkEntry x + uptoBulkEntries r
def uptoBulkEntry {H : Type} : Lit × DataW H → Nat
  | (.string bytes, d) => bytes.length + uptoBulk d + 1
  | (_, d) => uptoBulk d + 1
 end
def uptoSmall : (H : Type) → List (DataW H) → Bool := fun _ ds => decide (uptoBulkAll ds ≤ 1048576)
def OpenSpec.upto (s : _root_.Go.ChangeSpec) : _root_.Go.OpenSpec := { _root_.Go.OpenSpec.ofChange s with cond := some uptoSmall }

/-- 'quinellalaw05.CutHalls', WHERE WHAT IT READS IS OF BULK AT MOST 1048576: true; the input reads as it did. -/
def cutHallsUptoRow : OpenClaim := { program := "ytgcldgchhdjnhaa", sum := "f8e4a3ff6d011c304eaf3578c736366dda3b3573b6caaaec9590ae7bd2ceebac", func := "quinella/quinellalaw05.CutHalls", spec := "cutHalls", unfollowed := true, recurses := true, plainKeys := false, apart := false, narrowed := true }
def CutHallsUptoSaid : Prop := cutHallsUptoRow.holds Try.pinned (OpenSpec.upto cutHallsSpec)

/-- 'quinellalaw05.CutSpans', WHERE WHAT IT READS IS OF BULK AT MOST 1048576: true; the input reads as it did. -/
def cutSpansUptoRow : OpenClaim := { program := "ytgcldgchhdjnhaa", sum := "f8e4a3ff6d011c304eaf3578c736366dda3b3573b6caaaec9590ae7bd2ceebac", func := "quinella/quinellalaw05.CutSpans", spec := "cutSpans", unfollowed := true, recurses := true, plainKeys := false, apart := false, narrowed := true }
def CutSpansUptoSaid : Prop := cutSpansUptoRow.holds Try.pinned (OpenSpec.upto cutSpansSpec)

/-- 'quinellalaw05.CutWays', WHERE WHAT IT READS IS OF BULK AT MOST 1048576: true; the input reads as it did. -/
def cutWaysUptoRow : OpenClaim := { program := "ytgcldgchhdjnhaa", sum := "f8e4a3ff6d011c304eaf3578c736366dda3b3573b6caaaec9590ae7bd2ceebac", func := "quinella/quinellalaw05.CutWays", spec := "cutWays", unfollowed := true, recurses := true, plainKeys := false, apart := false, narrowed := true }
def CutWaysUptoSaid : Prop := cutWaysUptoRow.holds Try.pinned (OpenSpec.upto cutWaysSpec)

/-- 'quinellalaw05.CutRings', WHERE WHAT IT READS IS OF BULK AT MOST 1048576: true; the input reads as it did. -/
def cutRingsUptoRow : OpenClaim := { program := "ytgcldgchhdjnhaa", sum := "f8e4a3ff6d011c304eaf3578c736366dda3b3573b6caaaec9590ae7bd2ceebac", func := "quinella/quinellalaw05.CutRings", spec := "cutRings", unfollowed := true, recurses := true, plainKeys := false, apart := false, narrowed := true }
def CutRingsUptoSaid : Prop := cutRingsUptoRow.holds Try.pinned (OpenSpec.upto cutRingsSpec)

/-- 'quinellalaw05.CutWrongs', WHERE WHAT IT READS IS OF BULK AT MOST 1048576: true; the input reads as it did. -/
def cutWrongsUptoRow : OpenClaim := { program := "ytgcldgchhdjnhaa", sum := "f8e4a3ff6d011c304eaf3578c736366dda3b3573b6caaaec9590ae7bd2ceebac", func := "quinella/quinellalaw05.CutWrongs", spec := "cutWrongs", unfollowed := true, recurses := true, plainKeys := false, apart := false, narrowed := true }
def CutWrongsUptoSaid : Prop := cutWrongsUptoRow.holds Try.pinned (OpenSpec.upto cutWrongsSpec)

/-- 'quinellalaw05.CutEither', WHERE WHAT IT READS IS OF BULK AT MOST 1048576: true; the input reads as it did. -/
def cutEitherUptoRow : OpenClaim := { program := "ytgcldgchhdjnhaa", sum := "f8e4a3ff6d011c304eaf3578c736366dda3b3573b6caaaec9590ae7bd2ceebac", func := "quinella/quinellalaw05.CutEither", spec := "cutEither", unfollowed := true, recurses := true, plainKeys := false, apart := false, narrowed := true }
def CutEitherUptoSaid : Prop := cutEitherUptoRow.holds Try.pinned (OpenSpec.upto cutEitherSpec)

/-- 'quinellalaw05.CutHeld', WHERE WHAT IT READS IS OF BULK AT MOST 1048576: true; the input reads as it did. -/
def cutHeldUptoRow : OpenClaim := { program := "ytgcldgchhdjnhaa", sum := "f8e4a3ff6d011c304eaf3578c736366dda3b3573b6caaaec9590ae7bd2ceebac", func := "quinella/quinellalaw05.CutHeld", spec := "cutHeld", unfollowed := true, recurses := true, plainKeys := false, apart := false, narrowed := true }
def CutHeldUptoSaid : Prop := cutHeldUptoRow.holds Try.pinned (OpenSpec.upto cutHeldSpec)

/-- 'quinellalaw05.CutProved', WHERE WHAT IT READS IS OF BULK AT MOST 1048576: true; the input reads as it did. -/
def cutProvedUptoRow : OpenClaim := { program := "ytgcldgchhdjnhaa", sum := "f8e4a3ff6d011c304eaf3578c736366dda3b3573b6caaaec9590ae7bd2ceebac", func := "quinella/quinellalaw05.CutProved", spec := "cutProved", unfollowed := true, recurses := true, plainKeys := false, apart := false, narrowed := true }
def CutProvedUptoSaid : Prop := cutProvedUptoRow.holds Try.pinned (OpenSpec.upto cutProvedSpec)

/-- 'quinellalaw05.CutNarrower', WHERE WHAT IT READS IS OF BULK AT MOST 1048576: true; the input reads as it did. -/
def cutNarrowerUptoRow : OpenClaim := { program := "ytgcldgchhdjnhaa", sum := "f8e4a3ff6d011c304eaf3578c736366dda3b3573b6caaaec9590ae7bd2ceebac", func := "quinella/quinellalaw05.CutNarrower", spec := "cutNarrower", unfollowed := true, recurses := true, plainKeys := false, apart := false, narrowed := true }
def CutNarrowerUptoSaid : Prop := cutNarrowerUptoRow.holds Try.pinned (OpenSpec.upto cutNarrowerSpec)

/-- 'quinellalaw05.CutJoined', WHERE WHAT IT READS IS OF BULK AT MOST 1048576: true; the input reads as it did. -/
def cutJoinedUptoRow : OpenClaim := { program := "ytgcldgchhdjnhaa", sum := "f8e4a3ff6d011c304eaf3578c736366dda3b3573b6caaaec9590ae7bd2ceebac", func := "quinella/quinellalaw05.CutJoined", spec := "cutJoined", unfollowed := true, recurses := true, plainKeys := false, apart := false, narrowed := true }
def CutJoinedUptoSaid : Prop := cutJoinedUptoRow.holds Try.pinned (OpenSpec.upto cutJoinedSpec)

/-- 'quinellalaw05.CutBlamed', WHERE WHAT IT READS IS OF BULK AT MOST 1048576: true; the input reads as it did. -/
def cutBlamedUptoRow : OpenClaim := { program := "ytgcldgchhdjnhaa", sum := "f8e4a3ff6d011c304eaf3578c736366dda3b3573b6caaaec9590ae7bd2ceebac", func := "quinella/quinellalaw05.CutBlamed", spec := "cutBlamed", unfollowed := true, recurses := true, plainKeys := false, apart := false, narrowed := true }
def CutBlamedUptoSaid : Prop := cutBlamedUptoRow.holds Try.pinned (OpenSpec.upto cutBlamedSpec)

/-- 'quinellalaw05.CutTurned', WHERE WHAT IT READS IS OF BULK AT MOST 1048576: true; the input reads as it did. -/
def cutTurnedUptoRow : OpenClaim := { program := "ytgcldgchhdjnhaa", sum := "f8e4a3ff6d011c304eaf3578c736366dda3b3573b6caaaec9590ae7bd2ceebac", func := "quinella/quinellalaw05.CutTurned", spec := "cutTurned", unfollowed := true, recurses := true, plainKeys := false, apart := false, narrowed := true }
def CutTurnedUptoSaid : Prop := cutTurnedUptoRow.holds Try.pinned (OpenSpec.upto cutTurnedSpec)

/-- 'quinellalaw05.CutNamed', WHERE WHAT IT READS IS OF BULK AT MOST 1048576: true; the input reads as it did. -/
def cutNamedUptoRow : OpenClaim := { program := "ytgcldgchhdjnhaa", sum := "f8e4a3ff6d011c304eaf3578c736366dda3b3573b6caaaec9590ae7bd2ceebac", func := "quinella/quinellalaw05.CutNamed", spec := "cutNamed", unfollowed := true, recurses := true, plainKeys := false, apart := false, narrowed := true }
def CutNamedUptoSaid : Prop := cutNamedUptoRow.holds Try.pinned (OpenSpec.upto cutNamedSpec)

/-- 'quinellalaw05.CutKnown', WHERE WHAT IT READS IS OF BULK AT MOST 1048576: true; the input reads as it did. -/
def cutKnownUptoRow : OpenClaim := { program := "ytgcldgchhdjnhaa", sum := "f8e4a3ff6d011c304eaf3578c736366dda3b3573b6caaaec9590ae7bd2ceebac", func := "quinella/quinellalaw05.CutKnown", spec := "cutKnown", unfollowed := true, recurses := true, plainKeys := false, apart := false, narrowed := true }
def CutKnownUptoSaid : Prop := cutKnownUptoRow.holds Try.pinned (OpenSpec.upto cutKnownSpec)

end Rows
end Go.Proofs.Ytgcldgchhdjnhaa
