/-
  No cell of these rows narrows 'for every input' (looked for: loops, veiled, ifaces, maps, wideKeys, modest, calm, conditions, laid).
  DERIVED. THE GIVEN ROWS OF THIS SEAT. 15 by the template 'for every input the law returns true; each argument reads behind the call as it read before'; 0 by the template 'total and deterministic' (their statements: YtndgaklcnhoddaaTotals.lean).
  GIVEN WITH THE SEED: the statements are not yours to turn. If you find one false, say at which input.
  Laid BY PROGRAM, IN A SANDBOX (cutbox-rows.mjs): the forced cells as the released guide's own fill.sh prints them over the translation 2b449160582ef143… (all of the seat's roots in one cut). By AI agents, Wed Nov 11 2026. No macro, syntax, notation, axiom, sorry.
-/
import Derived.Test.YtndgaklcnhoddaaChecked
import GoSem.Claim
import GoSem.ClaimJoined
import GoSem.ClaimMapViews
import Derived.JoinedTies
import Derived.KernelRfl
namespace Go.Proofs.Ytndgaklcnhoddaa
/- THE CELL 'sum', in the pinned program and in every row, IS THE sha256 OF THE DUMP (.gsa) THAT YtndgaklcnhoddaaProg.lean LOADS. Nothing in Lean hashes anything: it is a label: what it is worth is what the hold of that sum in a sandbox is worth. -/
noncomputable def Try.pinned : Pinned := { name := "ytndgaklcnhoddaa", sum := "2b449160582ef1439010e560f48473607f3edab574e98fd5c377a0e472ae2cd3", checked := Try.checked }
namespace Rows
def none {H : Type} : Left H := { results := [], args := [] }

/-- 'quinellalaw01.TurnHalls': WHATEVER THE INPUT: true; the input reads as it did. -/
def turnHallsSpec : ChangeSpec := { name := "turnHalls", fn := fun _ => fun
  | [d1, d2, d3, d4] => { results := [.lit (.bool true)], args := [d1, d2, d3, d4] }
  | _ => none }
def turnHallsRow : OpenClaim := { program := "ytndgaklcnhoddaa", sum := "2b449160582ef1439010e560f48473607f3edab574e98fd5c377a0e472ae2cd3", func := "quinella/quinellalaw01.TurnHalls", spec := "turnHalls", unfollowed := true, recurses := true, plainKeys := false, apart := false }
def TurnHallsSaid : Prop := turnHallsRow.holds Try.pinned (OpenSpec.ofChange turnHallsSpec)

/-- ITS FALSE NEIGHBOUR: 'it returns false'. Refute it at one input. -/
def turnHallsWrong : ChangeSpec := { name := "turnHalls", fn := fun _ => fun
  | [d1, d2, d3, d4] => { results := [.lit (.bool false)], args := [d1, d2, d3, d4] }
  | _ => none }
def TurnHallsWrongFalsely : Prop := turnHallsRow.holds Try.pinned (OpenSpec.ofChange turnHallsWrong)

/-- 'quinellalaw01.TurnRows': WHATEVER THE INPUT: true; the input reads as it did. -/
def turnRowsSpec : ChangeSpec := { name := "turnRows", fn := fun _ => fun
  | [d1, d2, d3] => { results := [.lit (.bool true)], args := [d1, d2, d3] }
  | _ => none }
def turnRowsRow : OpenClaim := { program := "ytndgaklcnhoddaa", sum := "2b449160582ef1439010e560f48473607f3edab574e98fd5c377a0e472ae2cd3", func := "quinella/quinellalaw01.TurnRows", spec := "turnRows", unfollowed := true, recurses := true, plainKeys := false, apart := false }
def TurnRowsSaid : Prop := turnRowsRow.holds Try.pinned (OpenSpec.ofChange turnRowsSpec)

/-- ITS FALSE NEIGHBOUR: 'it returns false'. Refute it at one input. -/
def turnRowsWrong : ChangeSpec := { name := "turnRows", fn := fun _ => fun
  | [d1, d2, d3] => { results := [.lit (.bool false)], args := [d1, d2, d3] }
  | _ => none }
def TurnRowsWrongFalsely : Prop := turnRowsRow.holds Try.pinned (OpenSpec.ofChange turnRowsWrong)

/-- 'quinellalaw01.TurnCircles': WHATEVER THE INPUT: true; the input reads as it did. -/
def turnCirclesSpec : ChangeSpec := { name := "turnCircles", fn := fun _ => fun
  | [d] => { results := [.lit (.bool true)], args := [d] }
  | _ => none }
def turnCirclesRow : OpenClaim := { program := "ytndgaklcnhoddaa", sum := "2b449160582ef1439010e560f48473607f3edab574e98fd5c377a0e472ae2cd3", func := "quinella/quinellalaw01.TurnCircles", spec := "turnCircles", unfollowed := true, recurses := true, plainKeys := false, apart := false }
def TurnCirclesSaid : Prop := turnCirclesRow.holds Try.pinned (OpenSpec.ofChange turnCirclesSpec)

/-- ITS FALSE NEIGHBOUR: 'it returns false'. Refute it at one input. -/
def turnCirclesWrong : ChangeSpec := { name := "turnCircles", fn := fun _ => fun
  | [d] => { results := [.lit (.bool false)], args := [d] }
  | _ => none }
def TurnCirclesWrongFalsely : Prop := turnCirclesRow.holds Try.pinned (OpenSpec.ofChange turnCirclesWrong)

/-- 'quinellalaw01.TurnDooms': WHATEVER THE INPUT: true; the input reads as it did. -/
def turnDoomsSpec : ChangeSpec := { name := "turnDooms", fn := fun _ => fun
  | [d1, d2, d3] => { results := [.lit (.bool true)], args := [d1, d2, d3] }
  | _ => none }
def turnDoomsRow : OpenClaim := { program := "ytndgaklcnhoddaa", sum := "2b449160582ef1439010e560f48473607f3edab574e98fd5c377a0e472ae2cd3", func := "quinella/quinellalaw01.TurnDooms", spec := "turnDooms", unfollowed := true, recurses := true, plainKeys := false, apart := false }
def TurnDoomsSaid : Prop := turnDoomsRow.holds Try.pinned (OpenSpec.ofChange turnDoomsSpec)

/-- ITS FALSE NEIGHBOUR: 'it returns false'. Refute it at one input. -/
def turnDoomsWrong : ChangeSpec := { name := "turnDooms", fn := fun _ => fun
  | [d1, d2, d3] => { results := [.lit (.bool false)], args := [d1, d2, d3] }
  | _ => none }
def TurnDoomsWrongFalsely : Prop := turnDoomsRow.holds Try.pinned (OpenSpec.ofChange turnDoomsWrong)

/-- 'quinellalaw01.TurnNexts': WHATEVER THE INPUT: true; the input reads as it did. -/
def turnNextsSpec : ChangeSpec := { name := "turnNexts", fn := fun _ => fun
  | [d1, d2] => { results := [.lit (.bool true)], args := [d1, d2] }
  | _ => none }
def turnNextsRow : OpenClaim := { program := "ytndgaklcnhoddaa", sum := "2b449160582ef1439010e560f48473607f3edab574e98fd5c377a0e472ae2cd3", func := "quinella/quinellalaw01.TurnNexts", spec := "turnNexts", unfollowed := true, recurses := true, plainKeys := false, apart := false }
def TurnNextsSaid : Prop := turnNextsRow.holds Try.pinned (OpenSpec.ofChange turnNextsSpec)

/-- ITS FALSE NEIGHBOUR: 'it returns false'. Refute it at one input. -/
def turnNextsWrong : ChangeSpec := { name := "turnNexts", fn := fun _ => fun
  | [d1, d2] => { results := [.lit (.bool false)], args := [d1, d2] }
  | _ => none }
def TurnNextsWrongFalsely : Prop := turnNextsRow.holds Try.pinned (OpenSpec.ofChange turnNextsWrong)

/-- 'quinellalaw01.TurnLasts': WHATEVER THE INPUT: true; the input reads as it did. -/
def turnLastsSpec : ChangeSpec := { name := "turnLasts", fn := fun _ => fun
  | [d1, d2] => { results := [.lit (.bool true)], args := [d1, d2] }
  | _ => none }
def turnLastsRow : OpenClaim := { program := "ytndgaklcnhoddaa", sum := "2b449160582ef1439010e560f48473607f3edab574e98fd5c377a0e472ae2cd3", func := "quinella/quinellalaw01.TurnLasts", spec := "turnLasts", unfollowed := true, recurses := true, plainKeys := false, apart := false }
def TurnLastsSaid : Prop := turnLastsRow.holds Try.pinned (OpenSpec.ofChange turnLastsSpec)

/-- ITS FALSE NEIGHBOUR: 'it returns false'. Refute it at one input. -/
def turnLastsWrong : ChangeSpec := { name := "turnLasts", fn := fun _ => fun
  | [d1, d2] => { results := [.lit (.bool false)], args := [d1, d2] }
  | _ => none }
def TurnLastsWrongFalsely : Prop := turnLastsRow.holds Try.pinned (OpenSpec.ofChange turnLastsWrong)

/-- 'quinellalaw01.TurnEither': WHATEVER THE INPUT: true; the input reads as it did. -/
def turnEitherSpec : ChangeSpec := { name := "turnEither", fn := fun _ => fun
  | [d1, d2, d3] => { results := [.lit (.bool true)], args := [d1, d2, d3] }
  | _ => none }
def turnEitherRow : OpenClaim := { program := "ytndgaklcnhoddaa", sum := "2b449160582ef1439010e560f48473607f3edab574e98fd5c377a0e472ae2cd3", func := "quinella/quinellalaw01.TurnEither", spec := "turnEither", unfollowed := true, recurses := true, plainKeys := false, apart := false }
def TurnEitherSaid : Prop := turnEitherRow.holds Try.pinned (OpenSpec.ofChange turnEitherSpec)

/-- ITS FALSE NEIGHBOUR: 'it returns false'. Refute it at one input. -/
def turnEitherWrong : ChangeSpec := { name := "turnEither", fn := fun _ => fun
  | [d1, d2, d3] => { results := [.lit (.bool false)], args := [d1, d2, d3] }
  | _ => none }
def TurnEitherWrongFalsely : Prop := turnEitherRow.holds Try.pinned (OpenSpec.ofChange turnEitherWrong)

/-- 'quinellalaw01.TurnCounted': WHATEVER THE INPUT: true; the input reads as it did. -/
def turnCountedSpec : ChangeSpec := { name := "turnCounted", fn := fun _ => fun
  | [d1, d2, d3] => { results := [.lit (.bool true)], args := [d1, d2, d3] }
  | _ => none }
def turnCountedRow : OpenClaim := { program := "ytndgaklcnhoddaa", sum := "2b449160582ef1439010e560f48473607f3edab574e98fd5c377a0e472ae2cd3", func := "quinella/quinellalaw01.TurnCounted", spec := "turnCounted", unfollowed := true, recurses := true, plainKeys := false, apart := false }
def TurnCountedSaid : Prop := turnCountedRow.holds Try.pinned (OpenSpec.ofChange turnCountedSpec)

/-- ITS FALSE NEIGHBOUR: 'it returns false'. Refute it at one input. -/
def turnCountedWrong : ChangeSpec := { name := "turnCounted", fn := fun _ => fun
  | [d1, d2, d3] => { results := [.lit (.bool false)], args := [d1, d2, d3] }
  | _ => none }
def TurnCountedWrongFalsely : Prop := turnCountedRow.holds Try.pinned (OpenSpec.ofChange turnCountedWrong)

/-- 'quinellalaw01.TurnKept': WHATEVER THE INPUT: true; the input reads as it did. -/
def turnKeptSpec : ChangeSpec := { name := "turnKept", fn := fun _ => fun
  | [d1, d2, d3, d4, d5] => { results := [.lit (.bool true)], args := [d1, d2, d3, d4, d5] }
  | _ => none }
def turnKeptRow : OpenClaim := { program := "ytndgaklcnhoddaa", sum := "2b449160582ef1439010e560f48473607f3edab574e98fd5c377a0e472ae2cd3", func := "quinella/quinellalaw01.TurnKept", spec := "turnKept", unfollowed := true, recurses := true, plainKeys := false, apart := false }
def TurnKeptSaid : Prop := turnKeptRow.holds Try.pinned (OpenSpec.ofChange turnKeptSpec)

/-- ITS FALSE NEIGHBOUR: 'it returns false'. Refute it at one input. -/
def turnKeptWrong : ChangeSpec := { name := "turnKept", fn := fun _ => fun
  | [d1, d2, d3, d4, d5] => { results := [.lit (.bool false)], args := [d1, d2, d3, d4, d5] }
  | _ => none }
def TurnKeptWrongFalsely : Prop := turnKeptRow.holds Try.pinned (OpenSpec.ofChange turnKeptWrong)

/-- 'quinellalaw01.TurnCircled': WHATEVER THE INPUT: true; the input reads as it did. -/
def turnCircledSpec : ChangeSpec := { name := "turnCircled", fn := fun _ => fun
  | [d1, d2, d3] => { results := [.lit (.bool true)], args := [d1, d2, d3] }
  | _ => none }
def turnCircledRow : OpenClaim := { program := "ytndgaklcnhoddaa", sum := "2b449160582ef1439010e560f48473607f3edab574e98fd5c377a0e472ae2cd3", func := "quinella/quinellalaw01.TurnCircled", spec := "turnCircled", unfollowed := true, recurses := true, plainKeys := false, apart := false }
def TurnCircledSaid : Prop := turnCircledRow.holds Try.pinned (OpenSpec.ofChange turnCircledSpec)

/-- ITS FALSE NEIGHBOUR: 'it returns false'. Refute it at one input. -/
def turnCircledWrong : ChangeSpec := { name := "turnCircled", fn := fun _ => fun
  | [d1, d2, d3] => { results := [.lit (.bool false)], args := [d1, d2, d3] }
  | _ => none }
def TurnCircledWrongFalsely : Prop := turnCircledRow.holds Try.pinned (OpenSpec.ofChange turnCircledWrong)

/-- 'quinellalaw01.TurnDense': WHATEVER THE INPUT: true; the input reads as it did. -/
def turnDenseSpec : ChangeSpec := { name := "turnDense", fn := fun _ => fun
  | [d1, d2] => { results := [.lit (.bool true)], args := [d1, d2] }
  | _ => none }
def turnDenseRow : OpenClaim := { program := "ytndgaklcnhoddaa", sum := "2b449160582ef1439010e560f48473607f3edab574e98fd5c377a0e472ae2cd3", func := "quinella/quinellalaw01.TurnDense", spec := "turnDense", unfollowed := true, recurses := true, plainKeys := false, apart := false }
def TurnDenseSaid : Prop := turnDenseRow.holds Try.pinned (OpenSpec.ofChange turnDenseSpec)

/-- ITS FALSE NEIGHBOUR: 'it returns false'. Refute it at one input. -/
def turnDenseWrong : ChangeSpec := { name := "turnDense", fn := fun _ => fun
  | [d1, d2] => { results := [.lit (.bool false)], args := [d1, d2] }
  | _ => none }
def TurnDenseWrongFalsely : Prop := turnDenseRow.holds Try.pinned (OpenSpec.ofChange turnDenseWrong)

/-- 'quinellalaw01.TurnNamed': WHATEVER THE INPUT: true; the input reads as it did. -/
def turnNamedSpec : ChangeSpec := { name := "turnNamed", fn := fun _ => fun
  | [d1, d2, d3] => { results := [.lit (.bool true)], args := [d1, d2, d3] }
  | _ => none }
def turnNamedRow : OpenClaim := { program := "ytndgaklcnhoddaa", sum := "2b449160582ef1439010e560f48473607f3edab574e98fd5c377a0e472ae2cd3", func := "quinella/quinellalaw01.TurnNamed", spec := "turnNamed", unfollowed := true, recurses := true, plainKeys := false, apart := false }
def TurnNamedSaid : Prop := turnNamedRow.holds Try.pinned (OpenSpec.ofChange turnNamedSpec)

/-- ITS FALSE NEIGHBOUR: 'it returns false'. Refute it at one input. -/
def turnNamedWrong : ChangeSpec := { name := "turnNamed", fn := fun _ => fun
  | [d1, d2, d3] => { results := [.lit (.bool false)], args := [d1, d2, d3] }
  | _ => none }
def TurnNamedWrongFalsely : Prop := turnNamedRow.holds Try.pinned (OpenSpec.ofChange turnNamedWrong)

/-- 'quinellalaw01.TurnWaited': WHATEVER THE INPUT: true; the input reads as it did. -/
def turnWaitedSpec : ChangeSpec := { name := "turnWaited", fn := fun _ => fun
  | [d1, d2, d3] => { results := [.lit (.bool true)], args := [d1, d2, d3] }
  | _ => none }
def turnWaitedRow : OpenClaim := { program := "ytndgaklcnhoddaa", sum := "2b449160582ef1439010e560f48473607f3edab574e98fd5c377a0e472ae2cd3", func := "quinella/quinellalaw01.TurnWaited", spec := "turnWaited", unfollowed := true, recurses := true, plainKeys := false, apart := false }
def TurnWaitedSaid : Prop := turnWaitedRow.holds Try.pinned (OpenSpec.ofChange turnWaitedSpec)

/-- ITS FALSE NEIGHBOUR: 'it returns false'. Refute it at one input. -/
def turnWaitedWrong : ChangeSpec := { name := "turnWaited", fn := fun _ => fun
  | [d1, d2, d3] => { results := [.lit (.bool false)], args := [d1, d2, d3] }
  | _ => none }
def TurnWaitedWrongFalsely : Prop := turnWaitedRow.holds Try.pinned (OpenSpec.ofChange turnWaitedWrong)

/-- 'quinellalaw01.TurnLasted': WHATEVER THE INPUT: true; the input reads as it did. -/
def turnLastedSpec : ChangeSpec := { name := "turnLasted", fn := fun _ => fun
  | [d1, d2, d3, d4] => { results := [.lit (.bool true)], args := [d1, d2, d3, d4] }
  | _ => none }
def turnLastedRow : OpenClaim := { program := "ytndgaklcnhoddaa", sum := "2b449160582ef1439010e560f48473607f3edab574e98fd5c377a0e472ae2cd3", func := "quinella/quinellalaw01.TurnLasted", spec := "turnLasted", unfollowed := true, recurses := true, plainKeys := false, apart := false }
def TurnLastedSaid : Prop := turnLastedRow.holds Try.pinned (OpenSpec.ofChange turnLastedSpec)

/-- ITS FALSE NEIGHBOUR: 'it returns false'. Refute it at one input. -/
def turnLastedWrong : ChangeSpec := { name := "turnLasted", fn := fun _ => fun
  | [d1, d2, d3, d4] => { results := [.lit (.bool false)], args := [d1, d2, d3, d4] }
  | _ => none }
def TurnLastedWrongFalsely : Prop := turnLastedRow.holds Try.pinned (OpenSpec.ofChange turnLastedWrong)

/-- 'quinellalaw01.TurnKnown': WHATEVER THE INPUT: true; the input reads as it did. -/
def turnKnownSpec : ChangeSpec := { name := "turnKnown", fn := fun _ => fun
  | [] => { results := [.lit (.bool true)], args := [] }
  | _ => none }
def turnKnownRow : OpenClaim := { program := "ytndgaklcnhoddaa", sum := "2b449160582ef1439010e560f48473607f3edab574e98fd5c377a0e472ae2cd3", func := "quinella/quinellalaw01.TurnKnown", spec := "turnKnown", unfollowed := true, recurses := true, plainKeys := false, apart := false }
def TurnKnownSaid : Prop := turnKnownRow.holds Try.pinned (OpenSpec.ofChange turnKnownSpec)

/-- ITS FALSE NEIGHBOUR: 'it returns false'. Refute it at one input. -/
def turnKnownWrong : ChangeSpec := { name := "turnKnown", fn := fun _ => fun
  | [] => { results := [.lit (.bool false)], args := [] }
  | _ => none }
def TurnKnownWrongFalsely : Prop := turnKnownRow.holds Try.pinned (OpenSpec.ofChange turnKnownWrong)

/- THE SECOND FORM. 'bulk': how many values and letters a reading holds, each counted each time it is reached (what is shared counts as often as it is met; a slice's spare places count too). A statement '..UptoSaid' is the law's where the arguments, and the package variables that the reading takes, are together of bulk at most 1048576: NARROWER than '..Said'. Prove '..Said' where nothing that the law and all that it calls make is longer than what came in: it says more and counts as full. Else prove '..UptoSaid'. A law counts once. -/
mutual
def uptoBulk {H : Type} : DataW H → Nat
  | .lit (.string bytes) => bytes.length + 1
  | .lit _ => 1
  | .nil => 1
  | .ptr d => uptoBulk d + 1
  | .slice elems spare => uptoBulkAll elems + uptoBulkAll spare + 1
  | .agg parts => uptoBulkAll parts + 1
  | .iface _ d => uptoBulk d + 1
  | .map entries => uptoBulkEntries entries + 1
  | .held _ => 1
def uptoBulkAll {H : Type} : List (DataW H) → Nat
  | [] => 0
  | d :: r => uptoBulk d + uptoBulkAll r
def uptoBulkEntries {H : Type} : List (Lit × DataW H) → Nat
  | [] => 0
  | x :: r => uptoBulkEntry x + uptoBulkEntries r
def uptoBulkEntry {H : Type} : Lit × DataW H → Nat
  | (.string bytes, d) => bytes.length + uptoBulk d + 1
  | (_, d) => uptoBulk d + 1
 end
def uptoSmall : (H : Type) → List (DataW H) → Bool := fun _ ds => decide (uptoBulkAll ds ≤ 1048576)
def OpenSpec.upto (s : _root_.Go.ChangeSpec) : _root_.Go.OpenSpec := { _root_.Go.OpenSpec.ofChange s with cond := some uptoSmall }

/-- 'quinellalaw01.TurnHalls', WHERE WHAT IT READS IS OF BULK AT MOST 1048576: true; the input reads as it did. -/
def turnHallsUptoRow : OpenClaim := { program := "ytndgaklcnhoddaa", sum := "2b449160582ef1439010e560f48473607f3edab574e98fd5c377a0e472ae2cd3", func := "quinella/quinellalaw01.TurnHalls", spec := "turnHalls", unfollowed := true, recurses := true, plainKeys := false, apart := false, narrowed := true }
def TurnHallsUptoSaid : Prop := turnHallsUptoRow.holds Try.pinned (OpenSpec.upto turnHallsSpec)

/-- 'quinellalaw01.TurnRows', WHERE WHAT IT READS IS OF BULK AT MOST 1048576: true; the input reads as it did. -/
def turnRowsUptoRow : OpenClaim := { program := "ytndgaklcnhoddaa", sum := "2b449160582ef1439010e560f48473607f3edab574e98fd5c377a0e472ae2cd3", func := "quinella/quinellalaw01.TurnRows", spec := "turnRows", unfollowed := true, recurses := true, plainKeys := false, apart := false, narrowed := true }
def TurnRowsUptoSaid : Prop := turnRowsUptoRow.holds Try.pinned (OpenSpec.upto turnRowsSpec)

/-- 'quinellalaw01.TurnCircles', WHERE WHAT IT READS IS OF BULK AT MOST 1048576: true; the input reads as it did. -/
def turnCirclesUptoRow : OpenClaim := { program := "ytndgaklcnhoddaa", sum := "2b449160582ef1439010e560f48473607f3edab574e98fd5c377a0e472ae2cd3", func := "quinella/quinellalaw01.TurnCircles", spec := "turnCircles", unfollowed := true, recurses := true, plainKeys := false, apart := false, narrowed := true }
def TurnCirclesUptoSaid : Prop := turnCirclesUptoRow.holds Try.pinned (OpenSpec.upto turnCirclesSpec)

/-- 'quinellalaw01.TurnDooms', WHERE WHAT IT READS IS OF BULK AT MOST 1048576: true; the input reads as it did. -/
def turnDoomsUptoRow : OpenClaim := { program := "ytndgaklcnhoddaa", sum := "2b449160582ef1439010e560f48473607f3edab574e98fd5c377a0e472ae2cd3", func := "quinella/quinellalaw01.TurnDooms", spec := "turnDooms", unfollowed := true, recurses := true, plainKeys := false, apart := false, narrowed := true }
def TurnDoomsUptoSaid : Prop := turnDoomsUptoRow.holds Try.pinned (OpenSpec.upto turnDoomsSpec)

/-- 'quinellalaw01.TurnNexts', WHERE WHAT IT READS IS OF BULK AT MOST 1048576: true; the input reads as it did. -/
def turnNextsUptoRow : OpenClaim := { program := "ytndgaklcnhoddaa", sum := "2b449160582ef1439010e560f48473607f3edab574e98fd5c377a0e472ae2cd3", func := "quinella/quinellalaw01.TurnNexts", spec := "turnNexts", unfollowed := true, recurses := true, plainKeys := false, apart := false, narrowed := true }
def TurnNextsUptoSaid : Prop := turnNextsUptoRow.holds Try.pinned (OpenSpec.upto turnNextsSpec)

/-- 'quinellalaw01.TurnLasts', WHERE WHAT IT READS IS OF BULK AT MOST 1048576: true; the input reads as it did. -/
def turnLastsUptoRow : OpenClaim := { program := "ytndgaklcnhoddaa", sum := "2b449160582ef1439010e560f48473607f3edab574e98fd5c377a0e472ae2cd3", func := "quinella/quinellalaw01.TurnLasts", spec := "turnLasts", unfollowed := true, recurses := true, plainKeys := false, apart := false, narrowed := true }
def TurnLastsUptoSaid : Prop := turnLastsUptoRow.holds Try.pinned (OpenSpec.upto turnLastsSpec)

/-- 'quinellalaw01.TurnEither', WHERE WHAT IT READS IS OF BULK AT MOST 1048576: true; the input reads as it did. -/
def turnEitherUptoRow : OpenClaim := { program := "ytndgaklcnhoddaa", sum := "2b449160582ef1439010e560f48473607f3edab574e98fd5c377a0e472ae2cd3", func := "quinella/quinellalaw01.TurnEither", spec := "turnEither", unfollowed := true, recurses := true, plainKeys := false, apart := false, narrowed := true }
def TurnEitherUptoSaid : Prop := turnEitherUptoRow.holds Try.pinned (OpenSpec.upto turnEitherSpec)

/-- 'quinellalaw01.TurnCounted', WHERE WHAT IT READS IS OF BULK AT MOST 1048576: true; the input reads as it did. -/
def turnCountedUptoRow : OpenClaim := { program := "ytndgaklcnhoddaa", sum := "2b449160582ef1439010e560f48473607f3edab574e98fd5c377a0e472ae2cd3", func := "quinella/quinellalaw01.TurnCounted", spec := "turnCounted", unfollowed := true, recurses := true, plainKeys := false, apart := false, narrowed := true }
def TurnCountedUptoSaid : Prop := turnCountedUptoRow.holds Try.pinned (OpenSpec.upto turnCountedSpec)

/-- 'quinellalaw01.TurnKept', WHERE WHAT IT READS IS OF BULK AT MOST 1048576: true; the input reads as it did. -/
def turnKeptUptoRow : OpenClaim := { program := "ytndgaklcnhoddaa", sum := "2b449160582ef1439010e560f48473607f3edab574e98fd5c377a0e472ae2cd3", func := "quinella/quinellalaw01.TurnKept", spec := "turnKept", unfollowed := true, recurses := true, plainKeys := false, apart := false, narrowed := true }
def TurnKeptUptoSaid : Prop := turnKeptUptoRow.holds Try.pinned (OpenSpec.upto turnKeptSpec)

/-- 'quinellalaw01.TurnCircled', WHERE WHAT IT READS IS OF BULK AT MOST 1048576: true; the input reads as it did. -/
def turnCircledUptoRow : OpenClaim := { program := "ytndgaklcnhoddaa", sum := "2b449160582ef1439010e560f48473607f3edab574e98fd5c377a0e472ae2cd3", func := "quinella/quinellalaw01.TurnCircled", spec := "turnCircled", unfollowed := true, recurses := true, plainKeys := false, apart := false, narrowed := true }
def TurnCircledUptoSaid : Prop := turnCircledUptoRow.holds Try.pinned (OpenSpec.upto turnCircledSpec)

/-- 'quinellalaw01.TurnDense', WHERE WHAT IT READS IS OF BULK AT MOST 1048576: true; the input reads as it did. -/
def turnDenseUptoRow : OpenClaim := { program := "ytndgaklcnhoddaa", sum := "2b449160582ef1439010e560f48473607f3edab574e98fd5c377a0e472ae2cd3", func := "quinella/quinellalaw01.TurnDense", spec := "turnDense", unfollowed := true, recurses := true, plainKeys := false, apart := false, narrowed := true }
def TurnDenseUptoSaid : Prop := turnDenseUptoRow.holds Try.pinned (OpenSpec.upto turnDenseSpec)

/-- 'quinellalaw01.TurnNamed', WHERE WHAT IT READS IS OF BULK AT MOST 1048576: true; the input reads as it did. -/
def turnNamedUptoRow : OpenClaim := { program := "ytndgaklcnhoddaa", sum := "2b449160582ef1439010e560f48473607f3edab574e98fd5c377a0e472ae2cd3", func := "quinella/quinellalaw01.TurnNamed", spec := "turnNamed", unfollowed := true, recurses := true, plainKeys := false, apart := false, narrowed := true }
def TurnNamedUptoSaid : Prop := turnNamedUptoRow.holds Try.pinned (OpenSpec.upto turnNamedSpec)

/-- 'quinellalaw01.TurnWaited', WHERE WHAT IT READS IS OF BULK AT MOST 1048576: true; the input reads as it did. -/
def turnWaitedUptoRow : OpenClaim := { program := "ytndgaklcnhoddaa", sum := "2b449160582ef1439010e560f48473607f3edab574e98fd5c377a0e472ae2cd3", func := "quinella/quinellalaw01.TurnWaited", spec := "turnWaited", unfollowed := true, recurses := true, plainKeys := false, apart := false, narrowed := true }
def TurnWaitedUptoSaid : Prop := turnWaitedUptoRow.holds Try.pinned (OpenSpec.upto turnWaitedSpec)

/-- 'quinellalaw01.TurnLasted', WHERE WHAT IT READS IS OF BULK AT MOST 1048576: true; the input reads as it did. -/
def turnLastedUptoRow : OpenClaim := { program := "ytndgaklcnhoddaa", sum := "2b449160582ef1439010e560f48473607f3edab574e98fd5c377a0e472ae2cd3", func := "quinella/quinellalaw01.TurnLasted", spec := "turnLasted", unfollowed := true, recurses := true, plainKeys := false, apart := false, narrowed := true }
def TurnLastedUptoSaid : Prop := turnLastedUptoRow.holds Try.pinned (OpenSpec.upto turnLastedSpec)

/-- 'quinellalaw01.TurnKnown', WHERE WHAT IT READS IS OF BULK AT MOST 1048576: true; the input reads as it did. -/
def turnKnownUptoRow : OpenClaim := { program := "ytndgaklcnhoddaa", sum := "2b449160582ef1439010e560f48473607f3edab574e98fd5c377a0e472ae2cd3", func := "quinella/quinellalaw01.TurnKnown", spec := "turnKnown", unfollowed := true, recurses := true, plainKeys := false, apart := false, narrowed := true }
def TurnKnownUptoSaid : Prop := turnKnownUptoRow.holds Try.pinned (OpenSpec.upto turnKnownSpec)

end Rows
end Go.Proofs.Ytndgaklcnhoddaa
