/-
  No cell of these rows narrows 'for every input' (looked for: loops, veiled, ifaces, maps, wideKeys, modest, calm, conditions, laid).
  DERIVED. THE GIVEN ROWS OF THIS SEAT. 14 by the template 'for every input the law returns true; each argument reads behind the call as it read before'; 0 by the template 'total and deterministic' (their statements: YtphajlldghcnnaaTotals.lean).
  GIVEN WITH THE SEED: the statements are not yours to turn. If you find one false, say at which input.
  Laid BY PROGRAM, IN A SANDBOX (cutbox-rows.mjs): the forced cells as the released guide's own fill.sh prints them over the translation 08b5169b8fe12e71… (all of the seat's roots in one cut). By AI agents, Wed Nov 11 2026. No macro, syntax, notation, axiom, sorry.
-/
import Derived.Test.YtphajlldghcnnaaChecked
import GoSem.Claim
import GoSem.ClaimJoined
import GoSem.ClaimMapViews
import Derived.JoinedTies
import Derived.KernelRfl
namespace Go.Proofs.Ytphajlldghcnnaa
/- THE CELL 'sum', in the pinned program and in every row, IS THE sha256 OF THE DUMP (.gsa) THAT YtphajlldghcnnaaProg.lean LOADS. Nothing in Lean hashes anything: it is a label: what it is worth is what the hold of that sum in a sandbox is worth. -/
noncomputable def Try.pinned : Pinned := { name := "ytphajlldghcnnaa", sum := "08b5169b8fe12e71aa3e93835f45c4dea19fca1a5d53074bdc9bd060671c98fe", checked := Try.checked }
namespace Rows
def none {H : Type} : Left H := { results := [], args := [] }

/-- 'quinellalaw03.PoolBooks': WHATEVER THE INPUT: true; the input reads as it did. -/
def poolBooksSpec : ChangeSpec := { name := "poolBooks", fn := fun _ => fun
  | [d1, d2] => { results := [.lit (.bool true)], args := [d1, d2] }
  | _ => none }
def poolBooksRow : OpenClaim := { program := "ytphajlldghcnnaa", sum := "08b5169b8fe12e71aa3e93835f45c4dea19fca1a5d53074bdc9bd060671c98fe", func := "quinella/quinellalaw03.PoolBooks", spec := "poolBooks", unfollowed := true, recurses := true, plainKeys := false, apart := false }
def PoolBooksSaid : Prop := poolBooksRow.holds Try.pinned (OpenSpec.ofChange poolBooksSpec)

/-- ITS FALSE NEIGHBOUR: 'it returns false'. Refute it at one input. -/
def poolBooksWrong : ChangeSpec := { name := "poolBooks", fn := fun _ => fun
  | [d1, d2] => { results := [.lit (.bool false)], args := [d1, d2] }
  | _ => none }
def PoolBooksWrongFalsely : Prop := poolBooksRow.holds Try.pinned (OpenSpec.ofChange poolBooksWrong)

/-- 'quinellalaw03.PoolFinishes': WHATEVER THE INPUT: true; the input reads as it did. -/
def poolFinishesSpec : ChangeSpec := { name := "poolFinishes", fn := fun _ => fun
  | [d1, d2] => { results := [.lit (.bool true)], args := [d1, d2] }
  | _ => none }
def poolFinishesRow : OpenClaim := { program := "ytphajlldghcnnaa", sum := "08b5169b8fe12e71aa3e93835f45c4dea19fca1a5d53074bdc9bd060671c98fe", func := "quinella/quinellalaw03.PoolFinishes", spec := "poolFinishes", unfollowed := true, recurses := true, plainKeys := false, apart := false }
def PoolFinishesSaid : Prop := poolFinishesRow.holds Try.pinned (OpenSpec.ofChange poolFinishesSpec)

/-- ITS FALSE NEIGHBOUR: 'it returns false'. Refute it at one input. -/
def poolFinishesWrong : ChangeSpec := { name := "poolFinishes", fn := fun _ => fun
  | [d1, d2] => { results := [.lit (.bool false)], args := [d1, d2] }
  | _ => none }
def PoolFinishesWrongFalsely : Prop := poolFinishesRow.holds Try.pinned (OpenSpec.ofChange poolFinishesWrong)

/-- 'quinellalaw03.PoolPays': WHATEVER THE INPUT: true; the input reads as it did. -/
def poolPaysSpec : ChangeSpec := { name := "poolPays", fn := fun _ => fun
  | [d1, d2, d3] => { results := [.lit (.bool true)], args := [d1, d2, d3] }
  | _ => none }
def poolPaysRow : OpenClaim := { program := "ytphajlldghcnnaa", sum := "08b5169b8fe12e71aa3e93835f45c4dea19fca1a5d53074bdc9bd060671c98fe", func := "quinella/quinellalaw03.PoolPays", spec := "poolPays", unfollowed := true, recurses := true, plainKeys := false, apart := false }
def PoolPaysSaid : Prop := poolPaysRow.holds Try.pinned (OpenSpec.ofChange poolPaysSpec)

/-- ITS FALSE NEIGHBOUR: 'it returns false'. Refute it at one input. -/
def poolPaysWrong : ChangeSpec := { name := "poolPays", fn := fun _ => fun
  | [d1, d2, d3] => { results := [.lit (.bool false)], args := [d1, d2, d3] }
  | _ => none }
def PoolPaysWrongFalsely : Prop := poolPaysRow.holds Try.pinned (OpenSpec.ofChange poolPaysWrong)

/-- 'quinellalaw03.PoolSpreads': WHATEVER THE INPUT: true; the input reads as it did. -/
def poolSpreadsSpec : ChangeSpec := { name := "poolSpreads", fn := fun _ => fun
  | [d] => { results := [.lit (.bool true)], args := [d] }
  | _ => none }
def poolSpreadsRow : OpenClaim := { program := "ytphajlldghcnnaa", sum := "08b5169b8fe12e71aa3e93835f45c4dea19fca1a5d53074bdc9bd060671c98fe", func := "quinella/quinellalaw03.PoolSpreads", spec := "poolSpreads", unfollowed := true, recurses := true, plainKeys := false, apart := false }
def PoolSpreadsSaid : Prop := poolSpreadsRow.holds Try.pinned (OpenSpec.ofChange poolSpreadsSpec)

/-- ITS FALSE NEIGHBOUR: 'it returns false'. Refute it at one input. -/
def poolSpreadsWrong : ChangeSpec := { name := "poolSpreads", fn := fun _ => fun
  | [d] => { results := [.lit (.bool false)], args := [d] }
  | _ => none }
def PoolSpreadsWrongFalsely : Prop := poolSpreadsRow.holds Try.pinned (OpenSpec.ofChange poolSpreadsWrong)

/-- 'quinellalaw03.PoolBalanced': WHATEVER THE INPUT: true; the input reads as it did. -/
def poolBalancedSpec : ChangeSpec := { name := "poolBalanced", fn := fun _ => fun
  | [d1, d2] => { results := [.lit (.bool true)], args := [d1, d2] }
  | _ => none }
def poolBalancedRow : OpenClaim := { program := "ytphajlldghcnnaa", sum := "08b5169b8fe12e71aa3e93835f45c4dea19fca1a5d53074bdc9bd060671c98fe", func := "quinella/quinellalaw03.PoolBalanced", spec := "poolBalanced", unfollowed := true, recurses := true, plainKeys := false, apart := false }
def PoolBalancedSaid : Prop := poolBalancedRow.holds Try.pinned (OpenSpec.ofChange poolBalancedSpec)

/-- ITS FALSE NEIGHBOUR: 'it returns false'. Refute it at one input. -/
def poolBalancedWrong : ChangeSpec := { name := "poolBalanced", fn := fun _ => fun
  | [d1, d2] => { results := [.lit (.bool false)], args := [d1, d2] }
  | _ => none }
def PoolBalancedWrongFalsely : Prop := poolBalancedRow.holds Try.pinned (OpenSpec.ofChange poolBalancedWrong)

/-- 'quinellalaw03.PoolScratched': WHATEVER THE INPUT: true; the input reads as it did. -/
def poolScratchedSpec : ChangeSpec := { name := "poolScratched", fn := fun _ => fun
  | [d1, d2, d3, d4] => { results := [.lit (.bool true)], args := [d1, d2, d3, d4] }
  | _ => none }
def poolScratchedRow : OpenClaim := { program := "ytphajlldghcnnaa", sum := "08b5169b8fe12e71aa3e93835f45c4dea19fca1a5d53074bdc9bd060671c98fe", func := "quinella/quinellalaw03.PoolScratched", spec := "poolScratched", unfollowed := true, recurses := true, plainKeys := false, apart := false }
def PoolScratchedSaid : Prop := poolScratchedRow.holds Try.pinned (OpenSpec.ofChange poolScratchedSpec)

/-- ITS FALSE NEIGHBOUR: 'it returns false'. Refute it at one input. -/
def poolScratchedWrong : ChangeSpec := { name := "poolScratched", fn := fun _ => fun
  | [d1, d2, d3, d4] => { results := [.lit (.bool false)], args := [d1, d2, d3, d4] }
  | _ => none }
def PoolScratchedWrongFalsely : Prop := poolScratchedRow.holds Try.pinned (OpenSpec.ofChange poolScratchedWrong)

/-- 'quinellalaw03.PoolShared': WHATEVER THE INPUT: true; the input reads as it did. -/
def poolSharedSpec : ChangeSpec := { name := "poolShared", fn := fun _ => fun
  | [d1, d2] => { results := [.lit (.bool true)], args := [d1, d2] }
  | _ => none }
def poolSharedRow : OpenClaim := { program := "ytphajlldghcnnaa", sum := "08b5169b8fe12e71aa3e93835f45c4dea19fca1a5d53074bdc9bd060671c98fe", func := "quinella/quinellalaw03.PoolShared", spec := "poolShared", unfollowed := true, recurses := true, plainKeys := false, apart := false }
def PoolSharedSaid : Prop := poolSharedRow.holds Try.pinned (OpenSpec.ofChange poolSharedSpec)

/-- ITS FALSE NEIGHBOUR: 'it returns false'. Refute it at one input. -/
def poolSharedWrong : ChangeSpec := { name := "poolShared", fn := fun _ => fun
  | [d1, d2] => { results := [.lit (.bool false)], args := [d1, d2] }
  | _ => none }
def PoolSharedWrongFalsely : Prop := poolSharedRow.holds Try.pinned (OpenSpec.ofChange poolSharedWrong)

/-- 'quinellalaw03.PoolJoined': WHATEVER THE INPUT: true; the input reads as it did. -/
def poolJoinedSpec : ChangeSpec := { name := "poolJoined", fn := fun _ => fun
  | [d1, d2, d3, d4, d5] => { results := [.lit (.bool true)], args := [d1, d2, d3, d4, d5] }
  | _ => none }
def poolJoinedRow : OpenClaim := { program := "ytphajlldghcnnaa", sum := "08b5169b8fe12e71aa3e93835f45c4dea19fca1a5d53074bdc9bd060671c98fe", func := "quinella/quinellalaw03.PoolJoined", spec := "poolJoined", unfollowed := true, recurses := true, plainKeys := false, apart := false }
def PoolJoinedSaid : Prop := poolJoinedRow.holds Try.pinned (OpenSpec.ofChange poolJoinedSpec)

/-- ITS FALSE NEIGHBOUR: 'it returns false'. Refute it at one input. -/
def poolJoinedWrong : ChangeSpec := { name := "poolJoined", fn := fun _ => fun
  | [d1, d2, d3, d4, d5] => { results := [.lit (.bool false)], args := [d1, d2, d3, d4, d5] }
  | _ => none }
def PoolJoinedWrongFalsely : Prop := poolJoinedRow.holds Try.pinned (OpenSpec.ofChange poolJoinedWrong)

/-- 'quinellalaw03.PoolMore': WHATEVER THE INPUT: true; the input reads as it did. -/
def poolMoreSpec : ChangeSpec := { name := "poolMore", fn := fun _ => fun
  | [d1, d2, d3, d4] => { results := [.lit (.bool true)], args := [d1, d2, d3, d4] }
  | _ => none }
def poolMoreRow : OpenClaim := { program := "ytphajlldghcnnaa", sum := "08b5169b8fe12e71aa3e93835f45c4dea19fca1a5d53074bdc9bd060671c98fe", func := "quinella/quinellalaw03.PoolMore", spec := "poolMore", unfollowed := true, recurses := true, plainKeys := false, apart := false }
def PoolMoreSaid : Prop := poolMoreRow.holds Try.pinned (OpenSpec.ofChange poolMoreSpec)

/-- ITS FALSE NEIGHBOUR: 'it returns false'. Refute it at one input. -/
def poolMoreWrong : ChangeSpec := { name := "poolMore", fn := fun _ => fun
  | [d1, d2, d3, d4] => { results := [.lit (.bool false)], args := [d1, d2, d3, d4] }
  | _ => none }
def PoolMoreWrongFalsely : Prop := poolMoreRow.holds Try.pinned (OpenSpec.ofChange poolMoreWrong)

/-- 'quinellalaw03.PoolTogether': WHATEVER THE INPUT: true; the input reads as it did. -/
def poolTogetherSpec : ChangeSpec := { name := "poolTogether", fn := fun _ => fun
  | [d1, d2, d3] => { results := [.lit (.bool true)], args := [d1, d2, d3] }
  | _ => none }
def poolTogetherRow : OpenClaim := { program := "ytphajlldghcnnaa", sum := "08b5169b8fe12e71aa3e93835f45c4dea19fca1a5d53074bdc9bd060671c98fe", func := "quinella/quinellalaw03.PoolTogether", spec := "poolTogether", unfollowed := true, recurses := true, plainKeys := false, apart := false }
def PoolTogetherSaid : Prop := poolTogetherRow.holds Try.pinned (OpenSpec.ofChange poolTogetherSpec)

/-- ITS FALSE NEIGHBOUR: 'it returns false'. Refute it at one input. -/
def poolTogetherWrong : ChangeSpec := { name := "poolTogether", fn := fun _ => fun
  | [d1, d2, d3] => { results := [.lit (.bool false)], args := [d1, d2, d3] }
  | _ => none }
def PoolTogetherWrongFalsely : Prop := poolTogetherRow.holds Try.pinned (OpenSpec.ofChange poolTogetherWrong)

/-- 'quinellalaw03.PoolNamed': WHATEVER THE INPUT: true; the input reads as it did. -/
def poolNamedSpec : ChangeSpec := { name := "poolNamed", fn := fun _ => fun
  | [d1, d2, d3] => { results := [.lit (.bool true)], args := [d1, d2, d3] }
  | _ => none }
def poolNamedRow : OpenClaim := { program := "ytphajlldghcnnaa", sum := "08b5169b8fe12e71aa3e93835f45c4dea19fca1a5d53074bdc9bd060671c98fe", func := "quinella/quinellalaw03.PoolNamed", spec := "poolNamed", unfollowed := true, recurses := true, plainKeys := false, apart := false }
def PoolNamedSaid : Prop := poolNamedRow.holds Try.pinned (OpenSpec.ofChange poolNamedSpec)

/-- ITS FALSE NEIGHBOUR: 'it returns false'. Refute it at one input. -/
def poolNamedWrong : ChangeSpec := { name := "poolNamed", fn := fun _ => fun
  | [d1, d2, d3] => { results := [.lit (.bool false)], args := [d1, d2, d3] }
  | _ => none }
def PoolNamedWrongFalsely : Prop := poolNamedRow.holds Try.pinned (OpenSpec.ofChange poolNamedWrong)

/-- 'quinellalaw03.PoolNobody': WHATEVER THE INPUT: true; the input reads as it did. -/
def poolNobodySpec : ChangeSpec := { name := "poolNobody", fn := fun _ => fun
  | [d1, d2, d3] => { results := [.lit (.bool true)], args := [d1, d2, d3] }
  | _ => none }
def poolNobodyRow : OpenClaim := { program := "ytphajlldghcnnaa", sum := "08b5169b8fe12e71aa3e93835f45c4dea19fca1a5d53074bdc9bd060671c98fe", func := "quinella/quinellalaw03.PoolNobody", spec := "poolNobody", unfollowed := true, recurses := true, plainKeys := false, apart := false }
def PoolNobodySaid : Prop := poolNobodyRow.holds Try.pinned (OpenSpec.ofChange poolNobodySpec)

/-- ITS FALSE NEIGHBOUR: 'it returns false'. Refute it at one input. -/
def poolNobodyWrong : ChangeSpec := { name := "poolNobody", fn := fun _ => fun
  | [d1, d2, d3] => { results := [.lit (.bool false)], args := [d1, d2, d3] }
  | _ => none }
def PoolNobodyWrongFalsely : Prop := poolNobodyRow.holds Try.pinned (OpenSpec.ofChange poolNobodyWrong)

/-- 'quinellalaw03.PoolWithin': WHATEVER THE INPUT: true; the input reads as it did. -/
def poolWithinSpec : ChangeSpec := { name := "poolWithin", fn := fun _ => fun
  | [d1, d2] => { results := [.lit (.bool true)], args := [d1, d2] }
  | _ => none }
def poolWithinRow : OpenClaim := { program := "ytphajlldghcnnaa", sum := "08b5169b8fe12e71aa3e93835f45c4dea19fca1a5d53074bdc9bd060671c98fe", func := "quinella/quinellalaw03.PoolWithin", spec := "poolWithin", unfollowed := true, recurses := true, plainKeys := false, apart := false }
def PoolWithinSaid : Prop := poolWithinRow.holds Try.pinned (OpenSpec.ofChange poolWithinSpec)

/-- ITS FALSE NEIGHBOUR: 'it returns false'. Refute it at one input. -/
def poolWithinWrong : ChangeSpec := { name := "poolWithin", fn := fun _ => fun
  | [d1, d2] => { results := [.lit (.bool false)], args := [d1, d2] }
  | _ => none }
def PoolWithinWrongFalsely : Prop := poolWithinRow.holds Try.pinned (OpenSpec.ofChange poolWithinWrong)

/-- 'quinellalaw03.PoolKnown': WHATEVER THE INPUT: true; the input reads as it did. -/
def poolKnownSpec : ChangeSpec := { name := "poolKnown", fn := fun _ => fun
  | [] => { results := [.lit (.bool true)], args := [] }
  | _ => none }
def poolKnownRow : OpenClaim := { program := "ytphajlldghcnnaa", sum := "08b5169b8fe12e71aa3e93835f45c4dea19fca1a5d53074bdc9bd060671c98fe", func := "quinella/quinellalaw03.PoolKnown", spec := "poolKnown", unfollowed := true, recurses := true, plainKeys := false, apart := false }
def PoolKnownSaid : Prop := poolKnownRow.holds Try.pinned (OpenSpec.ofChange poolKnownSpec)

/-- ITS FALSE NEIGHBOUR: 'it returns false'. Refute it at one input. -/
def poolKnownWrong : ChangeSpec := { name := "poolKnown", fn := fun _ => fun
  | [] => { results := [.lit (.bool false)], args := [] }
  | _ => none }
def PoolKnownWrongFalsely : Prop := poolKnownRow.holds Try.pinned (OpenSpec.ofChange poolKnownWrong)

/- THE SECOND FORM. 'bulk': how many values and letters a reading holds, each counted each time it is reached (what is shared counts as often as it is met; a slice's spare places count too). A statement '..UptoSaid' is the law's where the arguments, and the package variables that the reading takes, are together of bulk at most 1048576: NARROWER than '..Said'. Prove '..Said' where nothing that the law and all that it calls make is longer than what came in: it says more and counts as full. Else prove '..UptoSaid'. A law counts once. -/
mutual
def uptoBulk {H : Type} : DataW H → Nat
  | .lit (.string bytes) => bytes.length + 1
  | .lit _ => 1
  | .nil => 1
  | .ptr d => uptoBulk d + 1
  | .slice elems spare => uptoBulkAll elems + uptoBulkAll spare + 1
  | .agg parts => uptoBulkAll parts + 1
  | .iface _ d => uptoBulk d + 1
  | .map entries => uptoBulkEntries entries + 1
  | .held _ => 1
def uptoBulkAll {H : Type} : List (DataW H) → Nat
  | [] => 0
  | d :: r => uptoBulk d + uptoBulkAll r
def uptoBulkEntries {H : Type} : List (Lit × DataW H) → Nat
  | [] => 0
  | x :: r => uptoBulkEntry x + uptoBulkEntries r
def uptoBulkEntry {H : Type} : Lit × DataW H → Nat
  | (.string bytes, d) => bytes.length + uptoBulk d + 1
  | (_, d) => uptoBulk d + 1
 end
def uptoSmall : (H : Type) → List (DataW H) → Bool := fun _ ds => decide (uptoBulkAll ds ≤ 1048576)
def OpenSpec.upto (s : _root_.Go.ChangeSpec) : _root_.Go.OpenSpec := { _root_.Go.OpenSpec.ofChange s with cond := some uptoSmall }

/-- 'quinellalaw03.PoolBooks', WHERE WHAT IT READS IS OF BULK AT MOST 1048576: true; the input reads as it did. -/
def poolBooksUptoRow : OpenClaim := { program := "ytphajlldghcnnaa", sum := "08b5169b8fe12e71aa3e93835f45c4dea19fca1a5d53074bdc9bd060671c98fe", func := "quinella/quinellalaw03.PoolBooks", spec := "poolBooks", unfollowed := true, recurses := true, plainKeys := false, apart := false, narrowed := true }
def PoolBooksUptoSaid : Prop := poolBooksUptoRow.holds Try.pinned (OpenSpec.upto poolBooksSpec)

/-- 'quinellalaw03.PoolFinishes', WHERE WHAT IT READS IS OF BULK AT MOST 1048576: true; the input reads as it did. -/
def poolFinishesUptoRow : OpenClaim := { program := "ytphajlldghcnnaa", sum := "08b5169b8fe12e71aa3e93835f45c4dea19fca1a5d53074bdc9bd060671c98fe", func := "quinella/quinellalaw03.PoolFinishes", spec := "poolFinishes", unfollowed := true, recurses := true, plainKeys := false, apart := false, narrowed := true }
def PoolFinishesUptoSaid : Prop := poolFinishesUptoRow.holds Try.pinned (OpenSpec.upto poolFinishesSpec)

/-- 'quinellalaw03.PoolPays', WHERE WHAT IT READS IS OF BULK AT MOST 1048576: true; the input reads as it did. -/
def poolPaysUptoRow : OpenClaim := { program := "ytphajlldghcnnaa", sum := "08b5169b8fe12e71aa3e93835f45c4dea19fca1a5d53074bdc9bd060671c98fe", func := "quinella/quinellalaw03.PoolPays", spec := "poolPays", unfollowed := true, recurses := true, plainKeys := false, apart := false, narrowed := true }
def PoolPaysUptoSaid : Prop := poolPaysUptoRow.holds Try.pinned (OpenSpec.upto poolPaysSpec)

/-- 'quinellalaw03.PoolSpreads', WHERE WHAT IT READS IS OF BULK AT MOST 1048576: true; the input reads as it did. -/
def poolSpreadsUptoRow : OpenClaim := { program := "ytphajlldghcnnaa", sum := "08b5169b8fe12e71aa3e93835f45c4dea19fca1a5d53074bdc9bd060671c98fe", func := "quinella/quinellalaw03.PoolSpreads", spec := "poolSpreads", unfollowed := true, recurses := true, plainKeys := false, apart := false, narrowed := true }
def PoolSpreadsUptoSaid : Prop := poolSpreadsUptoRow.holds Try.pinned (OpenSpec.upto poolSpreadsSpec)

/-- 'quinellalaw03.PoolBalanced', WHERE WHAT IT READS IS OF BULK AT MOST 1048576: true; the input reads as it did. -/
def poolBalancedUptoRow : OpenClaim := { program := "ytphajlldghcnnaa", sum := "08b5169b8fe12e71aa3e93835f45c4dea19fca1a5d53074bdc9bd060671c98fe", func := "quinella/quinellalaw03.PoolBalanced", spec := "poolBalanced", unfollowed := true, recurses := true, plainKeys := false, apart := false, narrowed := true }
def PoolBalancedUptoSaid : Prop := poolBalancedUptoRow.holds Try.pinned (OpenSpec.upto poolBalancedSpec)

/-- 'quinellalaw03.PoolScratched', WHERE WHAT IT READS IS OF BULK AT MOST 1048576: true; the input reads as it did. -/
def poolScratchedUptoRow : OpenClaim := { program := "ytphajlldghcnnaa", sum := "08b5169b8fe12e71aa3e93835f45c4dea19fca1a5d53074bdc9bd060671c98fe", func := "quinella/quinellalaw03.PoolScratched", spec := "poolScratched", unfollowed := true, recurses := true, plainKeys := false, apart := false, narrowed := true }
def PoolScratchedUptoSaid : Prop := poolScratchedUptoRow.holds Try.pinned (OpenSpec.upto poolScratchedSpec)

/-- 'quinellalaw03.PoolShared', WHERE WHAT IT READS IS OF BULK AT MOST 1048576: true; the input reads as it did. -/
def poolSharedUptoRow : OpenClaim := { program := "ytphajlldghcnnaa", sum := "08b5169b8fe12e71aa3e93835f45c4dea19fca1a5d53074bdc9bd060671c98fe", func := "quinella/quinellalaw03.PoolShared", spec := "poolShared", unfollowed := true, recurses := true, plainKeys := false, apart := false, narrowed := true }
def PoolSharedUptoSaid : Prop := poolSharedUptoRow.holds Try.pinned (OpenSpec.upto poolSharedSpec)

/-- 'quinellalaw03.PoolJoined', WHERE WHAT IT READS IS OF BULK AT MOST 1048576: true; the input reads as it did. -/
def poolJoinedUptoRow : OpenClaim := { program := "ytphajlldghcnnaa", sum := "08b5169b8fe12e71aa3e93835f45c4dea19fca1a5d53074bdc9bd060671c98fe", func := "quinella/quinellalaw03.PoolJoined", spec := "poolJoined", unfollowed := true, recurses := true, plainKeys := false, apart := false, narrowed := true }
def PoolJoinedUptoSaid : Prop := poolJoinedUptoRow.holds Try.pinned (OpenSpec.upto poolJoinedSpec)

/-- 'quinellalaw03.PoolMore', WHERE WHAT IT READS IS OF BULK AT MOST 1048576: true; the input reads as it did. -/
def poolMoreUptoRow : OpenClaim := { program := "ytphajlldghcnnaa", sum := "08b5169b8fe12e71aa3e93835f45c4dea19fca1a5d53074bdc9bd060671c98fe", func := "quinella/quinellalaw03.PoolMore", spec := "poolMore", unfollowed := true, recurses := true, plainKeys := false, apart := false, narrowed := true }
def PoolMoreUptoSaid : Prop := poolMoreUptoRow.holds Try.pinned (OpenSpec.upto poolMoreSpec)

/-- 'quinellalaw03.PoolTogether', WHERE WHAT IT READS IS OF BULK AT MOST 1048576: true; the input reads as it did. -/
def poolTogetherUptoRow : OpenClaim := { program := "ytphajlldghcnnaa", sum := "08b5169b8fe12e71aa3e93835f45c4dea19fca1a5d53074bdc9bd060671c98fe", func := "quinella/quinellalaw03.PoolTogether", spec := "poolTogether", unfollowed := true, recurses := true, plainKeys := false, apart := false, narrowed := true }
def PoolTogetherUptoSaid : Prop := poolTogetherUptoRow.holds Try.pinned (OpenSpec.upto poolTogetherSpec)

/-- 'quinellalaw03.PoolNamed', WHERE WHAT IT READS IS OF BULK AT MOST 1048576: true; the input reads as it did. -/
def poolNamedUptoRow : OpenClaim := { program := "ytphajlldghcnnaa", sum := "08b5169b8fe12e71aa3e93835f45c4dea19fca1a5d53074bdc9bd060671c98fe", func := "quinella/quinellalaw03.PoolNamed", spec := "poolNamed", unfollowed := true, recurses := true, plainKeys := false, apart := false, narrowed := true }
def PoolNamedUptoSaid : Prop := poolNamedUptoRow.holds Try.pinned (OpenSpec.upto poolNamedSpec)

/-- 'quinellalaw03.PoolNobody', WHERE WHAT IT READS IS OF BULK AT MOST 1048576: true; the input reads as it did. -/
def poolNobodyUptoRow : OpenClaim := { program := "ytphajlldghcnnaa", sum := "08b5169b8fe12e71aa3e93835f45c4dea19fca1a5d53074bdc9bd060671c98fe", func := "quinella/quinellalaw03.PoolNobody", spec := "poolNobody", unfollowed := true, recurses := true, plainKeys := false, apart := false, narrowed := true }
def PoolNobodyUptoSaid : Prop := poolNobodyUptoRow.holds Try.pinned (OpenSpec.upto poolNobodySpec)

/-- 'quinellalaw03.PoolWithin', WHERE WHAT IT READS IS OF BULK AT MOST 1048576: true; the input reads as it did. -/
def poolWithinUptoRow : OpenClaim := { program := "ytphajlldghcnnaa", sum := "08b5169b8fe12e71aa3e93835f45c4dea19fca1a5d53074bdc9bd060671c98fe", func := "quinella/quinellalaw03.PoolWithin", spec := "poolWithin", unfollowed := true, recurses := true, plainKeys := false, apart := false, narrowed := true }
def PoolWithinUptoSaid : Prop := poolWithinUptoRow.holds Try.pinned (OpenSpec.upto poolWithinSpec)

/-- 'quinellalaw03.PoolKnown', WHERE WHAT IT READS IS OF BULK AT MOST 1048576: true; the input reads as it did. -/
def poolKnownUptoRow : OpenClaim := { program := "ytphajlldghcnnaa", sum := "08b5169b8fe12e71aa3e93835f45c4dea19fca1a5d53074bdc9bd060671c98fe", func := "quinella/quinellalaw03.PoolKnown", spec := "poolKnown", unfollowed := true, recurses := true, plainKeys := false, apart := false, narrowed := true }
def PoolKnownUptoSaid : Prop := poolKnownUptoRow.holds Try.pinned (OpenSpec.upto poolKnownSpec)

end Rows
end Go.Proofs.Ytphajlldghcnnaa
