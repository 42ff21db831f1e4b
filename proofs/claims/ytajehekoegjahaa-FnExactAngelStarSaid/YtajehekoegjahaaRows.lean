/-
  No cell of these rows narrows 'for every input' (looked for: loops, veiled, ifaces, maps, wideKeys, modest, calm, conditions, laid).
  DERIVED. THE GIVEN ROWS OF THIS SEAT. 12 by the template 'for every input the law returns true; each argument reads behind the call as it read before'; 0 by the template 'total and deterministic' (their statements: YtajehekoegjahaaTotals.lean).
  GIVEN WITH THE SEED: the statements are not yours to turn. If you find one false, say at which input.
  Laid BY PROGRAM, IN A SANDBOX (cutbox-rows.mjs): the forced cells as the released guide's own fill.sh prints them over the translation abdfb5b3d53ed611… (all of the seat's roots in one cut). By AI agents, Wed Nov 11 2026. No macro, syntax, notation, axiom, sorry.
-/
import Derived.Test.YtajehekoegjahaaChecked
import GoSem.Claim
import GoSem.ClaimJoined
import GoSem.ClaimMapViews
import Derived.JoinedTies
import Derived.KernelRfl
namespace Go.Proofs.Ytajehekoegjahaa
/- THE CELL 'sum', in the pinned program and in every row, IS THE sha256 OF THE DUMP (.gsa) THAT YtajehekoegjahaaProg.lean LOADS. Nothing in Lean hashes anything: it is a label: what it is worth is what the hold of that sum in a sandbox is worth. -/
noncomputable def Try.pinned : Pinned := { name := "ytajehekoegjahaa", sum := "abdfb5b3d53ed611f353a37048e00038ab2fcfb54266dee3664ad2da4b5ba059", checked := Try.checked }
namespace Rows
def none {H : Type} : Left H := { results := [], args := [] }

/-- 'laws.FnExactBeforeLeast': WHATEVER THE INPUT: true; the input reads as it did. -/
def fnExactBeforeLeastSpec : ChangeSpec := { name := "fnExactBeforeLeast", fn := fun _ => fun
  | [d1, d2] => { results := [.lit (.bool true)], args := [d1, d2] }
  | _ => none }
def fnExactBeforeLeastRow : OpenClaim := { program := "ytajehekoegjahaa", sum := "abdfb5b3d53ed611f353a37048e00038ab2fcfb54266dee3664ad2da4b5ba059", func := "loop.example/dualchoices/laws.FnExactBeforeLeast", spec := "fnExactBeforeLeast", inPlace := ["internal/bytealg.IndexByteString"], unfollowed := true, recurses := true, apart := false }
def FnExactBeforeLeastSaid : Prop := fnExactBeforeLeastRow.holds Try.pinned (OpenSpec.ofChange fnExactBeforeLeastSpec)

/-- ITS FALSE NEIGHBOUR: 'it returns false'. Refute it at one input. -/
def fnExactBeforeLeastWrong : ChangeSpec := { name := "fnExactBeforeLeast", fn := fun _ => fun
  | [d1, d2] => { results := [.lit (.bool false)], args := [d1, d2] }
  | _ => none }
def FnExactBeforeLeastWrongFalsely : Prop := fnExactBeforeLeastRow.holds Try.pinned (OpenSpec.ofChange fnExactBeforeLeastWrong)

/-- 'laws.FnExactBeforeMost': WHATEVER THE INPUT: true; the input reads as it did. -/
def fnExactBeforeMostSpec : ChangeSpec := { name := "fnExactBeforeMost", fn := fun _ => fun
  | [d1, d2] => { results := [.lit (.bool true)], args := [d1, d2] }
  | _ => none }
def fnExactBeforeMostRow : OpenClaim := { program := "ytajehekoegjahaa", sum := "abdfb5b3d53ed611f353a37048e00038ab2fcfb54266dee3664ad2da4b5ba059", func := "loop.example/dualchoices/laws.FnExactBeforeMost", spec := "fnExactBeforeMost", inPlace := ["internal/bytealg.IndexByteString"], unfollowed := true, recurses := true, apart := false }
def FnExactBeforeMostSaid : Prop := fnExactBeforeMostRow.holds Try.pinned (OpenSpec.ofChange fnExactBeforeMostSpec)

/-- ITS FALSE NEIGHBOUR: 'it returns false'. Refute it at one input. -/
def fnExactBeforeMostWrong : ChangeSpec := { name := "fnExactBeforeMost", fn := fun _ => fun
  | [d1, d2] => { results := [.lit (.bool false)], args := [d1, d2] }
  | _ => none }
def FnExactBeforeMostWrongFalsely : Prop := fnExactBeforeMostRow.holds Try.pinned (OpenSpec.ofChange fnExactBeforeMostWrong)

/-- 'laws.FnExactEndsFrom': WHATEVER THE INPUT: true; the input reads as it did. -/
def fnExactEndsFromSpec : ChangeSpec := { name := "fnExactEndsFrom", fn := fun _ => fun
  | [d1, d2] => { results := [.lit (.bool true)], args := [d1, d2] }
  | _ => none }
def fnExactEndsFromRow : OpenClaim := { program := "ytajehekoegjahaa", sum := "abdfb5b3d53ed611f353a37048e00038ab2fcfb54266dee3664ad2da4b5ba059", func := "loop.example/dualchoices/laws.FnExactEndsFrom", spec := "fnExactEndsFrom", inPlace := ["internal/bytealg.IndexByteString"], unfollowed := true, recurses := true, apart := false }
def FnExactEndsFromSaid : Prop := fnExactEndsFromRow.holds Try.pinned (OpenSpec.ofChange fnExactEndsFromSpec)

/-- ITS FALSE NEIGHBOUR: 'it returns false'. Refute it at one input. -/
def fnExactEndsFromWrong : ChangeSpec := { name := "fnExactEndsFrom", fn := fun _ => fun
  | [d1, d2] => { results := [.lit (.bool false)], args := [d1, d2] }
  | _ => none }
def FnExactEndsFromWrongFalsely : Prop := fnExactEndsFromRow.holds Try.pinned (OpenSpec.ofChange fnExactEndsFromWrong)

/-- 'laws.FnExactWeakestInvariant': WHATEVER THE INPUT: true; the input reads as it did. -/
def fnExactWeakestInvariantSpec : ChangeSpec := { name := "fnExactWeakestInvariant", fn := fun _ => fun
  | [d1, d2, d3] => { results := [.lit (.bool true)], args := [d1, d2, d3] }
  | _ => none }
def fnExactWeakestInvariantRow : OpenClaim := { program := "ytajehekoegjahaa", sum := "abdfb5b3d53ed611f353a37048e00038ab2fcfb54266dee3664ad2da4b5ba059", func := "loop.example/dualchoices/laws.FnExactWeakestInvariant", spec := "fnExactWeakestInvariant", inPlace := ["internal/bytealg.IndexByteString"], unfollowed := true, recurses := true, apart := false }
def FnExactWeakestInvariantSaid : Prop := fnExactWeakestInvariantRow.holds Try.pinned (OpenSpec.ofChange fnExactWeakestInvariantSpec)

/-- ITS FALSE NEIGHBOUR: 'it returns false'. Refute it at one input. -/
def fnExactWeakestInvariantWrong : ChangeSpec := { name := "fnExactWeakestInvariant", fn := fun _ => fun
  | [d1, d2, d3] => { results := [.lit (.bool false)], args := [d1, d2, d3] }
  | _ => none }
def FnExactWeakestInvariantWrongFalsely : Prop := fnExactWeakestInvariantRow.holds Try.pinned (OpenSpec.ofChange fnExactWeakestInvariantWrong)

/-- 'laws.FnExactWhileFree': WHATEVER THE INPUT: true; the input reads as it did. -/
def fnExactWhileFreeSpec : ChangeSpec := { name := "fnExactWhileFree", fn := fun _ => fun
  | [d1, d2] => { results := [.lit (.bool true)], args := [d1, d2] }
  | _ => none }
def fnExactWhileFreeRow : OpenClaim := { program := "ytajehekoegjahaa", sum := "abdfb5b3d53ed611f353a37048e00038ab2fcfb54266dee3664ad2da4b5ba059", func := "loop.example/dualchoices/laws.FnExactWhileFree", spec := "fnExactWhileFree", inPlace := ["internal/bytealg.IndexByteString"], unfollowed := true, recurses := true, apart := false }
def FnExactWhileFreeSaid : Prop := fnExactWhileFreeRow.holds Try.pinned (OpenSpec.ofChange fnExactWhileFreeSpec)

/-- ITS FALSE NEIGHBOUR: 'it returns false'. Refute it at one input. -/
def fnExactWhileFreeWrong : ChangeSpec := { name := "fnExactWhileFree", fn := fun _ => fun
  | [d1, d2] => { results := [.lit (.bool false)], args := [d1, d2] }
  | _ => none }
def FnExactWhileFreeWrongFalsely : Prop := fnExactWhileFreeRow.holds Try.pinned (OpenSpec.ofChange fnExactWhileFreeWrong)

/-- 'laws.FnExactWhileTrans': WHATEVER THE INPUT: true; the input reads as it did. -/
def fnExactWhileTransSpec : ChangeSpec := { name := "fnExactWhileTrans", fn := fun _ => fun
  | [d1, d2] => { results := [.lit (.bool true)], args := [d1, d2] }
  | _ => none }
def fnExactWhileTransRow : OpenClaim := { program := "ytajehekoegjahaa", sum := "abdfb5b3d53ed611f353a37048e00038ab2fcfb54266dee3664ad2da4b5ba059", func := "loop.example/dualchoices/laws.FnExactWhileTrans", spec := "fnExactWhileTrans", inPlace := ["internal/bytealg.IndexByteString"], unfollowed := true, recurses := true, apart := false }
def FnExactWhileTransSaid : Prop := fnExactWhileTransRow.holds Try.pinned (OpenSpec.ofChange fnExactWhileTransSpec)

/-- ITS FALSE NEIGHBOUR: 'it returns false'. Refute it at one input. -/
def fnExactWhileTransWrong : ChangeSpec := { name := "fnExactWhileTrans", fn := fun _ => fun
  | [d1, d2] => { results := [.lit (.bool false)], args := [d1, d2] }
  | _ => none }
def FnExactWhileTransWrongFalsely : Prop := fnExactWhileTransRow.holds Try.pinned (OpenSpec.ofChange fnExactWhileTransWrong)

/-- 'laws.FnExactProvesLoop': WHATEVER THE INPUT: true; the input reads as it did. -/
def fnExactProvesLoopSpec : ChangeSpec := { name := "fnExactProvesLoop", fn := fun _ => fun
  | [d1, d2, d3, d4, d5] => { results := [.lit (.bool true)], args := [d1, d2, d3, d4, d5] }
  | _ => none }
def fnExactProvesLoopRow : OpenClaim := { program := "ytajehekoegjahaa", sum := "abdfb5b3d53ed611f353a37048e00038ab2fcfb54266dee3664ad2da4b5ba059", func := "loop.example/dualchoices/laws.FnExactProvesLoop", spec := "fnExactProvesLoop", inPlace := ["internal/bytealg.IndexByteString"], unfollowed := true, recurses := true, apart := false }
def FnExactProvesLoopSaid : Prop := fnExactProvesLoopRow.holds Try.pinned (OpenSpec.ofChange fnExactProvesLoopSpec)

/-- ITS FALSE NEIGHBOUR: 'it returns false'. Refute it at one input. -/
def fnExactProvesLoopWrong : ChangeSpec := { name := "fnExactProvesLoop", fn := fun _ => fun
  | [d1, d2, d3, d4, d5] => { results := [.lit (.bool false)], args := [d1, d2, d3, d4, d5] }
  | _ => none }
def FnExactProvesLoopWrongFalsely : Prop := fnExactProvesLoopRow.holds Try.pinned (OpenSpec.ofChange fnExactProvesLoopWrong)

/-- 'laws.FnExactRanksOf': WHATEVER THE INPUT: true; the input reads as it did. -/
def fnExactRanksOfSpec : ChangeSpec := { name := "fnExactRanksOf", fn := fun _ => fun
  | [d1, d2] => { results := [.lit (.bool true)], args := [d1, d2] }
  | _ => none }
def fnExactRanksOfRow : OpenClaim := { program := "ytajehekoegjahaa", sum := "abdfb5b3d53ed611f353a37048e00038ab2fcfb54266dee3664ad2da4b5ba059", func := "loop.example/dualchoices/laws.FnExactRanksOf", spec := "fnExactRanksOf", inPlace := ["internal/bytealg.IndexByteString"], apart := false }
def FnExactRanksOfSaid : Prop := fnExactRanksOfRow.holds Try.pinned (OpenSpec.ofChange fnExactRanksOfSpec)

/-- ITS FALSE NEIGHBOUR: 'it returns false'. Refute it at one input. -/
def fnExactRanksOfWrong : ChangeSpec := { name := "fnExactRanksOf", fn := fun _ => fun
  | [d1, d2] => { results := [.lit (.bool false)], args := [d1, d2] }
  | _ => none }
def FnExactRanksOfWrongFalsely : Prop := fnExactRanksOfRow.holds Try.pinned (OpenSpec.ofChange fnExactRanksOfWrong)

/-- 'laws.FnExactUndoOf': WHATEVER THE INPUT: true; the input reads as it did. -/
def fnExactUndoOfSpec : ChangeSpec := { name := "fnExactUndoOf", fn := fun _ => fun
  | [d] => { results := [.lit (.bool true)], args := [d] }
  | _ => none }
def fnExactUndoOfRow : OpenClaim := { program := "ytajehekoegjahaa", sum := "abdfb5b3d53ed611f353a37048e00038ab2fcfb54266dee3664ad2da4b5ba059", func := "loop.example/dualchoices/laws.FnExactUndoOf", spec := "fnExactUndoOf", inPlace := ["internal/bytealg.IndexByteString"], unfollowed := true, recurses := true, apart := false }
def FnExactUndoOfSaid : Prop := fnExactUndoOfRow.holds Try.pinned (OpenSpec.ofChange fnExactUndoOfSpec)

/-- ITS FALSE NEIGHBOUR: 'it returns false'. Refute it at one input. -/
def fnExactUndoOfWrong : ChangeSpec := { name := "fnExactUndoOf", fn := fun _ => fun
  | [d] => { results := [.lit (.bool false)], args := [d] }
  | _ => none }
def FnExactUndoOfWrongFalsely : Prop := fnExactUndoOfRow.holds Try.pinned (OpenSpec.ofChange fnExactUndoOfWrong)

/-- 'laws.FnExactSplitWhile': WHATEVER THE INPUT: true; the input reads as it did. -/
def fnExactSplitWhileSpec : ChangeSpec := { name := "fnExactSplitWhile", fn := fun _ => fun
  | [d1, d2, d3] => { results := [.lit (.bool true)], args := [d1, d2, d3] }
  | _ => none }
def fnExactSplitWhileRow : OpenClaim := { program := "ytajehekoegjahaa", sum := "abdfb5b3d53ed611f353a37048e00038ab2fcfb54266dee3664ad2da4b5ba059", func := "loop.example/dualchoices/laws.FnExactSplitWhile", spec := "fnExactSplitWhile", inPlace := ["internal/bytealg.IndexByteString"], unfollowed := true, recurses := true, apart := false }
def FnExactSplitWhileSaid : Prop := fnExactSplitWhileRow.holds Try.pinned (OpenSpec.ofChange fnExactSplitWhileSpec)

/-- ITS FALSE NEIGHBOUR: 'it returns false'. Refute it at one input. -/
def fnExactSplitWhileWrong : ChangeSpec := { name := "fnExactSplitWhile", fn := fun _ => fun
  | [d1, d2, d3] => { results := [.lit (.bool false)], args := [d1, d2, d3] }
  | _ => none }
def FnExactSplitWhileWrongFalsely : Prop := fnExactSplitWhileRow.holds Try.pinned (OpenSpec.ofChange fnExactSplitWhileWrong)

/-- 'laws.FnExactAngelOmega': WHATEVER THE INPUT: true; the input reads as it did. -/
def fnExactAngelOmegaSpec : ChangeSpec := { name := "fnExactAngelOmega", fn := fun _ => fun
  | [d] => { results := [.lit (.bool true)], args := [d] }
  | _ => none }
def fnExactAngelOmegaRow : OpenClaim := { program := "ytajehekoegjahaa", sum := "abdfb5b3d53ed611f353a37048e00038ab2fcfb54266dee3664ad2da4b5ba059", func := "loop.example/dualchoices/laws.FnExactAngelOmega", spec := "fnExactAngelOmega", inPlace := ["internal/bytealg.IndexByteString"], unfollowed := true, recurses := true, apart := false }
def FnExactAngelOmegaSaid : Prop := fnExactAngelOmegaRow.holds Try.pinned (OpenSpec.ofChange fnExactAngelOmegaSpec)

/-- ITS FALSE NEIGHBOUR: 'it returns false'. Refute it at one input. -/
def fnExactAngelOmegaWrong : ChangeSpec := { name := "fnExactAngelOmega", fn := fun _ => fun
  | [d] => { results := [.lit (.bool false)], args := [d] }
  | _ => none }
def FnExactAngelOmegaWrongFalsely : Prop := fnExactAngelOmegaRow.holds Try.pinned (OpenSpec.ofChange fnExactAngelOmegaWrong)

/-- 'laws.FnExactAngelStar': WHATEVER THE INPUT: true; the input reads as it did. -/
def fnExactAngelStarSpec : ChangeSpec := { name := "fnExactAngelStar", fn := fun _ => fun
  | [d] => { results := [.lit (.bool true)], args := [d] }
  | _ => none }
def fnExactAngelStarRow : OpenClaim := { program := "ytajehekoegjahaa", sum := "abdfb5b3d53ed611f353a37048e00038ab2fcfb54266dee3664ad2da4b5ba059", func := "loop.example/dualchoices/laws.FnExactAngelStar", spec := "fnExactAngelStar", inPlace := ["internal/bytealg.IndexByteString"], unfollowed := true, recurses := true, apart := false }
def FnExactAngelStarSaid : Prop := fnExactAngelStarRow.holds Try.pinned (OpenSpec.ofChange fnExactAngelStarSpec)

/-- ITS FALSE NEIGHBOUR: 'it returns false'. Refute it at one input. -/
def fnExactAngelStarWrong : ChangeSpec := { name := "fnExactAngelStar", fn := fun _ => fun
  | [d] => { results := [.lit (.bool false)], args := [d] }
  | _ => none }
def FnExactAngelStarWrongFalsely : Prop := fnExactAngelStarRow.holds Try.pinned (OpenSpec.ofChange fnExactAngelStarWrong)

/- THE SECOND FORM. 'bulk': how many values and letters a reading holds, each counted each time it is reached (what is shared counts as often as it is met; a slice's spare places count too). A statement '..UptoSaid' is the law's where the arguments, and the package variables that the reading takes, are together of bulk at most 1048576: NARROWER than '..Said'. Prove '..Said' where nothing that the law and all that it calls make is longer than what came in: it says more and counts as full. Else prove '..UptoSaid'. A law counts once. -/
mutual
def uptoBulk {H : Type} : DataW H → Nat
  | .lit (.string bytes) => bytes.length + 1
  | .lit _ => 1
  | .nil => 1
  | .ptr d => uptoBulk d + 1
  | .slice elems spare => uptoBulkAll elems + uptoBulkAll spare + 1
  | .agg parts => uptoBulkAll parts + 1
  | .iface _ d => uptoBulk d + 1
  | .map entries => uptoBulkEntries entries + 1
  | .held _ => 1
def uptoBulkAll {H : Type} : List (DataW H) → Nat
  | [] => 0
  | d :: r => uptoBulk d + uptoBulkAll r
def uptoBulkEntries {H : Type} : List (Lit × DataW H) → Nat
  | [] => 0
  | x :: r => uptoBulkEntry x + uptoBulkEntries r
def uptoBulkEntry {H : Type} : Lit × DataW H → Nat
  | (.string bytes, d) => bytes.length + uptoBulk d + 1
  | (_, d) => uptoBulk d + 1
 end
def uptoSmall : (H : Type) → List (DataW H) → Bool := fun _ ds => decide (uptoBulkAll ds ≤ 1048576)
def OpenSpec.upto (s : _root_.Go.ChangeSpec) : _root_.Go.OpenSpec := { _root_.Go.OpenSpec.ofChange s with cond := some uptoSmall }

/-- 'laws.FnExactBeforeLeast', WHERE WHAT IT READS IS OF BULK AT MOST 1048576: true; the input reads as it did. -/
def fnExactBeforeLeastUptoRow : OpenClaim := { program := "ytajehekoegjahaa", sum := "abdfb5b3d53ed611f353a37048e00038ab2fcfb54266dee3664ad2da4b5ba059", func := "loop.example/dualchoices/laws.FnExactBeforeLeast", spec := "fnExactBeforeLeast", inPlace := ["internal/bytealg.IndexByteString"], unfollowed := true, recurses := true, apart := false, narrowed := true }
def FnExactBeforeLeastUptoSaid : Prop := fnExactBeforeLeastUptoRow.holds Try.pinned (OpenSpec.upto fnExactBeforeLeastSpec)

/-- 'laws.FnExactBeforeMost', WHERE WHAT IT READS IS OF BULK AT MOST 1048576: true; the input reads as it did. -/
def fnExactBeforeMostUptoRow : OpenClaim := { program := "ytajehekoegjahaa", sum := "abdfb5b3d53ed611f353a37048e00038ab2fcfb54266dee3664ad2da4b5ba059", func := "loop.example/dualchoices/laws.FnExactBeforeMost", spec := "fnExactBeforeMost", inPlace := ["internal/bytealg.IndexByteString"], unfollowed := true, recurses := true, apart := false, narrowed := true }
def FnExactBeforeMostUptoSaid : Prop := fnExactBeforeMostUptoRow.holds Try.pinned (OpenSpec.upto fnExactBeforeMostSpec)

/-- 'laws.FnExactEndsFrom', WHERE WHAT IT READS IS OF BULK AT MOST 1048576: true; the input reads as it did. -/
def fnExactEndsFromUptoRow : OpenClaim := { program := "ytajehekoegjahaa", sum := "abdfb5b3d53ed611f353a37048e00038ab2fcfb54266dee3664ad2da4b5ba059", func := "loop.example/dualchoices/laws.FnExactEndsFrom", spec := "fnExactEndsFrom", inPlace := ["internal/bytealg.IndexByteString"], unfollowed := true, recurses := true, apart := false, narrowed := true }
def FnExactEndsFromUptoSaid : Prop := fnExactEndsFromUptoRow.holds Try.pinned (OpenSpec.upto fnExactEndsFromSpec)

/-- 'laws.FnExactWeakestInvariant', WHERE WHAT IT READS IS OF BULK AT MOST 1048576: true; the input reads as it did. -/
def fnExactWeakestInvariantUptoRow : OpenClaim := { program := "ytajehekoegjahaa", sum := "abdfb5b3d53ed611f353a37048e00038ab2fcfb54266dee3664ad2da4b5ba059", func := "loop.example/dualchoices/laws.FnExactWeakestInvariant", spec := "fnExactWeakestInvariant", inPlace := ["internal/bytealg.IndexByteString"], unfollowed := true, recurses := true, apart := false, narrowed := true }
def FnExactWeakestInvariantUptoSaid : Prop := fnExactWeakestInvariantUptoRow.holds Try.pinned (OpenSpec.upto fnExactWeakestInvariantSpec)

/-- 'laws.FnExactWhileFree', WHERE WHAT IT READS IS OF BULK AT MOST 1048576: true; the input reads as it did. -/
def fnExactWhileFreeUptoRow : OpenClaim := { program := "ytajehekoegjahaa", sum := "abdfb5b3d53ed611f353a37048e00038ab2fcfb54266dee3664ad2da4b5ba059", func := "loop.example/dualchoices/laws.FnExactWhileFree", spec := "fnExactWhileFree", inPlace := ["internal/bytealg.IndexByteString"], unfollowed := true, recurses := true, apart := false, narrowed := true }
def FnExactWhileFreeUptoSaid : Prop := fnExactWhileFreeUptoRow.holds Try.pinned (OpenSpec.upto fnExactWhileFreeSpec)

/-- 'laws.FnExactWhileTrans', WHERE WHAT IT READS IS OF BULK AT MOST 1048576: true; the input reads as it did. -/
def fnExactWhileTransUptoRow : OpenClaim := { program := "ytajehekoegjahaa", sum := "abdfb5b3d53ed611f353a37048e00038ab2fcfb54266dee3664ad2da4b5ba059", func := "loop.example/dualchoices/laws.FnExactWhileTrans", spec := "fnExactWhileTrans", inPlace := ["internal/bytealg.IndexByteString"], unfollowed := true, recurses := true, apart := false, narrowed := true }
def FnExactWhileTransUptoSaid : Prop := fnExactWhileTransUptoRow.holds Try.pinned (OpenSpec.upto fnExactWhileTransSpec)

/-- 'laws.FnExactProvesLoop', WHERE WHAT IT READS IS OF BULK AT MOST 1048576: true; the input reads as it did. -/
def fnExactProvesLoopUptoRow : OpenClaim := { program := "ytajehekoegjahaa", sum := "abdfb5b3d53ed611f353a37048e00038ab2fcfb54266dee3664ad2da4b5ba059", func := "loop.example/dualchoices/laws.FnExactProvesLoop", spec := "fnExactProvesLoop", inPlace := ["internal/bytealg.IndexByteString"], unfollowed := true, recurses := true, apart := false, narrowed := true }
def FnExactProvesLoopUptoSaid : Prop := fnExactProvesLoopUptoRow.holds Try.pinned (OpenSpec.upto fnExactProvesLoopSpec)

/-- 'laws.FnExactRanksOf', WHERE WHAT IT READS IS OF BULK AT MOST 1048576: true; the input reads as it did. -/
def fnExactRanksOfUptoRow : OpenClaim := { program := "ytajehekoegjahaa", sum := "abdfb5b3d53ed611f353a37048e00038ab2fcfb54266dee3664ad2da4b5ba059", func := "loop.example/dualchoices/laws.FnExactRanksOf", spec := "fnExactRanksOf", inPlace := ["internal/bytealg.IndexByteString"], apart := false, narrowed := true }
def FnExactRanksOfUptoSaid : Prop := fnExactRanksOfUptoRow.holds Try.pinned (OpenSpec.upto fnExactRanksOfSpec)

/-- 'laws.FnExactUndoOf', WHERE WHAT IT READS IS OF BULK AT MOST 1048576: true; the input reads as it did. -/
def fnExactUndoOfUptoRow : OpenClaim := { program := "ytajehekoegjahaa", sum := "abdfb5b3d53ed611f353a37048e00038ab2fcfb54266dee3664ad2da4b5ba059", func := "loop.example/dualchoices/laws.FnExactUndoOf", spec := "fnExactUndoOf", inPlace := ["internal/bytealg.IndexByteString"], unfollowed := true, recurses := true, apart := false, narrowed := true }
def FnExactUndoOfUptoSaid : Prop := fnExactUndoOfUptoRow.holds Try.pinned (OpenSpec.upto fnExactUndoOfSpec)

/-- 'laws.FnExactSplitWhile', WHERE WHAT IT READS IS OF BULK AT MOST 1048576: true; the input reads as it did. -/
def fnExactSplitWhileUptoRow : OpenClaim := { program := "ytajehekoegjahaa", sum := "abdfb5b3d53ed611f353a37048e00038ab2fcfb54266dee3664ad2da4b5ba059", func := "loop.example/dualchoices/laws.FnExactSplitWhile", spec := "fnExactSplitWhile", inPlace := ["internal/bytealg.IndexByteString"], unfollowed := true, recurses := true, apart := false, narrowed := true }
def FnExactSplitWhileUptoSaid : Prop := fnExactSplitWhileUptoRow.holds Try.pinned (OpenSpec.upto fnExactSplitWhileSpec)

/-- 'laws.FnExactAngelOmega', WHERE WHAT IT READS IS OF BULK AT MOST 1048576: true; the input reads as it did. -/
def fnExactAngelOmegaUptoRow : OpenClaim := { program := "ytajehekoegjahaa", sum := "abdfb5b3d53ed611f353a37048e00038ab2fcfb54266dee3664ad2da4b5ba059", func := "loop.example/dualchoices/laws.FnExactAngelOmega", spec := "fnExactAngelOmega", inPlace := ["internal/bytealg.IndexByteString"], unfollowed := true, recurses := true, apart := false, narrowed := true }
def FnExactAngelOmegaUptoSaid : Prop := fnExactAngelOmegaUptoRow.holds Try.pinned (OpenSpec.upto fnExactAngelOmegaSpec)

/-- 'laws.FnExactAngelStar', WHERE WHAT IT READS IS OF BULK AT MOST 1048576: true; the input reads as it did. -/
def fnExactAngelStarUptoRow : OpenClaim := { program := "ytajehekoegjahaa", sum := "abdfb5b3d53ed611f353a37048e00038ab2fcfb54266dee3664ad2da4b5ba059", func := "loop.example/dualchoices/laws.FnExactAngelStar", spec := "fnExactAngelStar", inPlace := ["internal/bytealg.IndexByteString"], unfollowed := true, recurses := true, apart := false, narrowed := true }
def FnExactAngelStarUptoSaid : Prop := fnExactAngelStarUptoRow.holds Try.pinned (OpenSpec.upto fnExactAngelStarSpec)

end Rows
end Go.Proofs.Ytajehekoegjahaa
