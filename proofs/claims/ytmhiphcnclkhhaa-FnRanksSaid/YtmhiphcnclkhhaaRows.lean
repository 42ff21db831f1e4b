/-
  No cell of these rows narrows 'for every input' (looked for: loops, veiled, ifaces, maps, wideKeys, modest, calm, conditions, laid).
  DERIVED. THE GIVEN ROWS OF THIS SEAT. 12 by the template 'for every input the law returns true; each argument reads behind the call as it read before'; 0 by the template 'total and deterministic' (their statements: YtmhiphcnclkhhaaTotals.lean).
  GIVEN WITH THE SEED: the statements are not yours to turn. If you find one false, say at which input.
  Laid BY PROGRAM, IN A SANDBOX (cutbox-rows.mjs): the forced cells as the released guide's own fill.sh prints them over the translation 215fc63b087429a9… (all of the seat's roots in one cut). By AI agents, Wed Nov 11 2026. No macro, syntax, notation, axiom, sorry.
-/
import Derived.Test.YtmhiphcnclkhhaaChecked
import GoSem.Claim
import GoSem.ClaimJoined
import GoSem.ClaimMapViews
import Derived.JoinedTies
import Derived.KernelRfl
namespace Go.Proofs.Ytmhiphcnclkhhaa
/- THE CELL 'sum', in the pinned program and in every row, IS THE sha256 OF THE DUMP (.gsa) THAT YtmhiphcnclkhhaaProg.lean LOADS. Nothing in Lean hashes anything: it is a label: what it is worth is what the hold of that sum in a sandbox is worth. -/
noncomputable def Try.pinned : Pinned := { name := "ytmhiphcnclkhhaa", sum := "215fc63b087429a9b11a61cd576075c874094ddbb3116cf4bc9ee4480a4e65a0", checked := Try.checked }
namespace Rows
def none {H : Type} : Left H := { results := [], args := [] }

/-- 'laws.FnExactProvesLoop': WHATEVER THE INPUT: true; the input reads as it did. -/
def fnExactProvesLoopSpec : ChangeSpec := { name := "fnExactProvesLoop", fn := fun _ => fun
  | [d1, d2, d3, d4, d5] => { results := [.lit (.bool true)], args := [d1, d2, d3, d4, d5] }
  | _ => none }
def fnExactProvesLoopRow : OpenClaim := { program := "ytmhiphcnclkhhaa", sum := "215fc63b087429a9b11a61cd576075c874094ddbb3116cf4bc9ee4480a4e65a0", func := "loop.example/dualchoices/laws.FnExactProvesLoop", spec := "fnExactProvesLoop", inPlace := ["internal/bytealg.IndexByteString"], unfollowed := true, recurses := true, apart := false }
def FnExactProvesLoopSaid : Prop := fnExactProvesLoopRow.holds Try.pinned (OpenSpec.ofChange fnExactProvesLoopSpec)

/-- ITS FALSE NEIGHBOUR: 'it returns false'. Refute it at one input. -/
def fnExactProvesLoopWrong : ChangeSpec := { name := "fnExactProvesLoop", fn := fun _ => fun
  | [d1, d2, d3, d4, d5] => { results := [.lit (.bool false)], args := [d1, d2, d3, d4, d5] }
  | _ => none }
def FnExactProvesLoopWrongFalsely : Prop := fnExactProvesLoopRow.holds Try.pinned (OpenSpec.ofChange fnExactProvesLoopWrong)

/-- 'laws.FnExactRanksOf': WHATEVER THE INPUT: true; the input reads as it did. -/
def fnExactRanksOfSpec : ChangeSpec := { name := "fnExactRanksOf", fn := fun _ => fun
  | [d1, d2] => { results := [.lit (.bool true)], args := [d1, d2] }
  | _ => none }
def fnExactRanksOfRow : OpenClaim := { program := "ytmhiphcnclkhhaa", sum := "215fc63b087429a9b11a61cd576075c874094ddbb3116cf4bc9ee4480a4e65a0", func := "loop.example/dualchoices/laws.FnExactRanksOf", spec := "fnExactRanksOf", inPlace := ["internal/bytealg.IndexByteString"], apart := false }
def FnExactRanksOfSaid : Prop := fnExactRanksOfRow.holds Try.pinned (OpenSpec.ofChange fnExactRanksOfSpec)

/-- ITS FALSE NEIGHBOUR: 'it returns false'. Refute it at one input. -/
def fnExactRanksOfWrong : ChangeSpec := { name := "fnExactRanksOf", fn := fun _ => fun
  | [d1, d2] => { results := [.lit (.bool false)], args := [d1, d2] }
  | _ => none }
def FnExactRanksOfWrongFalsely : Prop := fnExactRanksOfRow.holds Try.pinned (OpenSpec.ofChange fnExactRanksOfWrong)

/-- 'laws.FnExactUndoOf': WHATEVER THE INPUT: true; the input reads as it did. -/
def fnExactUndoOfSpec : ChangeSpec := { name := "fnExactUndoOf", fn := fun _ => fun
  | [d] => { results := [.lit (.bool true)], args := [d] }
  | _ => none }
def fnExactUndoOfRow : OpenClaim := { program := "ytmhiphcnclkhhaa", sum := "215fc63b087429a9b11a61cd576075c874094ddbb3116cf4bc9ee4480a4e65a0", func := "loop.example/dualchoices/laws.FnExactUndoOf", spec := "fnExactUndoOf", inPlace := ["internal/bytealg.IndexByteString"], unfollowed := true, recurses := true, apart := false }
def FnExactUndoOfSaid : Prop := fnExactUndoOfRow.holds Try.pinned (OpenSpec.ofChange fnExactUndoOfSpec)

/-- ITS FALSE NEIGHBOUR: 'it returns false'. Refute it at one input. -/
def fnExactUndoOfWrong : ChangeSpec := { name := "fnExactUndoOf", fn := fun _ => fun
  | [d] => { results := [.lit (.bool false)], args := [d] }
  | _ => none }
def FnExactUndoOfWrongFalsely : Prop := fnExactUndoOfRow.holds Try.pinned (OpenSpec.ofChange fnExactUndoOfWrong)

/-- 'laws.FnExactSplitWhile': WHATEVER THE INPUT: true; the input reads as it did. -/
def fnExactSplitWhileSpec : ChangeSpec := { name := "fnExactSplitWhile", fn := fun _ => fun
  | [d1, d2, d3] => { results := [.lit (.bool true)], args := [d1, d2, d3] }
  | _ => none }
def fnExactSplitWhileRow : OpenClaim := { program := "ytmhiphcnclkhhaa", sum := "215fc63b087429a9b11a61cd576075c874094ddbb3116cf4bc9ee4480a4e65a0", func := "loop.example/dualchoices/laws.FnExactSplitWhile", spec := "fnExactSplitWhile", inPlace := ["internal/bytealg.IndexByteString"], unfollowed := true, recurses := true, apart := false }
def FnExactSplitWhileSaid : Prop := fnExactSplitWhileRow.holds Try.pinned (OpenSpec.ofChange fnExactSplitWhileSpec)

/-- ITS FALSE NEIGHBOUR: 'it returns false'. Refute it at one input. -/
def fnExactSplitWhileWrong : ChangeSpec := { name := "fnExactSplitWhile", fn := fun _ => fun
  | [d1, d2, d3] => { results := [.lit (.bool false)], args := [d1, d2, d3] }
  | _ => none }
def FnExactSplitWhileWrongFalsely : Prop := fnExactSplitWhileRow.holds Try.pinned (OpenSpec.ofChange fnExactSplitWhileWrong)

/-- 'laws.FnPower': WHATEVER THE INPUT: true; the input reads as it did. -/
def fnPowerSpec : ChangeSpec := { name := "fnPower", fn := fun _ => fun
  | [d1, d2] => { results := [.lit (.bool true)], args := [d1, d2] }
  | _ => none }
def fnPowerRow : OpenClaim := { program := "ytmhiphcnclkhhaa", sum := "215fc63b087429a9b11a61cd576075c874094ddbb3116cf4bc9ee4480a4e65a0", func := "loop.example/dualchoices/laws.FnPower", spec := "fnPower", inPlace := ["internal/bytealg.IndexByteString"], unfollowed := true, recurses := true, apart := false }
def FnPowerSaid : Prop := fnPowerRow.holds Try.pinned (OpenSpec.ofChange fnPowerSpec)

/-- ITS FALSE NEIGHBOUR: 'it returns false'. Refute it at one input. -/
def fnPowerWrong : ChangeSpec := { name := "fnPower", fn := fun _ => fun
  | [d1, d2] => { results := [.lit (.bool false)], args := [d1, d2] }
  | _ => none }
def FnPowerWrongFalsely : Prop := fnPowerRow.holds Try.pinned (OpenSpec.ofChange fnPowerWrong)

/-- 'laws.FnRanks': WHATEVER THE INPUT: true; the input reads as it did. -/
def fnRanksSpec : ChangeSpec := { name := "fnRanks", fn := fun _ => fun
  | [d] => { results := [.lit (.bool true)], args := [d] }
  | _ => none }
def fnRanksRow : OpenClaim := { program := "ytmhiphcnclkhhaa", sum := "215fc63b087429a9b11a61cd576075c874094ddbb3116cf4bc9ee4480a4e65a0", func := "loop.example/dualchoices/laws.FnRanks", spec := "fnRanks", inPlace := ["internal/bytealg.IndexByteString"], unfollowed := true, recurses := true, apart := false }
def FnRanksSaid : Prop := fnRanksRow.holds Try.pinned (OpenSpec.ofChange fnRanksSpec)

/-- ITS FALSE NEIGHBOUR: 'it returns false'. Refute it at one input. -/
def fnRanksWrong : ChangeSpec := { name := "fnRanks", fn := fun _ => fun
  | [d] => { results := [.lit (.bool false)], args := [d] }
  | _ => none }
def FnRanksWrongFalsely : Prop := fnRanksRow.holds Try.pinned (OpenSpec.ofChange fnRanksWrong)

/-- 'laws.FnRolling': WHATEVER THE INPUT: true; the input reads as it did. -/
def fnRollingSpec : ChangeSpec := { name := "fnRolling", fn := fun _ => fun
  | [d] => { results := [.lit (.bool true)], args := [d] }
  | _ => none }
def fnRollingRow : OpenClaim := { program := "ytmhiphcnclkhhaa", sum := "215fc63b087429a9b11a61cd576075c874094ddbb3116cf4bc9ee4480a4e65a0", func := "loop.example/dualchoices/laws.FnRolling", spec := "fnRolling", inPlace := ["internal/bytealg.IndexByteString"], unfollowed := true, recurses := true, apart := false }
def FnRollingSaid : Prop := fnRollingRow.holds Try.pinned (OpenSpec.ofChange fnRollingSpec)

/-- ITS FALSE NEIGHBOUR: 'it returns false'. Refute it at one input. -/
def fnRollingWrong : ChangeSpec := { name := "fnRolling", fn := fun _ => fun
  | [d] => { results := [.lit (.bool false)], args := [d] }
  | _ => none }
def FnRollingWrongFalsely : Prop := fnRollingRow.holds Try.pinned (OpenSpec.ofChange fnRollingWrong)

/-- 'laws.FnInvariant': WHATEVER THE INPUT: true; the input reads as it did. -/
def fnInvariantSpec : ChangeSpec := { name := "fnInvariant", fn := fun _ => fun
  | [d] => { results := [.lit (.bool true)], args := [d] }
  | _ => none }
def fnInvariantRow : OpenClaim := { program := "ytmhiphcnclkhhaa", sum := "215fc63b087429a9b11a61cd576075c874094ddbb3116cf4bc9ee4480a4e65a0", func := "loop.example/dualchoices/laws.FnInvariant", spec := "fnInvariant", inPlace := ["internal/bytealg.IndexByteString"], unfollowed := true, recurses := true, apart := false }
def FnInvariantSaid : Prop := fnInvariantRow.holds Try.pinned (OpenSpec.ofChange fnInvariantSpec)

/-- ITS FALSE NEIGHBOUR: 'it returns false'. Refute it at one input. -/
def fnInvariantWrong : ChangeSpec := { name := "fnInvariant", fn := fun _ => fun
  | [d] => { results := [.lit (.bool false)], args := [d] }
  | _ => none }
def FnInvariantWrongFalsely : Prop := fnInvariantRow.holds Try.pinned (OpenSpec.ofChange fnInvariantWrong)

/-- 'laws.FnUnroll': WHATEVER THE INPUT: true; the input reads as it did. -/
def fnUnrollSpec : ChangeSpec := { name := "fnUnroll", fn := fun _ => fun
  | [d1, d2] => { results := [.lit (.bool true)], args := [d1, d2] }
  | _ => none }
def fnUnrollRow : OpenClaim := { program := "ytmhiphcnclkhhaa", sum := "215fc63b087429a9b11a61cd576075c874094ddbb3116cf4bc9ee4480a4e65a0", func := "loop.example/dualchoices/laws.FnUnroll", spec := "fnUnroll", inPlace := ["internal/bytealg.IndexByteString"], unfollowed := true, recurses := true, apart := false }
def FnUnrollSaid : Prop := fnUnrollRow.holds Try.pinned (OpenSpec.ofChange fnUnrollSpec)

/-- ITS FALSE NEIGHBOUR: 'it returns false'. Refute it at one input. -/
def fnUnrollWrong : ChangeSpec := { name := "fnUnroll", fn := fun _ => fun
  | [d1, d2] => { results := [.lit (.bool false)], args := [d1, d2] }
  | _ => none }
def FnUnrollWrongFalsely : Prop := fnUnrollRow.holds Try.pinned (OpenSpec.ofChange fnUnrollWrong)

/-- 'laws.FnSplit': WHATEVER THE INPUT: true; the input reads as it did. -/
def fnSplitSpec : ChangeSpec := { name := "fnSplit", fn := fun _ => fun
  | [d] => { results := [.lit (.bool true)], args := [d] }
  | _ => none }
def fnSplitRow : OpenClaim := { program := "ytmhiphcnclkhhaa", sum := "215fc63b087429a9b11a61cd576075c874094ddbb3116cf4bc9ee4480a4e65a0", func := "loop.example/dualchoices/laws.FnSplit", spec := "fnSplit", inPlace := ["internal/bytealg.IndexByteString"], unfollowed := true, recurses := true, apart := false }
def FnSplitSaid : Prop := fnSplitRow.holds Try.pinned (OpenSpec.ofChange fnSplitSpec)

/-- ITS FALSE NEIGHBOUR: 'it returns false'. Refute it at one input. -/
def fnSplitWrong : ChangeSpec := { name := "fnSplit", fn := fun _ => fun
  | [d] => { results := [.lit (.bool false)], args := [d] }
  | _ => none }
def FnSplitWrongFalsely : Prop := fnSplitRow.holds Try.pinned (OpenSpec.ofChange fnSplitWrong)

/-- 'laws.FnLeastFrom': WHATEVER THE INPUT: true; the input reads as it did. -/
def fnLeastFromSpec : ChangeSpec := { name := "fnLeastFrom", fn := fun _ => fun
  | [d] => { results := [.lit (.bool true)], args := [d] }
  | _ => none }
def fnLeastFromRow : OpenClaim := { program := "ytmhiphcnclkhhaa", sum := "215fc63b087429a9b11a61cd576075c874094ddbb3116cf4bc9ee4480a4e65a0", func := "loop.example/dualchoices/laws.FnLeastFrom", spec := "fnLeastFrom", inPlace := ["internal/bytealg.IndexByteString"], unfollowed := true, recurses := true, apart := false }
def FnLeastFromSaid : Prop := fnLeastFromRow.holds Try.pinned (OpenSpec.ofChange fnLeastFromSpec)

/-- ITS FALSE NEIGHBOUR: 'it returns false'. Refute it at one input. -/
def fnLeastFromWrong : ChangeSpec := { name := "fnLeastFrom", fn := fun _ => fun
  | [d] => { results := [.lit (.bool false)], args := [d] }
  | _ => none }
def FnLeastFromWrongFalsely : Prop := fnLeastFromRow.holds Try.pinned (OpenSpec.ofChange fnLeastFromWrong)

/-- 'laws.FnPoints': WHATEVER THE INPUT: true; the input reads as it did. -/
def fnPointsSpec : ChangeSpec := { name := "fnPoints", fn := fun _ => fun
  | [d] => { results := [.lit (.bool true)], args := [d] }
  | _ => none }
def fnPointsRow : OpenClaim := { program := "ytmhiphcnclkhhaa", sum := "215fc63b087429a9b11a61cd576075c874094ddbb3116cf4bc9ee4480a4e65a0", func := "loop.example/dualchoices/laws.FnPoints", spec := "fnPoints", inPlace := ["internal/bytealg.IndexByteString"], unfollowed := true, recurses := true, apart := false }
def FnPointsSaid : Prop := fnPointsRow.holds Try.pinned (OpenSpec.ofChange fnPointsSpec)

/-- ITS FALSE NEIGHBOUR: 'it returns false'. Refute it at one input. -/
def fnPointsWrong : ChangeSpec := { name := "fnPoints", fn := fun _ => fun
  | [d] => { results := [.lit (.bool false)], args := [d] }
  | _ => none }
def FnPointsWrongFalsely : Prop := fnPointsRow.holds Try.pinned (OpenSpec.ofChange fnPointsWrong)

/- THE SECOND FORM. 'bulk': how many values and letters a reading holds, each counted each time it is reached (what is shared counts as often as it is met; a slice's spare places count too). A statement '..UptoSaid' is the law's where the arguments, and the package variables that the reading takes, are together of bulk at most 1048576: NARROWER than '..Said'. Prove '..Said' where nothing that the law and all that it calls make is longer than what came in: it says more and counts as full. Else prove '..UptoSaid'. A law counts once. -/
mutual
def uptoBulk {H : Type} : DataW H → Nat
  | .lit (.string bytes) => bytes.length + 1
  | .lit _ => 1
  | .nil => 1
  | .ptr d => uptoBulk d + 1
  | .slice elems spare => uptoBulkAll elems + uptoBulkAll spare + 1
  | .agg parts => uptoBulkAll parts + 1
  | .iface _ d => uptoBulk d + 1
  | .map entries => uptoBulkEntries entries + 1
  | .held _ => 1
def uptoBulkAll {H : Type} : List (DataW H) → Nat
  | [] => 0
  | d :: r => uptoBulk d + uptoBulkAll r
def uptoBulkEntries {H : Type} : List (Lit × DataW H) → Nat
  | [] => 0
  | x :: r => uptoBulkEntry x + uptoBulkEntries r
def uptoBulkEntry {H : Type} : Lit × DataW H → Nat
  | (.string bytes, d) => bytes.length + uptoBulk d + 1
  | (_, d) => uptoBulk d + 1
 end
def uptoSmall : (H : Type) → List (DataW H) → Bool := fun _ ds => decide (uptoBulkAll ds ≤ 1048576)
def OpenSpec.upto (s : _root_.Go.ChangeSpec) : _root_.Go.OpenSpec := { _root_.Go.OpenSpec.ofChange s with cond := some uptoSmall }

/-- 'laws.FnExactProvesLoop', WHERE WHAT IT READS IS OF BULK AT MOST 1048576: true; the input reads as it did. -/
def fnExactProvesLoopUptoRow : OpenClaim := { program := "ytmhiphcnclkhhaa", sum := "215fc63b087429a9b11a61cd576075c874094ddbb3116cf4bc9ee4480a4e65a0", func := "loop.example/dualchoices/laws.FnExactProvesLoop", spec := "fnExactProvesLoop", inPlace := ["internal/bytealg.IndexByteString"], unfollowed := true, recurses := true, apart := false, narrowed := true }
def FnExactProvesLoopUptoSaid : Prop := fnExactProvesLoopUptoRow.holds Try.pinned (OpenSpec.upto fnExactProvesLoopSpec)

/-- 'laws.FnExactRanksOf', WHERE WHAT IT READS IS OF BULK AT MOST 1048576: true; the input reads as it did. -/
def fnExactRanksOfUptoRow : OpenClaim := { program := "ytmhiphcnclkhhaa", sum := "215fc63b087429a9b11a61cd576075c874094ddbb3116cf4bc9ee4480a4e65a0", func := "loop.example/dualchoices/laws.FnExactRanksOf", spec := "fnExactRanksOf", inPlace := ["internal/bytealg.IndexByteString"], apart := false, narrowed := true }
def FnExactRanksOfUptoSaid : Prop := fnExactRanksOfUptoRow.holds Try.pinned (OpenSpec.upto fnExactRanksOfSpec)

/-- 'laws.FnExactUndoOf', WHERE WHAT IT READS IS OF BULK AT MOST 1048576: true; the input reads as it did. -/
def fnExactUndoOfUptoRow : OpenClaim := { program := "ytmhiphcnclkhhaa", sum := "215fc63b087429a9b11a61cd576075c874094ddbb3116cf4bc9ee4480a4e65a0", func := "loop.example/dualchoices/laws.FnExactUndoOf", spec := "fnExactUndoOf", inPlace := ["internal/bytealg.IndexByteString"], unfollowed := true, recurses := true, apart := false, narrowed := true }
def FnExactUndoOfUptoSaid : Prop := fnExactUndoOfUptoRow.holds Try.pinned (OpenSpec.upto fnExactUndoOfSpec)

/-- 'laws.FnExactSplitWhile', WHERE WHAT IT READS IS OF BULK AT MOST 1048576: true; the input reads as it did. -/
def fnExactSplitWhileUptoRow : OpenClaim := { program := "ytmhiphcnclkhhaa", sum := "215fc63b087429a9b11a61cd576075c874094ddbb3116cf4bc9ee4480a4e65a0", func := "loop.example/dualchoices/laws.FnExactSplitWhile", spec := "fnExactSplitWhile", inPlace := ["internal/bytealg.IndexByteString"], unfollowed := true, recurses := true, apart := false, narrowed := true }
def FnExactSplitWhileUptoSaid : Prop := fnExactSplitWhileUptoRow.holds Try.pinned (OpenSpec.upto fnExactSplitWhileSpec)

/-- 'laws.FnPower', WHERE WHAT IT READS IS OF BULK AT MOST 1048576: true; the input reads as it did. -/
def fnPowerUptoRow : OpenClaim := { program := "ytmhiphcnclkhhaa", sum := "215fc63b087429a9b11a61cd576075c874094ddbb3116cf4bc9ee4480a4e65a0", func := "loop.example/dualchoices/laws.FnPower", spec := "fnPower", inPlace := ["internal/bytealg.IndexByteString"], unfollowed := true, recurses := true, apart := false, narrowed := true }
def FnPowerUptoSaid : Prop := fnPowerUptoRow.holds Try.pinned (OpenSpec.upto fnPowerSpec)

/-- 'laws.FnRanks', WHERE WHAT IT READS IS OF BULK AT MOST 1048576: true; the input reads as it did. -/
def fnRanksUptoRow : OpenClaim := { program := "ytmhiphcnclkhhaa", sum := "215fc63b087429a9b11a61cd576075c874094ddbb3116cf4bc9ee4480a4e65a0", func := "loop.example/dualchoices/laws.FnRanks", spec := "fnRanks", inPlace := ["internal/bytealg.IndexByteString"], unfollowed := true, recurses := true, apart := false, narrowed := true }
def FnRanksUptoSaid : Prop := fnRanksUptoRow.holds Try.pinned (OpenSpec.upto fnRanksSpec)

/-- 'laws.FnRolling', WHERE WHAT IT READS IS OF BULK AT MOST 1048576: true; the input reads as it did. -/
def fnRollingUptoRow : OpenClaim := { program := "ytmhiphcnclkhhaa", sum := "215fc63b087429a9b11a61cd576075c874094ddbb3116cf4bc9ee4480a4e65a0", func := "loop.example/dualchoices/laws.FnRolling", spec := "fnRolling", inPlace := ["internal/bytealg.IndexByteString"], unfollowed := true, recurses := true, apart := false, narrowed := true }
def FnRollingUptoSaid : Prop := fnRollingUptoRow.holds Try.pinned (OpenSpec.upto fnRollingSpec)

/-- 'laws.FnInvariant', WHERE WHAT IT READS IS OF BULK AT MOST 1048576: true; the input reads as it did. -/
def fnInvariantUptoRow : OpenClaim := { program := "ytmhiphcnclkhhaa", sum := "215fc63b087429a9b11a61cd576075c874094ddbb3116cf4bc9ee4480a4e65a0", func := "loop.example/dualchoices/laws.FnInvariant", spec := "fnInvariant", inPlace := ["internal/bytealg.IndexByteString"], unfollowed := true, recurses := true, apart := false, narrowed := true }
def FnInvariantUptoSaid : Prop := fnInvariantUptoRow.holds Try.pinned (OpenSpec.upto fnInvariantSpec)

/-- 'laws.FnUnroll', WHERE WHAT IT READS IS OF BULK AT MOST 1048576: true; the input reads as it did. -/
def fnUnrollUptoRow : OpenClaim := { program := "ytmhiphcnclkhhaa", sum := "215fc63b087429a9b11a61cd576075c874094ddbb3116cf4bc9ee4480a4e65a0", func := "loop.example/dualchoices/laws.FnUnroll", spec := "fnUnroll", inPlace := ["internal/bytealg.IndexByteString"], unfollowed := true, recurses := true, apart := false, narrowed := true }
def FnUnrollUptoSaid : Prop := fnUnrollUptoRow.holds Try.pinned (OpenSpec.upto fnUnrollSpec)

/-- 'laws.FnSplit', WHERE WHAT IT READS IS OF BULK AT MOST 1048576: true; the input reads as it did. -/
def fnSplitUptoRow : OpenClaim := { program := "ytmhiphcnclkhhaa", sum := "215fc63b087429a9b11a61cd576075c874094ddbb3116cf4bc9ee4480a4e65a0", func := "loop.example/dualchoices/laws.FnSplit", spec := "fnSplit", inPlace := ["internal/bytealg.IndexByteString"], unfollowed := true, recurses := true, apart := false, narrowed := true }
def FnSplitUptoSaid : Prop := fnSplitUptoRow.holds Try.pinned (OpenSpec.upto fnSplitSpec)

/-- 'laws.FnLeastFrom', WHERE WHAT IT READS IS OF BULK AT MOST 1048576: true; the input reads as it did. -/
def fnLeastFromUptoRow : OpenClaim := { program := "ytmhiphcnclkhhaa", sum := "215fc63b087429a9b11a61cd576075c874094ddbb3116cf4bc9ee4480a4e65a0", func := "loop.example/dualchoices/laws.FnLeastFrom", spec := "fnLeastFrom", inPlace := ["internal/bytealg.IndexByteString"], unfollowed := true, recurses := true, apart := false, narrowed := true }
def FnLeastFromUptoSaid : Prop := fnLeastFromUptoRow.holds Try.pinned (OpenSpec.upto fnLeastFromSpec)

/-- 'laws.FnPoints', WHERE WHAT IT READS IS OF BULK AT MOST 1048576: true; the input reads as it did. -/
def fnPointsUptoRow : OpenClaim := { program := "ytmhiphcnclkhhaa", sum := "215fc63b087429a9b11a61cd576075c874094ddbb3116cf4bc9ee4480a4e65a0", func := "loop.example/dualchoices/laws.FnPoints", spec := "fnPoints", inPlace := ["internal/bytealg.IndexByteString"], unfollowed := true, recurses := true, apart := false, narrowed := true }
def FnPointsUptoSaid : Prop := fnPointsUptoRow.holds Try.pinned (OpenSpec.upto fnPointsSpec)

end Rows
end Go.Proofs.Ytmhiphcnclkhhaa
