/-
  No cell of these rows narrows 'for every input' (looked for: loops, veiled, ifaces, maps, wideKeys, modest, calm, conditions, laid).
  DERIVED. THE GIVEN ROWS OF THIS SEAT. 11 by the template 'for every input the law returns true; each argument reads behind the call as it read before'; 0 by the template 'total and deterministic' (their statements: YtjbfebjdegabaaaTotals.lean).
  GIVEN WITH THE SEED: the statements are not yours to turn. If you find one false, say at which input.
  Laid BY PROGRAM, IN A SANDBOX (cutbox-rows.mjs): the forced cells as the released guide's own fill.sh prints them over the translation d20935dddb1101fc… (all of the seat's roots in one cut). By AI agents, Wed Nov 11 2026. No macro, syntax, notation, axiom, sorry.
-/
import Derived.Test.YtjbfebjdegabaaaChecked
import GoSem.Claim
import GoSem.ClaimJoined
import GoSem.ClaimMapViews
import Derived.JoinedTies
import Derived.KernelRfl
namespace Go.Proofs.Ytjbfebjdegabaaa
/- THE CELL 'sum', in the pinned program and in every row, IS THE sha256 OF THE DUMP (.gsa) THAT YtjbfebjdegabaaaProg.lean LOADS. Nothing in Lean hashes anything: it is a label: what it is worth is what the hold of that sum in a sandbox is worth. -/
noncomputable def Try.pinned : Pinned := { name := "ytjbfebjdegabaaa", sum := "d20935dddb1101fc6b3a121899827e68f1b10d42b2d998c4d0441feccbb597cd", checked := Try.checked }
namespace Rows
def none {H : Type} : Left H := { results := [], args := [] }

/-- 'laws.FnExactDemonOmega': WHATEVER THE INPUT: true; the input reads as it did. -/
def fnExactDemonOmegaSpec : ChangeSpec := { name := "fnExactDemonOmega", fn := fun _ => fun
  | [d] => { results := [.lit (.bool true)], args := [d] }
  | _ => none }
def fnExactDemonOmegaRow : OpenClaim := { program := "ytjbfebjdegabaaa", sum := "d20935dddb1101fc6b3a121899827e68f1b10d42b2d998c4d0441feccbb597cd", func := "loop.example/dualchoices/laws.FnExactDemonOmega", spec := "fnExactDemonOmega", inPlace := ["internal/bytealg.IndexByteString"], unfollowed := true, recurses := true, apart := false }
def FnExactDemonOmegaSaid : Prop := fnExactDemonOmegaRow.holds Try.pinned (OpenSpec.ofChange fnExactDemonOmegaSpec)

/-- ITS FALSE NEIGHBOUR: 'it returns false'. Refute it at one input. -/
def fnExactDemonOmegaWrong : ChangeSpec := { name := "fnExactDemonOmega", fn := fun _ => fun
  | [d] => { results := [.lit (.bool false)], args := [d] }
  | _ => none }
def FnExactDemonOmegaWrongFalsely : Prop := fnExactDemonOmegaRow.holds Try.pinned (OpenSpec.ofChange fnExactDemonOmegaWrong)

/-- 'laws.FnExactDemonStar': WHATEVER THE INPUT: true; the input reads as it did. -/
def fnExactDemonStarSpec : ChangeSpec := { name := "fnExactDemonStar", fn := fun _ => fun
  | [d] => { results := [.lit (.bool true)], args := [d] }
  | _ => none }
def fnExactDemonStarRow : OpenClaim := { program := "ytjbfebjdegabaaa", sum := "d20935dddb1101fc6b3a121899827e68f1b10d42b2d998c4d0441feccbb597cd", func := "loop.example/dualchoices/laws.FnExactDemonStar", spec := "fnExactDemonStar", inPlace := ["internal/bytealg.IndexByteString"], unfollowed := true, recurses := true, apart := false }
def FnExactDemonStarSaid : Prop := fnExactDemonStarRow.holds Try.pinned (OpenSpec.ofChange fnExactDemonStarSpec)

/-- ITS FALSE NEIGHBOUR: 'it returns false'. Refute it at one input. -/
def fnExactDemonStarWrong : ChangeSpec := { name := "fnExactDemonStar", fn := fun _ => fun
  | [d] => { results := [.lit (.bool false)], args := [d] }
  | _ => none }
def FnExactDemonStarWrongFalsely : Prop := fnExactDemonStarRow.holds Try.pinned (OpenSpec.ofChange fnExactDemonStarWrong)

/-- 'laws.FnExactCodeFunction': WHATEVER THE INPUT: true; the input reads as it did. -/
def fnExactCodeFunctionSpec : ChangeSpec := { name := "fnExactCodeFunction", fn := fun _ => fun
  | [d1, d2] => { results := [.lit (.bool true)], args := [d1, d2] }
  | _ => none }
def fnExactCodeFunctionRow : OpenClaim := { program := "ytjbfebjdegabaaa", sum := "d20935dddb1101fc6b3a121899827e68f1b10d42b2d998c4d0441feccbb597cd", func := "loop.example/dualchoices/laws.FnExactCodeFunction", spec := "fnExactCodeFunction", inPlace := ["internal/bytealg.IndexByteString"], unfollowed := true, recurses := true, apart := false }
def FnExactCodeFunctionSaid : Prop := fnExactCodeFunctionRow.holds Try.pinned (OpenSpec.ofChange fnExactCodeFunctionSpec)

/-- ITS FALSE NEIGHBOUR: 'it returns false'. Refute it at one input. -/
def fnExactCodeFunctionWrong : ChangeSpec := { name := "fnExactCodeFunction", fn := fun _ => fun
  | [d1, d2] => { results := [.lit (.bool false)], args := [d1, d2] }
  | _ => none }
def FnExactCodeFunctionWrongFalsely : Prop := fnExactCodeFunctionRow.holds Try.pinned (OpenSpec.ofChange fnExactCodeFunctionWrong)

/-- 'laws.FnExactSpecSequence': WHATEVER THE INPUT: true; the input reads as it did. -/
def fnExactSpecSequenceSpec : ChangeSpec := { name := "fnExactSpecSequence", fn := fun _ => fun
  | [d1, d2, d3, d4] => { results := [.lit (.bool true)], args := [d1, d2, d3, d4] }
  | _ => none }
def fnExactSpecSequenceRow : OpenClaim := { program := "ytjbfebjdegabaaa", sum := "d20935dddb1101fc6b3a121899827e68f1b10d42b2d998c4d0441feccbb597cd", func := "loop.example/dualchoices/laws.FnExactSpecSequence", spec := "fnExactSpecSequence", inPlace := ["internal/bytealg.IndexByteString"], unfollowed := true, recurses := true, apart := false }
def FnExactSpecSequenceSaid : Prop := fnExactSpecSequenceRow.holds Try.pinned (OpenSpec.ofChange fnExactSpecSequenceSpec)

/-- ITS FALSE NEIGHBOUR: 'it returns false'. Refute it at one input. -/
def fnExactSpecSequenceWrong : ChangeSpec := { name := "fnExactSpecSequence", fn := fun _ => fun
  | [d1, d2, d3, d4] => { results := [.lit (.bool false)], args := [d1, d2, d3, d4] }
  | _ => none }
def FnExactSpecSequenceWrongFalsely : Prop := fnExactSpecSequenceRow.holds Try.pinned (OpenSpec.ofChange fnExactSpecSequenceWrong)

/-- 'laws.FnExactBehindDemon': WHATEVER THE INPUT: true; the input reads as it did. -/
def fnExactBehindDemonSpec : ChangeSpec := { name := "fnExactBehindDemon", fn := fun _ => fun
  | [d1, d2] => { results := [.lit (.bool true)], args := [d1, d2] }
  | _ => none }
def fnExactBehindDemonRow : OpenClaim := { program := "ytjbfebjdegabaaa", sum := "d20935dddb1101fc6b3a121899827e68f1b10d42b2d998c4d0441feccbb597cd", func := "loop.example/dualchoices/laws.FnExactBehindDemon", spec := "fnExactBehindDemon", inPlace := ["internal/bytealg.IndexByteString"], unfollowed := true, recurses := true, apart := false }
def FnExactBehindDemonSaid : Prop := fnExactBehindDemonRow.holds Try.pinned (OpenSpec.ofChange fnExactBehindDemonSpec)

/-- ITS FALSE NEIGHBOUR: 'it returns false'. Refute it at one input. -/
def fnExactBehindDemonWrong : ChangeSpec := { name := "fnExactBehindDemon", fn := fun _ => fun
  | [d1, d2] => { results := [.lit (.bool false)], args := [d1, d2] }
  | _ => none }
def FnExactBehindDemonWrongFalsely : Prop := fnExactBehindDemonRow.holds Try.pinned (OpenSpec.ofChange fnExactBehindDemonWrong)

/-- 'laws.FnExactBehindAngel': WHATEVER THE INPUT: true; the input reads as it did. -/
def fnExactBehindAngelSpec : ChangeSpec := { name := "fnExactBehindAngel", fn := fun _ => fun
  | [d1, d2] => { results := [.lit (.bool true)], args := [d1, d2] }
  | _ => none }
def fnExactBehindAngelRow : OpenClaim := { program := "ytjbfebjdegabaaa", sum := "d20935dddb1101fc6b3a121899827e68f1b10d42b2d998c4d0441feccbb597cd", func := "loop.example/dualchoices/laws.FnExactBehindAngel", spec := "fnExactBehindAngel", inPlace := ["internal/bytealg.IndexByteString"], unfollowed := true, recurses := true, apart := false }
def FnExactBehindAngelSaid : Prop := fnExactBehindAngelRow.holds Try.pinned (OpenSpec.ofChange fnExactBehindAngelSpec)

/-- ITS FALSE NEIGHBOUR: 'it returns false'. Refute it at one input. -/
def fnExactBehindAngelWrong : ChangeSpec := { name := "fnExactBehindAngel", fn := fun _ => fun
  | [d1, d2] => { results := [.lit (.bool false)], args := [d1, d2] }
  | _ => none }
def FnExactBehindAngelWrongFalsely : Prop := fnExactBehindAngelRow.holds Try.pinned (OpenSpec.ofChange fnExactBehindAngelWrong)

/-- 'laws.FnExactFindProof': WHATEVER THE INPUT: true; the input reads as it did. -/
def fnExactFindProofSpec : ChangeSpec := { name := "fnExactFindProof", fn := fun _ => fun
  | [d1, d2, d3] => { results := [.lit (.bool true)], args := [d1, d2, d3] }
  | _ => none }
def fnExactFindProofRow : OpenClaim := { program := "ytjbfebjdegabaaa", sum := "d20935dddb1101fc6b3a121899827e68f1b10d42b2d998c4d0441feccbb597cd", func := "loop.example/dualchoices/laws.FnExactFindProof", spec := "fnExactFindProof", inPlace := ["internal/bytealg.IndexByteString"], unfollowed := true, recurses := true, apart := false }
def FnExactFindProofSaid : Prop := fnExactFindProofRow.holds Try.pinned (OpenSpec.ofChange fnExactFindProofSpec)

/-- ITS FALSE NEIGHBOUR: 'it returns false'. Refute it at one input. -/
def fnExactFindProofWrong : ChangeSpec := { name := "fnExactFindProof", fn := fun _ => fun
  | [d1, d2, d3] => { results := [.lit (.bool false)], args := [d1, d2, d3] }
  | _ => none }
def FnExactFindProofWrongFalsely : Prop := fnExactFindProofRow.holds Try.pinned (OpenSpec.ofChange fnExactFindProofWrong)

/-- 'laws.FnExactIsCorrect': WHATEVER THE INPUT: true; the input reads as it did. -/
def fnExactIsCorrectSpec : ChangeSpec := { name := "fnExactIsCorrect", fn := fun _ => fun
  | [d1, d2, d3] => { results := [.lit (.bool true)], args := [d1, d2, d3] }
  | _ => none }
def fnExactIsCorrectRow : OpenClaim := { program := "ytjbfebjdegabaaa", sum := "d20935dddb1101fc6b3a121899827e68f1b10d42b2d998c4d0441feccbb597cd", func := "loop.example/dualchoices/laws.FnExactIsCorrect", spec := "fnExactIsCorrect", inPlace := ["internal/bytealg.IndexByteString"], unfollowed := true, recurses := true, apart := false }
def FnExactIsCorrectSaid : Prop := fnExactIsCorrectRow.holds Try.pinned (OpenSpec.ofChange fnExactIsCorrectSpec)

/-- ITS FALSE NEIGHBOUR: 'it returns false'. Refute it at one input. -/
def fnExactIsCorrectWrong : ChangeSpec := { name := "fnExactIsCorrect", fn := fun _ => fun
  | [d1, d2, d3] => { results := [.lit (.bool false)], args := [d1, d2, d3] }
  | _ => none }
def FnExactIsCorrectWrongFalsely : Prop := fnExactIsCorrectRow.holds Try.pinned (OpenSpec.ofChange fnExactIsCorrectWrong)

/-- 'laws.FnExactMiddleCondition': WHATEVER THE INPUT: true; the input reads as it did. -/
def fnExactMiddleConditionSpec : ChangeSpec := { name := "fnExactMiddleCondition", fn := fun _ => fun
  | [d1, d2, d3] => { results := [.lit (.bool true)], args := [d1, d2, d3] }
  | _ => none }
def fnExactMiddleConditionRow : OpenClaim := { program := "ytjbfebjdegabaaa", sum := "d20935dddb1101fc6b3a121899827e68f1b10d42b2d998c4d0441feccbb597cd", func := "loop.example/dualchoices/laws.FnExactMiddleCondition", spec := "fnExactMiddleCondition", inPlace := ["internal/bytealg.IndexByteString"], unfollowed := true, recurses := true, apart := false }
def FnExactMiddleConditionSaid : Prop := fnExactMiddleConditionRow.holds Try.pinned (OpenSpec.ofChange fnExactMiddleConditionSpec)

/-- ITS FALSE NEIGHBOUR: 'it returns false'. Refute it at one input. -/
def fnExactMiddleConditionWrong : ChangeSpec := { name := "fnExactMiddleCondition", fn := fun _ => fun
  | [d1, d2, d3] => { results := [.lit (.bool false)], args := [d1, d2, d3] }
  | _ => none }
def FnExactMiddleConditionWrongFalsely : Prop := fnExactMiddleConditionRow.holds Try.pinned (OpenSpec.ofChange fnExactMiddleConditionWrong)

/-- 'laws.FnExactMeetsSpec': WHATEVER THE INPUT: true; the input reads as it did. -/
def fnExactMeetsSpecSpec : ChangeSpec := { name := "fnExactMeetsSpec", fn := fun _ => fun
  | [d1, d2, d3] => { results := [.lit (.bool true)], args := [d1, d2, d3] }
  | _ => none }
def fnExactMeetsSpecRow : OpenClaim := { program := "ytjbfebjdegabaaa", sum := "d20935dddb1101fc6b3a121899827e68f1b10d42b2d998c4d0441feccbb597cd", func := "loop.example/dualchoices/laws.FnExactMeetsSpec", spec := "fnExactMeetsSpec", inPlace := ["internal/bytealg.IndexByteString"], unfollowed := true, recurses := true, apart := false }
def FnExactMeetsSpecSaid : Prop := fnExactMeetsSpecRow.holds Try.pinned (OpenSpec.ofChange fnExactMeetsSpecSpec)

/-- ITS FALSE NEIGHBOUR: 'it returns false'. Refute it at one input. -/
def fnExactMeetsSpecWrong : ChangeSpec := { name := "fnExactMeetsSpec", fn := fun _ => fun
  | [d1, d2, d3] => { results := [.lit (.bool false)], args := [d1, d2, d3] }
  | _ => none }
def FnExactMeetsSpecWrongFalsely : Prop := fnExactMeetsSpecRow.holds Try.pinned (OpenSpec.ofChange fnExactMeetsSpecWrong)

/-- 'laws.FnExactWeakestSpec': WHATEVER THE INPUT: true; the input reads as it did. -/
def fnExactWeakestSpecSpec : ChangeSpec := { name := "fnExactWeakestSpec", fn := fun _ => fun
  | [d] => { results := [.lit (.bool true)], args := [d] }
  | _ => none }
def fnExactWeakestSpecRow : OpenClaim := { program := "ytjbfebjdegabaaa", sum := "d20935dddb1101fc6b3a121899827e68f1b10d42b2d998c4d0441feccbb597cd", func := "loop.example/dualchoices/laws.FnExactWeakestSpec", spec := "fnExactWeakestSpec", inPlace := ["internal/bytealg.IndexByteString"], unfollowed := true, recurses := true, apart := false }
def FnExactWeakestSpecSaid : Prop := fnExactWeakestSpecRow.holds Try.pinned (OpenSpec.ofChange fnExactWeakestSpecSpec)

/-- ITS FALSE NEIGHBOUR: 'it returns false'. Refute it at one input. -/
def fnExactWeakestSpecWrong : ChangeSpec := { name := "fnExactWeakestSpec", fn := fun _ => fun
  | [d] => { results := [.lit (.bool false)], args := [d] }
  | _ => none }
def FnExactWeakestSpecWrongFalsely : Prop := fnExactWeakestSpecRow.holds Try.pinned (OpenSpec.ofChange fnExactWeakestSpecWrong)

/- THE SECOND FORM. 'bulk': how many values and letters a reading holds, each counted each time it is reached (what is shared counts as often as it is met; a slice's spare places count too). A statement '..UptoSaid' is the law's where the arguments, and the package variables that the reading takes, are together of bulk at most 1048576: NARROWER than '..Said'. Prove '..Said' where nothing that the law and all that it calls make is longer than what came in: it says more and counts as full. Else prove '..UptoSaid'. A law counts once. -/
mutual
def uptoBulk {H : Type} : DataW H → Nat
  | .lit (.string bytes) => bytes.length + 1
  | .lit _ => 1
  | .nil => 1
  | .ptr d => uptoBulk d + 1
  | .slice elems spare => uptoBulkAll elems + uptoBulkAll spare + 1
  | .agg parts => uptoBulkAll parts + 1
  | .iface _ d => uptoBulk d + 1
  | .map entries => uptoBulkEntries entries + 1
  | .held _ => 1
def uptoBulkAll {H : Type} : List (DataW H) → Nat
  | [] => 0
  | d :: r => uptoBulk d + uptoBulkAll r
def uptoBulkEntries {H : Type} : List (Lit × DataW H) → Nat
  | [] => 0
  | x :: r => uptoBulkEntry x + uptoBulkEntries r
def uptoBulkEntry {H : Type} : Lit × DataW H → Nat
  | (.string bytes, d) => bytes.length + uptoBulk d + 1
  | (_, d) => uptoBulk d + 1
 end
def uptoSmall : (H : Type) → List (DataW H) → Bool := fun _ ds => decide (uptoBulkAll ds ≤ 1048576)
def OpenSpec.upto (s : _root_.Go.ChangeSpec) : _root_.Go.OpenSpec := { _root_.Go.OpenSpec.ofChange s with cond := some uptoSmall }

/-- 'laws.FnExactDemonOmega', WHERE WHAT IT READS IS OF BULK AT MOST 1048576: true; the input reads as it did. -/
def fnExactDemonOmegaUptoRow : OpenClaim := { program := "ytjbfebjdegabaaa", sum := "d20935dddb1101fc6b3a121899827e68f1b10d42b2d998c4d0441feccbb597cd", func := "loop.example/dualchoices/laws.FnExactDemonOmega", spec := "fnExactDemonOmega", inPlace := ["internal/bytealg.IndexByteString"], unfollowed := true, recurses := true, apart := false, narrowed := true }
def FnExactDemonOmegaUptoSaid : Prop := fnExactDemonOmegaUptoRow.holds Try.pinned (OpenSpec.upto fnExactDemonOmegaSpec)

/-- 'laws.FnExactDemonStar', WHERE WHAT IT READS IS OF BULK AT MOST 1048576: true; the input reads as it did. -/
def fnExactDemonStarUptoRow : OpenClaim := { program := "ytjbfebjdegabaaa", sum := "d20935dddb1101fc6b3a121899827e68f1b10d42b2d998c4d0441feccbb597cd", func := "loop.example/dualchoices/laws.FnExactDemonStar", spec := "fnExactDemonStar", inPlace := ["internal/bytealg.IndexByteString"], unfollowed := true, recurses := true, apart := false, narrowed := true }
def FnExactDemonStarUptoSaid : Prop := fnExactDemonStarUptoRow.holds Try.pinned (OpenSpec.upto fnExactDemonStarSpec)

/-- 'laws.FnExactCodeFunction', WHERE WHAT IT READS IS OF BULK AT MOST 1048576: true; the input reads as it did. -/
def fnExactCodeFunctionUptoRow : OpenClaim := { program := "ytjbfebjdegabaaa", sum := "d20935dddb1101fc6b3a121899827e68f1b10d42b2d998c4d0441feccbb597cd", func := "loop.example/dualchoices/laws.FnExactCodeFunction", spec := "fnExactCodeFunction", inPlace := ["internal/bytealg.IndexByteString"], unfollowed := true, recurses := true, apart := false, narrowed := true }
def FnExactCodeFunctionUptoSaid : Prop := fnExactCodeFunctionUptoRow.holds Try.pinned (OpenSpec.upto fnExactCodeFunctionSpec)

/-- 'laws.FnExactSpecSequence', WHERE WHAT IT READS IS OF BULK AT MOST 1048576: true; the input reads as it did. -/
def fnExactSpecSequenceUptoRow : OpenClaim := { program := "ytjbfebjdegabaaa", sum := "d20935dddb1101fc6b3a121899827e68f1b10d42b2d998c4d0441feccbb597cd", func := "loop.example/dualchoices/laws.FnExactSpecSequence", spec := "fnExactSpecSequence", inPlace := ["internal/bytealg.IndexByteString"], unfollowed := true, recurses := true, apart := false, narrowed := true }
def FnExactSpecSequenceUptoSaid : Prop := fnExactSpecSequenceUptoRow.holds Try.pinned (OpenSpec.upto fnExactSpecSequenceSpec)

/-- 'laws.FnExactBehindDemon', WHERE WHAT IT READS IS OF BULK AT MOST 1048576: true; the input reads as it did. -/
def fnExactBehindDemonUptoRow : OpenClaim := { program := "ytjbfebjdegabaaa", sum := "d20935dddb1101fc6b3a121899827e68f1b10d42b2d998c4d0441feccbb597cd", func := "loop.example/dualchoices/laws.FnExactBehindDemon", spec := "fnExactBehindDemon", inPlace := ["internal/bytealg.IndexByteString"], unfollowed := true, recurses := true, apart := false, narrowed := true }
def FnExactBehindDemonUptoSaid : Prop := fnExactBehindDemonUptoRow.holds Try.pinned (OpenSpec.upto fnExactBehindDemonSpec)

/-- 'laws.FnExactBehindAngel', WHERE WHAT IT READS IS OF BULK AT MOST 1048576: true; the input reads as it did. -/
def fnExactBehindAngelUptoRow : OpenClaim := { program := "ytjbfebjdegabaaa", sum := "d20935dddb1101fc6b3a121899827e68f1b10d42b2d998c4d0441feccbb597cd", func := "loop.example/dualchoices/laws.FnExactBehindAngel", spec := "fnExactBehindAngel", inPlace := ["internal/bytealg.IndexByteString"], unfollowed := true, recurses := true, apart := false, narrowed := true }
def FnExactBehindAngelUptoSaid : Prop := fnExactBehindAngelUptoRow.holds Try.pinned (OpenSpec.upto fnExactBehindAngelSpec)

/-- 'laws.FnExactFindProof', WHERE WHAT IT READS IS OF BULK AT MOST 1048576: true; the input reads as it did. -/
def fnExactFindProofUptoRow : OpenClaim := { program := "ytjbfebjdegabaaa", sum := "d20935dddb1101fc6b3a121899827e68f1b10d42b2d998c4d0441feccbb597cd", func := "loop.example/dualchoices/laws.FnExactFindProof", spec := "fnExactFindProof", inPlace := ["internal/bytealg.IndexByteString"], unfollowed := true, recurses := true, apart := false, narrowed := true }
def FnExactFindProofUptoSaid : Prop := fnExactFindProofUptoRow.holds Try.pinned (OpenSpec.upto fnExactFindProofSpec)

/-- 'laws.FnExactIsCorrect', WHERE WHAT IT READS IS OF BULK AT MOST 1048576: true; the input reads as it did. -/
def fnExactIsCorrectUptoRow : OpenClaim := { program := "ytjbfebjdegabaaa", sum := "d20935dddb1101fc6b3a121899827e68f1b10d42b2d998c4d0441feccbb597cd", func := "loop.example/dualchoices/laws.FnExactIsCorrect", spec := "fnExactIsCorrect", inPlace := ["internal/bytealg.IndexByteString"], unfollowed := true, recurses := true, apart := false, narrowed := true }
def FnExactIsCorrectUptoSaid : Prop := fnExactIsCorrectUptoRow.holds Try.pinned (OpenSpec.upto fnExactIsCorrectSpec)

/-- 'laws.FnExactMiddleCondition', WHERE WHAT IT READS IS OF BULK AT MOST 1048576: true; the input reads as it did. -/
def fnExactMiddleConditionUptoRow : OpenClaim := { program := "ytjbfebjdegabaaa", sum := "d20935dddb1101fc6b3a121899827e68f1b10d42b2d998c4d0441feccbb597cd", func := "loop.example/dualchoices/laws.FnExactMiddleCondition", spec := "fnExactMiddleCondition", inPlace := ["internal/bytealg.IndexByteString"], unfollowed := true, recurses := true, apart := false, narrowed := true }
def FnExactMiddleConditionUptoSaid : Prop := fnExactMiddleConditionUptoRow.holds Try.pinned (OpenSpec.upto fnExactMiddleConditionSpec)

/-- 'laws.FnExactMeetsSpec', WHERE WHAT IT READS IS OF BULK AT MOST 1048576: true; the input reads as it did. -/
def fnExactMeetsSpecUptoRow : OpenClaim := { program := "ytjbfebjdegabaaa", sum := "d20935dddb1101fc6b3a121899827e68f1b10d42b2d998c4d0441feccbb597cd", func := "loop.example/dualchoices/laws.FnExactMeetsSpec", spec := "fnExactMeetsSpec", inPlace := ["internal/bytealg.IndexByteString"], unfollowed := true, recurses := true, apart := false, narrowed := true }
def FnExactMeetsSpecUptoSaid : Prop := fnExactMeetsSpecUptoRow.holds Try.pinned (OpenSpec.upto fnExactMeetsSpecSpec)

/-- 'laws.FnExactWeakestSpec', WHERE WHAT IT READS IS OF BULK AT MOST 1048576: true; the input reads as it did. -/
def fnExactWeakestSpecUptoRow : OpenClaim := { program := "ytjbfebjdegabaaa", sum := "d20935dddb1101fc6b3a121899827e68f1b10d42b2d998c4d0441feccbb597cd", func := "loop.example/dualchoices/laws.FnExactWeakestSpec", spec := "fnExactWeakestSpec", inPlace := ["internal/bytealg.IndexByteString"], unfollowed := true, recurses := true, apart := false, narrowed := true }
def FnExactWeakestSpecUptoSaid : Prop := fnExactWeakestSpecUptoRow.holds Try.pinned (OpenSpec.upto fnExactWeakestSpecSpec)

end Rows
end Go.Proofs.Ytjbfebjdegabaaa
