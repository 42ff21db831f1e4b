/-
  No cell of these rows narrows 'for every input' (looked for: loops, veiled, ifaces, maps, wideKeys, modest, calm, conditions, laid).
  DERIVED. THE GIVEN ROWS OF THIS SEAT. 12 by the template 'for every input the law returns true; each argument reads behind the call as it read before'; 0 by the template 'total and deterministic' (their statements: YtdmfgcldbcoclaaTotals.lean).
  GIVEN WITH THE SEED: the statements are not yours to turn. If you find one false, say at which input.
  Laid BY PROGRAM, IN A SANDBOX (cutbox-rows.mjs): the forced cells as the released guide's own fill.sh prints them over the translation ea58bdf90c8824fb… (all of the seat's roots in one cut). By AI agents, Wed Nov 11 2026. No macro, syntax, notation, axiom, sorry.
-/
import Derived.Test.YtdmfgcldbcoclaaChecked
import GoSem.Claim
import GoSem.ClaimJoined
import GoSem.ClaimMapViews
import Derived.JoinedTies
import Derived.KernelRfl
namespace Go.Proofs.Ytdmfgcldbcoclaa
/- THE CELL 'sum', in the pinned program and in every row, IS THE sha256 OF THE DUMP (.gsa) THAT YtdmfgcldbcoclaaProg.lean LOADS. Nothing in Lean hashes anything: it is a label: what it is worth is what the hold of that sum in a sandbox is worth. -/
noncomputable def Try.pinned : Pinned := { name := "ytdmfgcldbcoclaa", sum := "ea58bdf90c8824fbaf31dc311b7d0242f0a89da4f6c26649184be510672bf66f", checked := Try.checked }
namespace Rows
def none {H : Type} : Left H := { results := [], args := [] }

/-- 'laws.FnExactAssignCode': WHATEVER THE INPUT: true; the input reads as it did. -/
def fnExactAssignCodeSpec : ChangeSpec := { name := "fnExactAssignCode", fn := fun _ => fun
  | [d1, d2] => { results := [.lit (.bool true)], args := [d1, d2] }
  | _ => none }
def fnExactAssignCodeRow : OpenClaim := { program := "ytdmfgcldbcoclaa", sum := "ea58bdf90c8824fbaf31dc311b7d0242f0a89da4f6c26649184be510672bf66f", func := "loop.example/dualchoices/laws.FnExactAssignCode", spec := "fnExactAssignCode", unfollowed := true, recurses := true, apart := false }
def FnExactAssignCodeSaid : Prop := fnExactAssignCodeRow.holds Try.pinned (OpenSpec.ofChange fnExactAssignCodeSpec)

/-- ITS FALSE NEIGHBOUR: 'it returns false'. Refute it at one input. -/
def fnExactAssignCodeWrong : ChangeSpec := { name := "fnExactAssignCode", fn := fun _ => fun
  | [d1, d2] => { results := [.lit (.bool false)], args := [d1, d2] }
  | _ => none }
def FnExactAssignCodeWrongFalsely : Prop := fnExactAssignCodeRow.holds Try.pinned (OpenSpec.ofChange fnExactAssignCodeWrong)

/-- 'laws.FnExactCodeSpec': WHATEVER THE INPUT: true; the input reads as it did. -/
def fnExactCodeSpecSpec : ChangeSpec := { name := "fnExactCodeSpec", fn := fun _ => fun
  | [d1, d2] => { results := [.lit (.bool true)], args := [d1, d2] }
  | _ => none }
def fnExactCodeSpecRow : OpenClaim := { program := "ytdmfgcldbcoclaa", sum := "ea58bdf90c8824fbaf31dc311b7d0242f0a89da4f6c26649184be510672bf66f", func := "loop.example/dualchoices/laws.FnExactCodeSpec", spec := "fnExactCodeSpec", inPlace := ["internal/bytealg.IndexByteString"], apart := false }
def FnExactCodeSpecSaid : Prop := fnExactCodeSpecRow.holds Try.pinned (OpenSpec.ofChange fnExactCodeSpecSpec)

/-- ITS FALSE NEIGHBOUR: 'it returns false'. Refute it at one input. -/
def fnExactCodeSpecWrong : ChangeSpec := { name := "fnExactCodeSpec", fn := fun _ => fun
  | [d1, d2] => { results := [.lit (.bool false)], args := [d1, d2] }
  | _ => none }
def FnExactCodeSpecWrongFalsely : Prop := fnExactCodeSpecRow.holds Try.pinned (OpenSpec.ofChange fnExactCodeSpecWrong)

/-- 'laws.FnExactSpecWeaker': WHATEVER THE INPUT: true; the input reads as it did. -/
def fnExactSpecWeakerSpec : ChangeSpec := { name := "fnExactSpecWeaker", fn := fun _ => fun
  | [d1, d2, d3, d4] => { results := [.lit (.bool true)], args := [d1, d2, d3, d4] }
  | _ => none }
def fnExactSpecWeakerRow : OpenClaim := { program := "ytdmfgcldbcoclaa", sum := "ea58bdf90c8824fbaf31dc311b7d0242f0a89da4f6c26649184be510672bf66f", func := "loop.example/dualchoices/laws.FnExactSpecWeaker", spec := "fnExactSpecWeaker", inPlace := ["internal/bytealg.IndexByteString"], apart := false }
def FnExactSpecWeakerSaid : Prop := fnExactSpecWeakerRow.holds Try.pinned (OpenSpec.ofChange fnExactSpecWeakerSpec)

/-- ITS FALSE NEIGHBOUR: 'it returns false'. Refute it at one input. -/
def fnExactSpecWeakerWrong : ChangeSpec := { name := "fnExactSpecWeaker", fn := fun _ => fun
  | [d1, d2, d3, d4] => { results := [.lit (.bool false)], args := [d1, d2, d3, d4] }
  | _ => none }
def FnExactSpecWeakerWrongFalsely : Prop := fnExactSpecWeakerRow.holds Try.pinned (OpenSpec.ofChange fnExactSpecWeakerWrong)

/-- 'laws.FnExactKeepsInvariant': WHATEVER THE INPUT: true; the input reads as it did. -/
def fnExactKeepsInvariantSpec : ChangeSpec := { name := "fnExactKeepsInvariant", fn := fun _ => fun
  | [d1, d2, d3] => { results := [.lit (.bool true)], args := [d1, d2, d3] }
  | _ => none }
def fnExactKeepsInvariantRow : OpenClaim := { program := "ytdmfgcldbcoclaa", sum := "ea58bdf90c8824fbaf31dc311b7d0242f0a89da4f6c26649184be510672bf66f", func := "loop.example/dualchoices/laws.FnExactKeepsInvariant", spec := "fnExactKeepsInvariant", inPlace := ["internal/bytealg.IndexByteString"], apart := false }
def FnExactKeepsInvariantSaid : Prop := fnExactKeepsInvariantRow.holds Try.pinned (OpenSpec.ofChange fnExactKeepsInvariantSpec)

/-- ITS FALSE NEIGHBOUR: 'it returns false'. Refute it at one input. -/
def fnExactKeepsInvariantWrong : ChangeSpec := { name := "fnExactKeepsInvariant", fn := fun _ => fun
  | [d1, d2, d3] => { results := [.lit (.bool false)], args := [d1, d2, d3] }
  | _ => none }
def FnExactKeepsInvariantWrongFalsely : Prop := fnExactKeepsInvariantRow.holds Try.pinned (OpenSpec.ofChange fnExactKeepsInvariantWrong)

/-- 'laws.FnExactPointsOf': WHATEVER THE INPUT: true; the input reads as it did. -/
def fnExactPointsOfSpec : ChangeSpec := { name := "fnExactPointsOf", fn := fun _ => fun
  | [d] => { results := [.lit (.bool true)], args := [d] }
  | _ => none }
def fnExactPointsOfRow : OpenClaim := { program := "ytdmfgcldbcoclaa", sum := "ea58bdf90c8824fbaf31dc311b7d0242f0a89da4f6c26649184be510672bf66f", func := "loop.example/dualchoices/laws.FnExactPointsOf", spec := "fnExactPointsOf", inPlace := ["internal/bytealg.IndexByteString"], unfollowed := true, recurses := true, apart := false }
def FnExactPointsOfSaid : Prop := fnExactPointsOfRow.holds Try.pinned (OpenSpec.ofChange fnExactPointsOfSpec)

/-- ITS FALSE NEIGHBOUR: 'it returns false'. Refute it at one input. -/
def fnExactPointsOfWrong : ChangeSpec := { name := "fnExactPointsOf", fn := fun _ => fun
  | [d] => { results := [.lit (.bool false)], args := [d] }
  | _ => none }
def FnExactPointsOfWrongFalsely : Prop := fnExactPointsOfRow.holds Try.pinned (OpenSpec.ofChange fnExactPointsOfWrong)

/-- 'laws.FnExactLeastPoint': WHATEVER THE INPUT: true; the input reads as it did. -/
def fnExactLeastPointSpec : ChangeSpec := { name := "fnExactLeastPoint", fn := fun _ => fun
  | [d] => { results := [.lit (.bool true)], args := [d] }
  | _ => none }
def fnExactLeastPointRow : OpenClaim := { program := "ytdmfgcldbcoclaa", sum := "ea58bdf90c8824fbaf31dc311b7d0242f0a89da4f6c26649184be510672bf66f", func := "loop.example/dualchoices/laws.FnExactLeastPoint", spec := "fnExactLeastPoint", inPlace := ["internal/bytealg.IndexByteString"], unfollowed := true, recurses := true, apart := false }
def FnExactLeastPointSaid : Prop := fnExactLeastPointRow.holds Try.pinned (OpenSpec.ofChange fnExactLeastPointSpec)

/-- ITS FALSE NEIGHBOUR: 'it returns false'. Refute it at one input. -/
def fnExactLeastPointWrong : ChangeSpec := { name := "fnExactLeastPoint", fn := fun _ => fun
  | [d] => { results := [.lit (.bool false)], args := [d] }
  | _ => none }
def FnExactLeastPointWrongFalsely : Prop := fnExactLeastPointRow.holds Try.pinned (OpenSpec.ofChange fnExactLeastPointWrong)

/-- 'laws.FnExactGreatestIn': WHATEVER THE INPUT: true; the input reads as it did. -/
def fnExactGreatestInSpec : ChangeSpec := { name := "fnExactGreatestIn", fn := fun _ => fun
  | [d1, d2] => { results := [.lit (.bool true)], args := [d1, d2] }
  | _ => none }
def fnExactGreatestInRow : OpenClaim := { program := "ytdmfgcldbcoclaa", sum := "ea58bdf90c8824fbaf31dc311b7d0242f0a89da4f6c26649184be510672bf66f", func := "loop.example/dualchoices/laws.FnExactGreatestIn", spec := "fnExactGreatestIn", inPlace := ["internal/bytealg.IndexByteString"], unfollowed := true, recurses := true, apart := false }
def FnExactGreatestInSaid : Prop := fnExactGreatestInRow.holds Try.pinned (OpenSpec.ofChange fnExactGreatestInSpec)

/-- ITS FALSE NEIGHBOUR: 'it returns false'. Refute it at one input. -/
def fnExactGreatestInWrong : ChangeSpec := { name := "fnExactGreatestIn", fn := fun _ => fun
  | [d1, d2] => { results := [.lit (.bool false)], args := [d1, d2] }
  | _ => none }
def FnExactGreatestInWrongFalsely : Prop := fnExactGreatestInRow.holds Try.pinned (OpenSpec.ofChange fnExactGreatestInWrong)

/-- 'laws.FnExactLeastFrom': WHATEVER THE INPUT: true; the input reads as it did. -/
def fnExactLeastFromSpec : ChangeSpec := { name := "fnExactLeastFrom", fn := fun _ => fun
  | [d1, d2] => { results := [.lit (.bool true)], args := [d1, d2] }
  | _ => none }
def fnExactLeastFromRow : OpenClaim := { program := "ytdmfgcldbcoclaa", sum := "ea58bdf90c8824fbaf31dc311b7d0242f0a89da4f6c26649184be510672bf66f", func := "loop.example/dualchoices/laws.FnExactLeastFrom", spec := "fnExactLeastFrom", inPlace := ["internal/bytealg.IndexByteString"], unfollowed := true, recurses := true, apart := false }
def FnExactLeastFromSaid : Prop := fnExactLeastFromRow.holds Try.pinned (OpenSpec.ofChange fnExactLeastFromSpec)

/-- ITS FALSE NEIGHBOUR: 'it returns false'. Refute it at one input. -/
def fnExactLeastFromWrong : ChangeSpec := { name := "fnExactLeastFrom", fn := fun _ => fun
  | [d1, d2] => { results := [.lit (.bool false)], args := [d1, d2] }
  | _ => none }
def FnExactLeastFromWrongFalsely : Prop := fnExactLeastFromRow.holds Try.pinned (OpenSpec.ofChange fnExactLeastFromWrong)

/-- 'laws.FnExactSpecMeet': WHATEVER THE INPUT: true; the input reads as it did. -/
def fnExactSpecMeetSpec : ChangeSpec := { name := "fnExactSpecMeet", fn := fun _ => fun
  | [d1, d2, d3, d4] => { results := [.lit (.bool true)], args := [d1, d2, d3, d4] }
  | _ => none }
def fnExactSpecMeetRow : OpenClaim := { program := "ytdmfgcldbcoclaa", sum := "ea58bdf90c8824fbaf31dc311b7d0242f0a89da4f6c26649184be510672bf66f", func := "loop.example/dualchoices/laws.FnExactSpecMeet", spec := "fnExactSpecMeet", inPlace := ["internal/bytealg.IndexByteString"], apart := false }
def FnExactSpecMeetSaid : Prop := fnExactSpecMeetRow.holds Try.pinned (OpenSpec.ofChange fnExactSpecMeetSpec)

/-- ITS FALSE NEIGHBOUR: 'it returns false'. Refute it at one input. -/
def fnExactSpecMeetWrong : ChangeSpec := { name := "fnExactSpecMeet", fn := fun _ => fun
  | [d1, d2, d3, d4] => { results := [.lit (.bool false)], args := [d1, d2, d3, d4] }
  | _ => none }
def FnExactSpecMeetWrongFalsely : Prop := fnExactSpecMeetRow.holds Try.pinned (OpenSpec.ofChange fnExactSpecMeetWrong)

/-- 'laws.FnExactCanGoBefore': WHATEVER THE INPUT: true; the input reads as it did. -/
def fnExactCanGoBeforeSpec : ChangeSpec := { name := "fnExactCanGoBefore", fn := fun _ => fun
  | [d1, d2] => { results := [.lit (.bool true)], args := [d1, d2] }
  | _ => none }
def fnExactCanGoBeforeRow : OpenClaim := { program := "ytdmfgcldbcoclaa", sum := "ea58bdf90c8824fbaf31dc311b7d0242f0a89da4f6c26649184be510672bf66f", func := "loop.example/dualchoices/laws.FnExactCanGoBefore", spec := "fnExactCanGoBefore", inPlace := ["internal/bytealg.IndexByteString"], unfollowed := true, recurses := true, apart := false }
def FnExactCanGoBeforeSaid : Prop := fnExactCanGoBeforeRow.holds Try.pinned (OpenSpec.ofChange fnExactCanGoBeforeSpec)

/-- ITS FALSE NEIGHBOUR: 'it returns false'. Refute it at one input. -/
def fnExactCanGoBeforeWrong : ChangeSpec := { name := "fnExactCanGoBefore", fn := fun _ => fun
  | [d1, d2] => { results := [.lit (.bool false)], args := [d1, d2] }
  | _ => none }
def FnExactCanGoBeforeWrongFalsely : Prop := fnExactCanGoBeforeRow.holds Try.pinned (OpenSpec.ofChange fnExactCanGoBeforeWrong)

/-- 'laws.FnExactUnrollWhile': WHATEVER THE INPUT: true; the input reads as it did. -/
def fnExactUnrollWhileSpec : ChangeSpec := { name := "fnExactUnrollWhile", fn := fun _ => fun
  | [d1, d2, d3, d4] => { results := [.lit (.bool true)], args := [d1, d2, d3, d4] }
  | _ => none }
def fnExactUnrollWhileRow : OpenClaim := { program := "ytdmfgcldbcoclaa", sum := "ea58bdf90c8824fbaf31dc311b7d0242f0a89da4f6c26649184be510672bf66f", func := "loop.example/dualchoices/laws.FnExactUnrollWhile", spec := "fnExactUnrollWhile", inPlace := ["internal/bytealg.IndexByteString"], unfollowed := true, recurses := true, apart := false }
def FnExactUnrollWhileSaid : Prop := fnExactUnrollWhileRow.holds Try.pinned (OpenSpec.ofChange fnExactUnrollWhileSpec)

/-- ITS FALSE NEIGHBOUR: 'it returns false'. Refute it at one input. -/
def fnExactUnrollWhileWrong : ChangeSpec := { name := "fnExactUnrollWhile", fn := fun _ => fun
  | [d1, d2, d3, d4] => { results := [.lit (.bool false)], args := [d1, d2, d3, d4] }
  | _ => none }
def FnExactUnrollWhileWrongFalsely : Prop := fnExactUnrollWhileRow.holds Try.pinned (OpenSpec.ofChange fnExactUnrollWhileWrong)

/-- 'laws.FnExactPowerTrans': WHATEVER THE INPUT: true; the input reads as it did. -/
def fnExactPowerTransSpec : ChangeSpec := { name := "fnExactPowerTrans", fn := fun _ => fun
  | [d1, d2] => { results := [.lit (.bool true)], args := [d1, d2] }
  | _ => none }
def fnExactPowerTransRow : OpenClaim := { program := "ytdmfgcldbcoclaa", sum := "ea58bdf90c8824fbaf31dc311b7d0242f0a89da4f6c26649184be510672bf66f", func := "loop.example/dualchoices/laws.FnExactPowerTrans", spec := "fnExactPowerTrans", inPlace := ["internal/bytealg.IndexByteString"], unfollowed := true, recurses := true, apart := false }
def FnExactPowerTransSaid : Prop := fnExactPowerTransRow.holds Try.pinned (OpenSpec.ofChange fnExactPowerTransSpec)

/-- ITS FALSE NEIGHBOUR: 'it returns false'. Refute it at one input. -/
def fnExactPowerTransWrong : ChangeSpec := { name := "fnExactPowerTrans", fn := fun _ => fun
  | [d1, d2] => { results := [.lit (.bool false)], args := [d1, d2] }
  | _ => none }
def FnExactPowerTransWrongFalsely : Prop := fnExactPowerTransRow.holds Try.pinned (OpenSpec.ofChange fnExactPowerTransWrong)

/- THE SECOND FORM. 'bulk': how many values and letters a reading holds, each counted each time it is reached (what is shared counts as often as it is met; a slice's spare places count too). A statement '..UptoSaid' is the law's where the arguments, and the package variables that the reading takes, are together of bulk at most 1048576: NARROWER than '..Said'. Prove '..Said' where nothing that the law and all that it calls make is longer than what came in: it says more and counts as full. Else prove '..UptoSaid'. A law counts once. -/
mutual
def uptoBulk {H : Type} : DataW H → Nat
  | .lit (.string bytes) => bytes.length + 1
  | .lit _ => 1
  | .nil => 1
  | .ptr d => uptoBulk d + 1
  | .slice elems spare => uptoBulkAll elems + uptoBulkAll spare + 1
  | .agg parts => uptoBulkAll parts + 1
  | .iface _ d => uptoBulk d + 1
  | .map entries => uptoBulkEntries entries + 1
  | .held _ => 1
def uptoBulkAll {H : Type} : List (DataW H) → Nat
  | [] => 0
  | d :: r => uptoBulk d + uptoBulkAll r
def uptoBulkEntries {H : Type} : List (Lit × DataW H) → Nat
  | [] => 0
  | x :: r => uptoBulkEntry x + uptoBulkEntries r
def uptoBulkEntry {H : Type} : Lit × DataW H → Nat
  | (.string bytes, d) => bytes.length + uptoBulk d + 1
  | (_, d) => uptoBulk d + 1
 end
def uptoSmall : (H : Type) → List (DataW H) → Bool := fun _ ds => decide (uptoBulkAll ds ≤ 1048576)
def OpenSpec.upto (s : _root_.Go.ChangeSpec) : _root_.Go.OpenSpec := { _root_.Go.OpenSpec.ofChange s with cond := some uptoSmall }

/-- 'laws.FnExactAssignCode', WHERE WHAT IT READS IS OF BULK AT MOST 1048576: true; the input reads as it did. -/
def fnExactAssignCodeUptoRow : OpenClaim := { program := "ytdmfgcldbcoclaa", sum := "ea58bdf90c8824fbaf31dc311b7d0242f0a89da4f6c26649184be510672bf66f", func := "loop.example/dualchoices/laws.FnExactAssignCode", spec := "fnExactAssignCode", unfollowed := true, recurses := true, apart := false, narrowed := true }
def FnExactAssignCodeUptoSaid : Prop := fnExactAssignCodeUptoRow.holds Try.pinned (OpenSpec.upto fnExactAssignCodeSpec)

/-- 'laws.FnExactCodeSpec', WHERE WHAT IT READS IS OF BULK AT MOST 1048576: true; the input reads as it did. -/
def fnExactCodeSpecUptoRow : OpenClaim := { program := "ytdmfgcldbcoclaa", sum := "ea58bdf90c8824fbaf31dc311b7d0242f0a89da4f6c26649184be510672bf66f", func := "loop.example/dualchoices/laws.FnExactCodeSpec", spec := "fnExactCodeSpec", inPlace := ["internal/bytealg.IndexByteString"], apart := false, narrowed := true }
def FnExactCodeSpecUptoSaid : Prop := fnExactCodeSpecUptoRow.holds Try.pinned (OpenSpec.upto fnExactCodeSpecSpec)

/-- 'laws.FnExactSpecWeaker', WHERE WHAT IT READS IS OF BULK AT MOST 1048576: true; the input reads as it did. -/
def fnExactSpecWeakerUptoRow : OpenClaim := { program := "ytdmfgcldbcoclaa", sum := "ea58bdf90c8824fbaf31dc311b7d0242f0a89da4f6c26649184be510672bf66f", func := "loop.example/dualchoices/laws.FnExactSpecWeaker", spec := "fnExactSpecWeaker", inPlace := ["internal/bytealg.IndexByteString"], apart := false, narrowed := true }
def FnExactSpecWeakerUptoSaid : Prop := fnExactSpecWeakerUptoRow.holds Try.pinned (OpenSpec.upto fnExactSpecWeakerSpec)

/-- 'laws.FnExactKeepsInvariant', WHERE WHAT IT READS IS OF BULK AT MOST 1048576: true; the input reads as it did. -/
def fnExactKeepsInvariantUptoRow : OpenClaim := { program := "ytdmfgcldbcoclaa", sum := "ea58bdf90c8824fbaf31dc311b7d0242f0a89da4f6c26649184be510672bf66f", func := "loop.example/dualchoices/laws.FnExactKeepsInvariant", spec := "fnExactKeepsInvariant", inPlace := ["internal/bytealg.IndexByteString"], apart := false, narrowed := true }
def FnExactKeepsInvariantUptoSaid : Prop := fnExactKeepsInvariantUptoRow.holds Try.pinned (OpenSpec.upto fnExactKeepsInvariantSpec)

/-- 'laws.FnExactPointsOf', WHERE WHAT IT READS IS OF BULK AT MOST 1048576: true; the input reads as it did. -/
def fnExactPointsOfUptoRow : OpenClaim := { program := "ytdmfgcldbcoclaa", sum := "ea58bdf90c8824fbaf31dc311b7d0242f0a89da4f6c26649184be510672bf66f", func := "loop.example/dualchoices/laws.FnExactPointsOf", spec := "fnExactPointsOf", inPlace := ["internal/bytealg.IndexByteString"], unfollowed := true, recurses := true, apart := false, narrowed := true }
def FnExactPointsOfUptoSaid : Prop := fnExactPointsOfUptoRow.holds Try.pinned (OpenSpec.upto fnExactPointsOfSpec)

/-- 'laws.FnExactLeastPoint', WHERE WHAT IT READS IS OF BULK AT MOST 1048576: true; the input reads as it did. -/
def fnExactLeastPointUptoRow : OpenClaim := { program := "ytdmfgcldbcoclaa", sum := "ea58bdf90c8824fbaf31dc311b7d0242f0a89da4f6c26649184be510672bf66f", func := "loop.example/dualchoices/laws.FnExactLeastPoint", spec := "fnExactLeastPoint", inPlace := ["internal/bytealg.IndexByteString"], unfollowed := true, recurses := true, apart := false, narrowed := true }
def FnExactLeastPointUptoSaid : Prop := fnExactLeastPointUptoRow.holds Try.pinned (OpenSpec.upto fnExactLeastPointSpec)

/-- 'laws.FnExactGreatestIn', WHERE WHAT IT READS IS OF BULK AT MOST 1048576: true; the input reads as it did. -/
def fnExactGreatestInUptoRow : OpenClaim := { program := "ytdmfgcldbcoclaa", sum := "ea58bdf90c8824fbaf31dc311b7d0242f0a89da4f6c26649184be510672bf66f", func := "loop.example/dualchoices/laws.FnExactGreatestIn", spec := "fnExactGreatestIn", inPlace := ["internal/bytealg.IndexByteString"], unfollowed := true, recurses := true, apart := false, narrowed := true }
def FnExactGreatestInUptoSaid : Prop := fnExactGreatestInUptoRow.holds Try.pinned (OpenSpec.upto fnExactGreatestInSpec)

/-- 'laws.FnExactLeastFrom', WHERE WHAT IT READS IS OF BULK AT MOST 1048576: true; the input reads as it did. -/
def fnExactLeastFromUptoRow : OpenClaim := { program := "ytdmfgcldbcoclaa", sum := "ea58bdf90c8824fbaf31dc311b7d0242f0a89da4f6c26649184be510672bf66f", func := "loop.example/dualchoices/laws.FnExactLeastFrom", spec := "fnExactLeastFrom", inPlace := ["internal/bytealg.IndexByteString"], unfollowed := true, recurses := true, apart := false, narrowed := true }
def FnExactLeastFromUptoSaid : Prop := fnExactLeastFromUptoRow.holds Try.pinned (OpenSpec.upto fnExactLeastFromSpec)

/-- 'laws.FnExactSpecMeet', WHERE WHAT IT READS IS OF BULK AT MOST 1048576: true; the input reads as it did. -/
def fnExactSpecMeetUptoRow : OpenClaim := { program := "ytdmfgcldbcoclaa", sum := "ea58bdf90c8824fbaf31dc311b7d0242f0a89da4f6c26649184be510672bf66f", func := "loop.example/dualchoices/laws.FnExactSpecMeet", spec := "fnExactSpecMeet", inPlace := ["internal/bytealg.IndexByteString"], apart := false, narrowed := true }
def FnExactSpecMeetUptoSaid : Prop := fnExactSpecMeetUptoRow.holds Try.pinned (OpenSpec.upto fnExactSpecMeetSpec)

/-- 'laws.FnExactCanGoBefore', WHERE WHAT IT READS IS OF BULK AT MOST 1048576: true; the input reads as it did. -/
def fnExactCanGoBeforeUptoRow : OpenClaim := { program := "ytdmfgcldbcoclaa", sum := "ea58bdf90c8824fbaf31dc311b7d0242f0a89da4f6c26649184be510672bf66f", func := "loop.example/dualchoices/laws.FnExactCanGoBefore", spec := "fnExactCanGoBefore", inPlace := ["internal/bytealg.IndexByteString"], unfollowed := true, recurses := true, apart := false, narrowed := true }
def FnExactCanGoBeforeUptoSaid : Prop := fnExactCanGoBeforeUptoRow.holds Try.pinned (OpenSpec.upto fnExactCanGoBeforeSpec)

/-- 'laws.FnExactUnrollWhile', WHERE WHAT IT READS IS OF BULK AT MOST 1048576: true; the input reads as it did. -/
def fnExactUnrollWhileUptoRow : OpenClaim := { program := "ytdmfgcldbcoclaa", sum := "ea58bdf90c8824fbaf31dc311b7d0242f0a89da4f6c26649184be510672bf66f", func := "loop.example/dualchoices/laws.FnExactUnrollWhile", spec := "fnExactUnrollWhile", inPlace := ["internal/bytealg.IndexByteString"], unfollowed := true, recurses := true, apart := false, narrowed := true }
def FnExactUnrollWhileUptoSaid : Prop := fnExactUnrollWhileUptoRow.holds Try.pinned (OpenSpec.upto fnExactUnrollWhileSpec)

/-- 'laws.FnExactPowerTrans', WHERE WHAT IT READS IS OF BULK AT MOST 1048576: true; the input reads as it did. -/
def fnExactPowerTransUptoRow : OpenClaim := { program := "ytdmfgcldbcoclaa", sum := "ea58bdf90c8824fbaf31dc311b7d0242f0a89da4f6c26649184be510672bf66f", func := "loop.example/dualchoices/laws.FnExactPowerTrans", spec := "fnExactPowerTrans", inPlace := ["internal/bytealg.IndexByteString"], unfollowed := true, recurses := true, apart := false, narrowed := true }
def FnExactPowerTransUptoSaid : Prop := fnExactPowerTransUptoRow.holds Try.pinned (OpenSpec.upto fnExactPowerTransSpec)

end Rows
end Go.Proofs.Ytdmfgcldbcoclaa
