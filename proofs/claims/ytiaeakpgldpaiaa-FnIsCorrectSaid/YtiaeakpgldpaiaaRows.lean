/-
  No cell of these rows narrows 'for every input' (looked for: loops, veiled, ifaces, maps, wideKeys, modest, calm, conditions, laid).
  DERIVED. THE GIVEN ROWS OF THIS SEAT. 11 by the template 'for every input the law returns true; each argument reads behind the call as it read before'; 0 by the template 'total and deterministic' (their statements: YtiaeakpgldpaiaaTotals.lean).
  GIVEN WITH THE SEED: the statements are not yours to turn. If you find one false, say at which input.
  Laid BY PROGRAM, IN A SANDBOX (cutbox-rows.mjs): the forced cells as the released guide's own fill.sh prints them over the translation 1bba4a536a4efafb… (all of the seat's roots in one cut). By AI agents, Wed Nov 11 2026. No macro, syntax, notation, axiom, sorry.
-/
import Derived.Test.YtiaeakpgldpaiaaChecked
import GoSem.Claim
import GoSem.ClaimJoined
import GoSem.ClaimMapViews
import Derived.JoinedTies
import Derived.KernelRfl
namespace Go.Proofs.Ytiaeakpgldpaiaa
/- THE CELL 'sum', in the pinned program and in every row, IS THE sha256 OF THE DUMP (.gsa) THAT YtiaeakpgldpaiaaProg.lean LOADS. Nothing in Lean hashes anything: it is a label: what it is worth is what the hold of that sum in a sandbox is worth. -/
noncomputable def Try.pinned : Pinned := { name := "ytiaeakpgldpaiaa", sum := "1bba4a536a4efafbd17d5a6d82088d833e9250b280b40506355f28f7f7ad8fdf", checked := Try.checked }
namespace Rows
def none {H : Type} : Left H := { results := [], args := [] }

/-- 'laws.FnSpecMeet': WHATEVER THE INPUT: true; the input reads as it did. -/
def fnSpecMeetSpec : ChangeSpec := { name := "fnSpecMeet", fn := fun _ => fun
  | [d1, d2] => { results := [.lit (.bool true)], args := [d1, d2] }
  | _ => none }
def fnSpecMeetRow : OpenClaim := { program := "ytiaeakpgldpaiaa", sum := "1bba4a536a4efafbd17d5a6d82088d833e9250b280b40506355f28f7f7ad8fdf", func := "loop.example/dualchoices/laws.FnSpecMeet", spec := "fnSpecMeet", inPlace := ["internal/bytealg.IndexByteString"], unfollowed := true, recurses := true, apart := false }
def FnSpecMeetSaid : Prop := fnSpecMeetRow.holds Try.pinned (OpenSpec.ofChange fnSpecMeetSpec)

/-- ITS FALSE NEIGHBOUR: 'it returns false'. Refute it at one input. -/
def fnSpecMeetWrong : ChangeSpec := { name := "fnSpecMeet", fn := fun _ => fun
  | [d1, d2] => { results := [.lit (.bool false)], args := [d1, d2] }
  | _ => none }
def FnSpecMeetWrongFalsely : Prop := fnSpecMeetRow.holds Try.pinned (OpenSpec.ofChange fnSpecMeetWrong)

/-- 'laws.FnSpecWeaker': WHATEVER THE INPUT: true; the input reads as it did. -/
def fnSpecWeakerSpec : ChangeSpec := { name := "fnSpecWeaker", fn := fun _ => fun
  | [d] => { results := [.lit (.bool true)], args := [d] }
  | _ => none }
def fnSpecWeakerRow : OpenClaim := { program := "ytiaeakpgldpaiaa", sum := "1bba4a536a4efafbd17d5a6d82088d833e9250b280b40506355f28f7f7ad8fdf", func := "loop.example/dualchoices/laws.FnSpecWeaker", spec := "fnSpecWeaker", inPlace := ["internal/bytealg.IndexByteString"], unfollowed := true, recurses := true, apart := false }
def FnSpecWeakerSaid : Prop := fnSpecWeakerRow.holds Try.pinned (OpenSpec.ofChange fnSpecWeakerSpec)

/-- ITS FALSE NEIGHBOUR: 'it returns false'. Refute it at one input. -/
def fnSpecWeakerWrong : ChangeSpec := { name := "fnSpecWeaker", fn := fun _ => fun
  | [d] => { results := [.lit (.bool false)], args := [d] }
  | _ => none }
def FnSpecWeakerWrongFalsely : Prop := fnSpecWeakerRow.holds Try.pinned (OpenSpec.ofChange fnSpecWeakerWrong)

/-- 'laws.FnSpecSequence': WHATEVER THE INPUT: true; the input reads as it did. -/
def fnSpecSequenceSpec : ChangeSpec := { name := "fnSpecSequence", fn := fun _ => fun
  | [d] => { results := [.lit (.bool true)], args := [d] }
  | _ => none }
def fnSpecSequenceRow : OpenClaim := { program := "ytiaeakpgldpaiaa", sum := "1bba4a536a4efafbd17d5a6d82088d833e9250b280b40506355f28f7f7ad8fdf", func := "loop.example/dualchoices/laws.FnSpecSequence", spec := "fnSpecSequence", inPlace := ["internal/bytealg.IndexByteString"], unfollowed := true, recurses := true, apart := false }
def FnSpecSequenceSaid : Prop := fnSpecSequenceRow.holds Try.pinned (OpenSpec.ofChange fnSpecSequenceSpec)

/-- ITS FALSE NEIGHBOUR: 'it returns false'. Refute it at one input. -/
def fnSpecSequenceWrong : ChangeSpec := { name := "fnSpecSequence", fn := fun _ => fun
  | [d] => { results := [.lit (.bool false)], args := [d] }
  | _ => none }
def FnSpecSequenceWrongFalsely : Prop := fnSpecSequenceRow.holds Try.pinned (OpenSpec.ofChange fnSpecSequenceWrong)

/-- 'laws.FnStars': WHATEVER THE INPUT: true; the input reads as it did. -/
def fnStarsSpec : ChangeSpec := { name := "fnStars", fn := fun _ => fun
  | [d] => { results := [.lit (.bool true)], args := [d] }
  | _ => none }
def fnStarsRow : OpenClaim := { program := "ytiaeakpgldpaiaa", sum := "1bba4a536a4efafbd17d5a6d82088d833e9250b280b40506355f28f7f7ad8fdf", func := "loop.example/dualchoices/laws.FnStars", spec := "fnStars", inPlace := ["internal/bytealg.IndexByteString"], unfollowed := true, recurses := true, apart := false }
def FnStarsSaid : Prop := fnStarsRow.holds Try.pinned (OpenSpec.ofChange fnStarsSpec)

/-- ITS FALSE NEIGHBOUR: 'it returns false'. Refute it at one input. -/
def fnStarsWrong : ChangeSpec := { name := "fnStars", fn := fun _ => fun
  | [d] => { results := [.lit (.bool false)], args := [d] }
  | _ => none }
def FnStarsWrongFalsely : Prop := fnStarsRow.holds Try.pinned (OpenSpec.ofChange fnStarsWrong)

/-- 'laws.FnOmegas': WHATEVER THE INPUT: true; the input reads as it did. -/
def fnOmegasSpec : ChangeSpec := { name := "fnOmegas", fn := fun _ => fun
  | [d] => { results := [.lit (.bool true)], args := [d] }
  | _ => none }
def fnOmegasRow : OpenClaim := { program := "ytiaeakpgldpaiaa", sum := "1bba4a536a4efafbd17d5a6d82088d833e9250b280b40506355f28f7f7ad8fdf", func := "loop.example/dualchoices/laws.FnOmegas", spec := "fnOmegas", inPlace := ["internal/bytealg.IndexByteString"], unfollowed := true, recurses := true, apart := false }
def FnOmegasSaid : Prop := fnOmegasRow.holds Try.pinned (OpenSpec.ofChange fnOmegasSpec)

/-- ITS FALSE NEIGHBOUR: 'it returns false'. Refute it at one input. -/
def fnOmegasWrong : ChangeSpec := { name := "fnOmegas", fn := fun _ => fun
  | [d] => { results := [.lit (.bool false)], args := [d] }
  | _ => none }
def FnOmegasWrongFalsely : Prop := fnOmegasRow.holds Try.pinned (OpenSpec.ofChange fnOmegasWrong)

/-- 'laws.FnKeepsInvariant': WHATEVER THE INPUT: true; the input reads as it did. -/
def fnKeepsInvariantSpec : ChangeSpec := { name := "fnKeepsInvariant", fn := fun _ => fun
  | [d] => { results := [.lit (.bool true)], args := [d] }
  | _ => none }
def fnKeepsInvariantRow : OpenClaim := { program := "ytiaeakpgldpaiaa", sum := "1bba4a536a4efafbd17d5a6d82088d833e9250b280b40506355f28f7f7ad8fdf", func := "loop.example/dualchoices/laws.FnKeepsInvariant", spec := "fnKeepsInvariant", inPlace := ["internal/bytealg.IndexByteString"], unfollowed := true, recurses := true, apart := false }
def FnKeepsInvariantSaid : Prop := fnKeepsInvariantRow.holds Try.pinned (OpenSpec.ofChange fnKeepsInvariantSpec)

/-- ITS FALSE NEIGHBOUR: 'it returns false'. Refute it at one input. -/
def fnKeepsInvariantWrong : ChangeSpec := { name := "fnKeepsInvariant", fn := fun _ => fun
  | [d] => { results := [.lit (.bool false)], args := [d] }
  | _ => none }
def FnKeepsInvariantWrongFalsely : Prop := fnKeepsInvariantRow.holds Try.pinned (OpenSpec.ofChange fnKeepsInvariantWrong)

/-- 'laws.FnProvesLoop': WHATEVER THE INPUT: true; the input reads as it did. -/
def fnProvesLoopSpec : ChangeSpec := { name := "fnProvesLoop", fn := fun _ => fun
  | [d] => { results := [.lit (.bool true)], args := [d] }
  | _ => none }
def fnProvesLoopRow : OpenClaim := { program := "ytiaeakpgldpaiaa", sum := "1bba4a536a4efafbd17d5a6d82088d833e9250b280b40506355f28f7f7ad8fdf", func := "loop.example/dualchoices/laws.FnProvesLoop", spec := "fnProvesLoop", inPlace := ["internal/bytealg.IndexByteString"], unfollowed := true, recurses := true, apart := false }
def FnProvesLoopSaid : Prop := fnProvesLoopRow.holds Try.pinned (OpenSpec.ofChange fnProvesLoopSpec)

/-- ITS FALSE NEIGHBOUR: 'it returns false'. Refute it at one input. -/
def fnProvesLoopWrong : ChangeSpec := { name := "fnProvesLoop", fn := fun _ => fun
  | [d] => { results := [.lit (.bool false)], args := [d] }
  | _ => none }
def FnProvesLoopWrongFalsely : Prop := fnProvesLoopRow.holds Try.pinned (OpenSpec.ofChange fnProvesLoopWrong)

/-- 'laws.FnFindProof': WHATEVER THE INPUT: true; the input reads as it did. -/
def fnFindProofSpec : ChangeSpec := { name := "fnFindProof", fn := fun _ => fun
  | [d] => { results := [.lit (.bool true)], args := [d] }
  | _ => none }
def fnFindProofRow : OpenClaim := { program := "ytiaeakpgldpaiaa", sum := "1bba4a536a4efafbd17d5a6d82088d833e9250b280b40506355f28f7f7ad8fdf", func := "loop.example/dualchoices/laws.FnFindProof", spec := "fnFindProof", inPlace := ["internal/bytealg.IndexByteString"], unfollowed := true, recurses := true, apart := false }
def FnFindProofSaid : Prop := fnFindProofRow.holds Try.pinned (OpenSpec.ofChange fnFindProofSpec)

/-- ITS FALSE NEIGHBOUR: 'it returns false'. Refute it at one input. -/
def fnFindProofWrong : ChangeSpec := { name := "fnFindProof", fn := fun _ => fun
  | [d] => { results := [.lit (.bool false)], args := [d] }
  | _ => none }
def FnFindProofWrongFalsely : Prop := fnFindProofRow.holds Try.pinned (OpenSpec.ofChange fnFindProofWrong)

/-- 'laws.FnWhile': WHATEVER THE INPUT: true; the input reads as it did. -/
def fnWhileSpec : ChangeSpec := { name := "fnWhile", fn := fun _ => fun
  | [d] => { results := [.lit (.bool true)], args := [d] }
  | _ => none }
def fnWhileRow : OpenClaim := { program := "ytiaeakpgldpaiaa", sum := "1bba4a536a4efafbd17d5a6d82088d833e9250b280b40506355f28f7f7ad8fdf", func := "loop.example/dualchoices/laws.FnWhile", spec := "fnWhile", inPlace := ["internal/bytealg.IndexByteString"], unfollowed := true, recurses := true, apart := false }
def FnWhileSaid : Prop := fnWhileRow.holds Try.pinned (OpenSpec.ofChange fnWhileSpec)

/-- ITS FALSE NEIGHBOUR: 'it returns false'. Refute it at one input. -/
def fnWhileWrong : ChangeSpec := { name := "fnWhile", fn := fun _ => fun
  | [d] => { results := [.lit (.bool false)], args := [d] }
  | _ => none }
def FnWhileWrongFalsely : Prop := fnWhileRow.holds Try.pinned (OpenSpec.ofChange fnWhileWrong)

/-- 'laws.FnCode': WHATEVER THE INPUT: true; the input reads as it did. -/
def fnCodeSpec : ChangeSpec := { name := "fnCode", fn := fun _ => fun
  | [d] => { results := [.lit (.bool true)], args := [d] }
  | _ => none }
def fnCodeRow : OpenClaim := { program := "ytiaeakpgldpaiaa", sum := "1bba4a536a4efafbd17d5a6d82088d833e9250b280b40506355f28f7f7ad8fdf", func := "loop.example/dualchoices/laws.FnCode", spec := "fnCode", inPlace := ["internal/bytealg.IndexByteString"], unfollowed := true, recurses := true, apart := false }
def FnCodeSaid : Prop := fnCodeRow.holds Try.pinned (OpenSpec.ofChange fnCodeSpec)

/-- ITS FALSE NEIGHBOUR: 'it returns false'. Refute it at one input. -/
def fnCodeWrong : ChangeSpec := { name := "fnCode", fn := fun _ => fun
  | [d] => { results := [.lit (.bool false)], args := [d] }
  | _ => none }
def FnCodeWrongFalsely : Prop := fnCodeRow.holds Try.pinned (OpenSpec.ofChange fnCodeWrong)

/-- 'laws.FnIsCorrect': WHATEVER THE INPUT: true; the input reads as it did. -/
def fnIsCorrectSpec : ChangeSpec := { name := "fnIsCorrect", fn := fun _ => fun
  | [d1, d2] => { results := [.lit (.bool true)], args := [d1, d2] }
  | _ => none }
def fnIsCorrectRow : OpenClaim := { program := "ytiaeakpgldpaiaa", sum := "1bba4a536a4efafbd17d5a6d82088d833e9250b280b40506355f28f7f7ad8fdf", func := "loop.example/dualchoices/laws.FnIsCorrect", spec := "fnIsCorrect", inPlace := ["internal/bytealg.IndexByteString"], unfollowed := true, recurses := true, apart := false }
def FnIsCorrectSaid : Prop := fnIsCorrectRow.holds Try.pinned (OpenSpec.ofChange fnIsCorrectSpec)

/-- ITS FALSE NEIGHBOUR: 'it returns false'. Refute it at one input. -/
def fnIsCorrectWrong : ChangeSpec := { name := "fnIsCorrect", fn := fun _ => fun
  | [d1, d2] => { results := [.lit (.bool false)], args := [d1, d2] }
  | _ => none }
def FnIsCorrectWrongFalsely : Prop := fnIsCorrectRow.holds Try.pinned (OpenSpec.ofChange fnIsCorrectWrong)

/- THE SECOND FORM. 'bulk': how many values and letters a reading holds, each counted each time it is reached (what is shared counts as often as it is met; a slice's spare places count too). A statement '..UptoSaid' is the law's where the arguments, and the package variables that the reading takes, are together of bulk at most 1048576: NARROWER than '..Said'. Prove '..Said' where nothing that the law and all that it calls make is longer than what came in: it says more and counts as full. Else prove '..UptoSaid'. A law counts once. -/
mutual
def uptoBulk {H : Type} : DataW H → Nat
  | .lit (.string bytes) => bytes.length + 1
  | .lit _ => 1
  | .nil => 1
  | .ptr d => uptoBulk d + 1
  | .slice elems spare => uptoBulkAll elems + uptoBulkAll spare + 1
  | .agg parts => uptoBulkAll parts + 1
  | .iface _ d => uptoBulk d + 1
  | .map entries => uptoBulkEntries entries + 1
  | .held _ => 1
def uptoBulkAll {H : Type} : List (DataW H) → Nat
  | [] => 0
  | d :: r => uptoBulk d + uptoBulkAll r
def uptoBulkEntries {H : Type} : List (Lit × DataW H) → Nat
  | [] => 0
  | x :: r => uptoBulkEntry x + uptoBulkEntries r
def uptoBulkEntry {H : Type} : Lit × DataW H → Nat
  | (.string bytes, d) => bytes.length + uptoBulk d + 1
  | (_, d) => uptoBulk d + 1
 end
def uptoSmall : (H : Type) → List (DataW H) → Bool := fun _ ds => decide (uptoBulkAll ds ≤ 1048576)
def OpenSpec.upto (s : _root_.Go.ChangeSpec) : _root_.Go.OpenSpec := { _root_.Go.OpenSpec.ofChange s with cond := some uptoSmall }

/-- 'laws.FnSpecMeet', WHERE WHAT IT READS IS OF BULK AT MOST 1048576: true; the input reads as it did. -/
def fnSpecMeetUptoRow : OpenClaim := { program := "ytiaeakpgldpaiaa", sum := "1bba4a536a4efafbd17d5a6d82088d833e9250b280b40506355f28f7f7ad8fdf", func := "loop.example/dualchoices/laws.FnSpecMeet", spec := "fnSpecMeet", inPlace := ["internal/bytealg.IndexByteString"], unfollowed := true, recurses := true, apart := false, narrowed := true }
def FnSpecMeetUptoSaid : Prop := fnSpecMeetUptoRow.holds Try.pinned (OpenSpec.upto fnSpecMeetSpec)

/-- 'laws.FnSpecWeaker', WHERE WHAT IT READS IS OF BULK AT MOST 1048576: true; the input reads as it did. -/
def fnSpecWeakerUptoRow : OpenClaim := { program := "ytiaeakpgldpaiaa", sum := "1bba4a536a4efafbd17d5a6d82088d833e9250b280b40506355f28f7f7ad8fdf", func := "loop.example/dualchoices/laws.FnSpecWeaker", spec := "fnSpecWeaker", inPlace := ["internal/bytealg.IndexByteString"], unfollowed := true, recurses := true, apart := false, narrowed := true }
def FnSpecWeakerUptoSaid : Prop := fnSpecWeakerUptoRow.holds Try.pinned (OpenSpec.upto fnSpecWeakerSpec)

/-- 'laws.FnSpecSequence', WHERE WHAT IT READS IS OF BULK AT MOST 1048576: true; the input reads as it did. -/
def fnSpecSequenceUptoRow : OpenClaim := { program := "ytiaeakpgldpaiaa", sum := "1bba4a536a4efafbd17d5a6d82088d833e9250b280b40506355f28f7f7ad8fdf", func := "loop.example/dualchoices/laws.FnSpecSequence", spec := "fnSpecSequence", inPlace := ["internal/bytealg.IndexByteString"], unfollowed := true, recurses := true, apart := false, narrowed := true }
def FnSpecSequenceUptoSaid : Prop := fnSpecSequenceUptoRow.holds Try.pinned (OpenSpec.upto fnSpecSequenceSpec)

/-- 'laws.FnStars', WHERE WHAT IT READS IS OF BULK AT MOST 1048576: true; the input reads as it did. -/
def fnStarsUptoRow : OpenClaim := { program := "ytiaeakpgldpaiaa", sum := "1bba4a536a4efafbd17d5a6d82088d833e9250b280b40506355f28f7f7ad8fdf", func := "loop.example/dualchoices/laws.FnStars", spec := "fnStars", inPlace := ["internal/bytealg.IndexByteString"], unfollowed := true, recurses := true, apart := false, narrowed := true }
def FnStarsUptoSaid : Prop := fnStarsUptoRow.holds Try.pinned (OpenSpec.upto fnStarsSpec)

/-- 'laws.FnOmegas', WHERE WHAT IT READS IS OF BULK AT MOST 1048576: true; the input reads as it did. -/
def fnOmegasUptoRow : OpenClaim := { program := "ytiaeakpgldpaiaa", sum := "1bba4a536a4efafbd17d5a6d82088d833e9250b280b40506355f28f7f7ad8fdf", func := "loop.example/dualchoices/laws.FnOmegas", spec := "fnOmegas", inPlace := ["internal/bytealg.IndexByteString"], unfollowed := true, recurses := true, apart := false, narrowed := true }
def FnOmegasUptoSaid : Prop := fnOmegasUptoRow.holds Try.pinned (OpenSpec.upto fnOmegasSpec)

/-- 'laws.FnKeepsInvariant', WHERE WHAT IT READS IS OF BULK AT MOST 1048576: true; the input reads as it did. -/
def fnKeepsInvariantUptoRow : OpenClaim := { program := "ytiaeakpgldpaiaa", sum := "1bba4a536a4efafbd17d5a6d82088d833e9250b280b40506355f28f7f7ad8fdf", func := "loop.example/dualchoices/laws.FnKeepsInvariant", spec := "fnKeepsInvariant", inPlace := ["internal/bytealg.IndexByteString"], unfollowed := true, recurses := true, apart := false, narrowed := true }
def FnKeepsInvariantUptoSaid : Prop := fnKeepsInvariantUptoRow.holds Try.pinned (OpenSpec.upto fnKeepsInvariantSpec)

/-- 'laws.FnProvesLoop', WHERE WHAT IT READS IS OF BULK AT MOST 1048576: true; the input reads as it did. -/
def fnProvesLoopUptoRow : OpenClaim := { program := "ytiaeakpgldpaiaa", sum := "1bba4a536a4efafbd17d5a6d82088d833e9250b280b40506355f28f7f7ad8fdf", func := "loop.example/dualchoices/laws.FnProvesLoop", spec := "fnProvesLoop", inPlace := ["internal/bytealg.IndexByteString"], unfollowed := true, recurses := true, apart := false, narrowed := true }
def FnProvesLoopUptoSaid : Prop := fnProvesLoopUptoRow.holds Try.pinned (OpenSpec.upto fnProvesLoopSpec)

/-- 'laws.FnFindProof', WHERE WHAT IT READS IS OF BULK AT MOST 1048576: true; the input reads as it did. -/
def fnFindProofUptoRow : OpenClaim := { program := "ytiaeakpgldpaiaa", sum := "1bba4a536a4efafbd17d5a6d82088d833e9250b280b40506355f28f7f7ad8fdf", func := "loop.example/dualchoices/laws.FnFindProof", spec := "fnFindProof", inPlace := ["internal/bytealg.IndexByteString"], unfollowed := true, recurses := true, apart := false, narrowed := true }
def FnFindProofUptoSaid : Prop := fnFindProofUptoRow.holds Try.pinned (OpenSpec.upto fnFindProofSpec)

/-- 'laws.FnWhile', WHERE WHAT IT READS IS OF BULK AT MOST 1048576: true; the input reads as it did. -/
def fnWhileUptoRow : OpenClaim := { program := "ytiaeakpgldpaiaa", sum := "1bba4a536a4efafbd17d5a6d82088d833e9250b280b40506355f28f7f7ad8fdf", func := "loop.example/dualchoices/laws.FnWhile", spec := "fnWhile", inPlace := ["internal/bytealg.IndexByteString"], unfollowed := true, recurses := true, apart := false, narrowed := true }
def FnWhileUptoSaid : Prop := fnWhileUptoRow.holds Try.pinned (OpenSpec.upto fnWhileSpec)

/-- 'laws.FnCode', WHERE WHAT IT READS IS OF BULK AT MOST 1048576: true; the input reads as it did. -/
def fnCodeUptoRow : OpenClaim := { program := "ytiaeakpgldpaiaa", sum := "1bba4a536a4efafbd17d5a6d82088d833e9250b280b40506355f28f7f7ad8fdf", func := "loop.example/dualchoices/laws.FnCode", spec := "fnCode", inPlace := ["internal/bytealg.IndexByteString"], unfollowed := true, recurses := true, apart := false, narrowed := true }
def FnCodeUptoSaid : Prop := fnCodeUptoRow.holds Try.pinned (OpenSpec.upto fnCodeSpec)

/-- 'laws.FnIsCorrect', WHERE WHAT IT READS IS OF BULK AT MOST 1048576: true; the input reads as it did. -/
def fnIsCorrectUptoRow : OpenClaim := { program := "ytiaeakpgldpaiaa", sum := "1bba4a536a4efafbd17d5a6d82088d833e9250b280b40506355f28f7f7ad8fdf", func := "loop.example/dualchoices/laws.FnIsCorrect", spec := "fnIsCorrect", inPlace := ["internal/bytealg.IndexByteString"], unfollowed := true, recurses := true, apart := false, narrowed := true }
def FnIsCorrectUptoSaid : Prop := fnIsCorrectUptoRow.holds Try.pinned (OpenSpec.upto fnIsCorrectSpec)

end Rows
end Go.Proofs.Ytiaeakpgldpaiaa
