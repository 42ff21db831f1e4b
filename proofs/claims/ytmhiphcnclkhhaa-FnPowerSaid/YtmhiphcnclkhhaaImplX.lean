/- The program's conjunctive tables, their relations, refinement, transformers of specifications. -/
import Derived.Test.YtmhiphcnclkhhaaImplL
import Derived.Test.YtmhiphcnclkhhaaPlain9
import Derived.Test.YtmhiphcnclkhhaaBase3
namespace Go.Proofs.Ytmhiphcnclkhhaa
set_option linter.unusedSimpArgs false
set_option linter.unusedVariables false
set_option maxRecDepth 4000
open Go.RowKit

set_option maxHeartbeats 1000000 in
theorem i_refined (T U : Nat → Nat) (w : World) (hT : Bd T) (hU : Bd U) : Calls Try.prog 104 #[.agg (row 16 T), .agg (row 16 U)] w fun e w' => e = .returned (.bool (refB T U 16)) ∧ Below w.heap.size w w' := by
  have r1 := (RowAt.fresh w 66 (row 16 T)).alloc (.cells (row 16 U) 66)
  have r2 := RowAt.fresh1 w (.cells (row 16 T) 66) 66 (row 16 U)
  have hb0 := bel_2 w (.cells (row 16 T) 66) (.cells (row 16 U) 66)
  have HT := Lib.hid hT; have HU := Lib.hid hU; clear hT hU
  go_enter Try.func104, Try.ntmps104
  go_wp2_with fail
  go_loopw [6] (fun t wr => ∃ k : Nat, k ≤ 16 ∧ t = .int .i64 k ∧ Hid (refB T U k = true) ∧ RowAt wr w.heap.size 66 (row 16 T) ∧ RowAt wr (w.heap.size + 1) 66 (row 16 U) ∧ Below w.heap.size w wr) (fun t _ => (16 - intOf t).toNat)
  case atStart => exact ⟨0, by omega, rfl, Lib.hid rfl, r1, r2, hb0⟩
  case round =>
    clear r1 r2 hb0
    obtain ⟨k, hk, rfl, HR, r1, r2, hb⟩ := hrel
    by_cases hlt : k < 16
    · have c1 := r1.cell k hlt
      have c2 := r2.cell k hlt
      have i1 := lt_cast hlt
      have e1 := bits_andn_nat (T k) (U k) (HT.out k hlt) (HU.out k hlt)
      by_cases hz : andn (T k) (U k) = 0
      · have b1 : ((andn (T k) (U k) : Int) != 0) = false := by simp [hz]
        have HZ := Lib.hid hz; clear hz
        go_wp2_with fail
        go_quiet (fail)
        go_wp2_with fail
        go_roundw
        case rel => exact ⟨k + 1, by omega, by go_num, Lib.hid (refB_succ HR.out HZ.out), r1.drewN _, r2.drewN _, bel_drewN hb _⟩
        case measure => simp [intOf]; omega
      · have b1 : ((andn (T k) (U k) : Int) != 0) = true := by rw [bne_iff_ne]; omega
        have HZ := Lib.hid hz; clear hz
        go_wp2_with fail
        go_quiet (fail)
        go_wp2_with fail
        go_ret
        exact ⟨ret_bool (refB_no hlt HZ.out).symm, bel_drewN hb _⟩
    · obtain rfl : k = 16 := by omega
      go_wp2_with fail
      go_ret
      exact ⟨ret_bool HR.out.symm, hb⟩
end Go.Proofs.Ytmhiphcnclkhhaa
