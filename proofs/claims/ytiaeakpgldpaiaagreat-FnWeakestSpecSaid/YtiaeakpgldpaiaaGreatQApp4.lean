/- Assertions, reaches and conjunctive tables, as the laws call them. -/
import Derived.Test.YtiaeakpgldpaiaaGreatQJ6
import Derived.Test.YtiaeakpgldpaiaaGreatQImplX
import Derived.Test.YtiaeakpgldpaiaaGreatQImplJ
namespace Go.Proofs.YtiaeakpgldpaiaaGreat
set_option linter.unusedSimpArgs false
set_option linter.unusedVariables false
set_option maxRecDepth 4000
open Go.RowKit

theorem i_IsConjN (t : ByteArray) (w : World) (hok : trOk t = true) : Calls Tryz.prog 17 #[.string t] w fun e w' => e = .returned (.bool (conjB (dig t))) ∧ Below w.heap.size w w' := by
  have k1 := trF_ok hok
  have K1 := Lib.hid k1; clear k1
  go_enter Tryz.func17, Tryz.ntmps17
  go_wp2_with fail
  refine (i_readTrans _ _).mono ?_
  rw [hok, K1.out]
  rintro e w1 ⟨rfl, hb⟩
  have r1 := RowAt.fresh w1 54 (row 16 (dig t))
  have hbb := bel_on' hb (bel_1 w1 (.cells (row 16 (dig t)) 54))
  go_wp2_with (first | (refine wpList_store_new rfl 54 _ _ rfl (row 16 (dig t)) rfl rfl (by rw [row_size]; kernel_rfl) (by first | rfl | (rw [row_size, row_size]) | (simp [row_size]; done)) (row_one _ _) ?_) | (refine wpList_load_rowG (by rfl) 54 _ rfl (w1.heap.size) rfl 54 (row 16 (dig t)) (0, 0) _ r1 Tryz.underlying54 rfl (by rw [row_size]; kernel_rfl) ?_))
  refine (i_conjunctive (dig t) _ (dig_bd t)).mono ?_
  rintro e w2 ⟨rfl, hb2⟩
  go_wp2_with fail
  go_ret
  exact ⟨rfl, bel_on' hbb hb2⟩
end Go.Proofs.YtiaeakpgldpaiaaGreat
