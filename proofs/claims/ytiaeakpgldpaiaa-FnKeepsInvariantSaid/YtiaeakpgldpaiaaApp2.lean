/- Refinement, sequences and powers, as the laws call them. -/
import Derived.Test.YtiaeakpgldpaiaaApp
import Derived.Test.YtiaeakpgldpaiaaImplX
import Derived.Test.YtiaeakpgldpaiaaImplH
import Derived.Test.YtiaeakpgldpaiaaSpecD
namespace Go.Proofs.Ytiaeakpgldpaiaa
set_option linter.unusedSimpArgs false
set_option linter.unusedVariables false
set_option maxRecDepth 4000
open Go.RowKit

theorem i_RefinesN (t u : ByteArray) (w : World) (h1 : trOk t = true) (h2 : trOk u = true) : Calls Try.prog 26 #[.string t, .string u] w fun e w' => e = .returned (.bool (refB (dig t) (dig u) 16)) ∧ Below w.heap.size w w' := by
  have k1 := trF_ok h1
  have k2 := trF_ok h2
  have K1 := Lib.hid k1; have K2 := Lib.hid k2; clear k1 k2
  go_enter Try.func26, Try.ntmps26
  go_wp2_with fail
  refine (i_readTrans _ _).mono ?_
  rw [h1, K1.out]
  rintro e w1 ⟨rfl, hb1⟩
  go_wp2_with (refine wpList_store_new rfl 77 _ _ rfl (row 16 (dig t)) rfl rfl (by rw [row_size]; kernel_rfl) (by first | rfl | (rw [row_size, row_size]) | (simp [row_size]; done)) (row_one _ _) ?_)
  refine (i_readTrans _ _).mono ?_
  rw [h2, K2.out]
  rintro e w2 ⟨rfl, hb2⟩
  have r1 := ((RowAt.fresh w1 77 (row 16 (dig t))).later hb2).alloc (.cells (row 16 (dig u)) 77)
  have r2 := RowAt.fresh w2 77 (row 16 (dig u))
  have hbb := bel_on' (bel_on' (bel_on' hb1 (bel_1 w1 (.cells (row 16 (dig t)) 77))) hb2) (bel_1 w2 (.cells (row 16 (dig u)) 77))
  go_wp2_with (first | (refine wpList_store_new rfl 77 _ _ rfl (row 16 (dig u)) rfl rfl (by rw [row_size]; kernel_rfl) (by first | rfl | (rw [row_size, row_size]) | (simp [row_size]; done)) (row_one _ _) ?_) | (refine wpList_load_rowG (by rfl) 77 _ rfl (w1.heap.size) rfl 77 (row 16 (dig t)) (0, 0) _ r1 Try.underlying77 rfl (by rw [row_size]; kernel_rfl) ?_) | (refine wpList_load_rowG (by rfl) 77 _ rfl (w2.heap.size) rfl 77 (row 16 (dig u)) (0, 0) _ r2 Try.underlying77 rfl (by rw [row_size]; kernel_rfl) ?_))
  refine (i_refined _ _ _ (dig_bd t) (dig_bd u)).mono ?_
  rintro e w3 ⟨rfl, hb3⟩
  go_wp2_with fail
  go_ret
  exact ⟨rfl, bel_on' hbb hb3⟩
end Go.Proofs.Ytiaeakpgldpaiaa
