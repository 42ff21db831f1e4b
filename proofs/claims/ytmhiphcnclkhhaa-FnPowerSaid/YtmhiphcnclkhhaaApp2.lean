/- Refinement, sequences and powers, as the laws call them. -/
import Derived.Test.YtmhiphcnclkhhaaApp
import Derived.Test.YtmhiphcnclkhhaaImplX
import Derived.Test.YtmhiphcnclkhhaaImplH
import Derived.Test.YtmhiphcnclkhhaaSpecD
namespace Go.Proofs.Ytmhiphcnclkhhaa
set_option linter.unusedSimpArgs false
set_option linter.unusedVariables false
set_option maxRecDepth 4000
open Go.RowKit

theorem i_RefinesN (t u : ByteArray) (w : World) (h1 : trOk t = true) (h2 : trOk u = true) : Calls Try.prog 43 #[.string t, .string u] w fun e w' => e = .returned (.bool (refB (dig t) (dig u) 16)) ∧ Below w.heap.size w w' := by
  have k1 := trF_ok h1
  have k2 := trF_ok h2
  have K1 := Lib.hid k1; have K2 := Lib.hid k2; clear k1 k2
  go_enter Try.func43, Try.ntmps43
  go_wp2_with fail
  refine (i_readTrans _ _).mono ?_
  rw [h1, K1.out]
  rintro e w1 ⟨rfl, hb1⟩
  go_wp2_with (refine wpList_store_new rfl 66 _ _ rfl (row 16 (dig t)) rfl rfl (by rw [row_size]; kernel_rfl) (by first | rfl | (rw [row_size, row_size]) | (simp [row_size]; done)) (row_one _ _) ?_)
  refine (i_readTrans _ _).mono ?_
  rw [h2, K2.out]
  rintro e w2 ⟨rfl, hb2⟩
  have r1 := ((RowAt.fresh w1 66 (row 16 (dig t))).later hb2).alloc (.cells (row 16 (dig u)) 66)
  have r2 := RowAt.fresh w2 66 (row 16 (dig u))
  have hbb := bel_on' (bel_on' (bel_on' hb1 (bel_1 w1 (.cells (row 16 (dig t)) 66))) hb2) (bel_1 w2 (.cells (row 16 (dig u)) 66))
  go_wp2_with (first | (refine wpList_store_new rfl 66 _ _ rfl (row 16 (dig u)) rfl rfl (by rw [row_size]; kernel_rfl) (by first | rfl | (rw [row_size, row_size]) | (simp [row_size]; done)) (row_one _ _) ?_) | (refine wpList_load_rowG (by rfl) 66 _ rfl (w1.heap.size) rfl 66 (row 16 (dig t)) (0, 0) _ r1 Try.underlying66 rfl (by rw [row_size]; kernel_rfl) ?_) | (refine wpList_load_rowG (by rfl) 66 _ rfl (w2.heap.size) rfl 66 (row 16 (dig u)) (0, 0) _ r2 Try.underlying66 rfl (by rw [row_size]; kernel_rfl) ?_))
  refine (i_refined _ _ _ (dig_bd t) (dig_bd u)).mono ?_
  rintro e w3 ⟨rfl, hb3⟩
  go_wp2_with fail
  go_ret
  exact ⟨rfl, bel_on' hbb hb3⟩
theorem s_ThenTrans (t u : ByteArray) (w : World) (ht : t.size ≤ 1048576) (hu : u.size ≤ 1048576) : Calls Try.prog 39 #[.string t, .string u] w fun e w' => e = .returned (.tuple #[.string (optS (trOk t && trOk u) (txt 16 (fun p => dig t (dig u p)))), .bool (trOk t && trOk u)]) ∧ w = w' := by
  cases hok : (trOk t && trOk u)
  · have HOK := Lib.hid hok; clear hok
    go_enter Try.func39, Try.ntmps39
    go_wp2_with fail
    refine (s_l3Both t u _ ht hu).mono ?_
    rw [HOK.out]
    rintro e w' ⟨rfl, rfl⟩
    go_wp2_with fail
    go_ret2
    exact ⟨rfl, rfl⟩
  · have h := hok
    rw [Bool.and_eq_true] at h
    have h1 := Dg.tr h.1
    have h2 := Dg.tr h.2
    have HOK := Lib.hid hok; have H1 := Lib.hid h1; have H2 := Lib.hid h2; clear hok h h1 h2
    go_enter Try.func39, Try.ntmps39
    go_wp2_with fail
    refine (s_l3Both t u _ ht hu).mono ?_
    rw [HOK.out]
    rintro e w' ⟨rfl, rfl⟩
    go_wp2_with fail
    refine (s_l3Then t u _ H1.out H2.out).mono ?_
    rintro e w' ⟨rfl, rfl⟩
    go_wp2_with fail
    go_ret2
    exact ⟨rfl, rfl⟩
theorem l_dcPower (t : ByteArray) (n : Int) (w : World) : Calls Try.prog 32 #[.string t, .int .i64 n] w fun e w' => e = .returned (.string (optS (trOk t && nB n) (txt 16 (fPower (dig t) n.toNat)))) ∧ Below w.heap.size w w' := by
  go_enter Try.func32, Try.ntmps32
  go_wp2_with fail
  refine (i_PowerTrans t n _).mono ?_
  rintro e w1 ⟨rfl, hb⟩
  go_wp2_with fail
  go_ret
  exact ⟨rfl, hb⟩
end Go.Proofs.Ytmhiphcnclkhhaa
