/- Assertions, reaches and conjunctive tables, as the laws call them. -/
import Derived.Test.YtiaeakpgldpaiaaQJ6
import Derived.Test.YtiaeakpgldpaiaaQImplX
import Derived.Test.YtiaeakpgldpaiaaQImplJ
namespace Go.Proofs.Ytiaeakpgldpaiaa
set_option linter.unusedSimpArgs false
set_option linter.unusedVariables false
set_option maxRecDepth 4000
open Go.RowKit

theorem i_TransValid (t : ByteArray) (w : World) : Calls Try.prog 55 #[.string t] w fun e w' => e = .returned (.bool (trOk t)) ∧ Below w.heap.size w w' := by
  go_enter Try.func55, Try.ntmps55
  go_wp2_with fail
  refine (i_readTrans _ _).mono ?_
  rintro e w1 ⟨rfl, hb1⟩
  go_wp2_with (refine wpList_store_new rfl 77 _ _ rfl (row 16 (trF t)) rfl rfl (by rw [row_size]; kernel_rfl) (by first | rfl | (rw [row_size, row_size]) | (simp [row_size]; done)) (row_one _ _) ?_)
  go_ret
  exact ⟨rfl, bel_on' hb1 (bel_1 _ _)⟩
theorem i_AssertN (p : Nat) (w : World) (hp : p < 16) : Calls Try.prog 75 #[.int .i64 (p : Int)] w fun e w' => e = .returned (.tuple #[.string (txt 16 (fun q => p &&& q)), .bool true]) ∧ Below w.heap.size w w' := by
  have hF : ∀ i, i < 16 → p &&& i < 16 := fun i _ => and_lt hp
  have HF := Lib.hid hF; clear hF
  go_enter Try.func75, Try.ntmps75
  go_wp2_with fail
  refine (i_CvN p _ hp).mono ?_
  rintro e w' ⟨rfl, rfl⟩
  go_wp2_with fail
  refine (i_assert p _ hp).mono ?_
  rintro e w1 ⟨rfl, hb1⟩
  go_wp2_with fail
  refine (i_transText _ _ HF.out).mono ?_
  rintro e w2 ⟨rfl, hb2⟩
  go_wp2_with fail
  go_ret2
  exact ⟨rfl, bel_on' hb1 hb2⟩
theorem i_ReachN (p q : Nat) (w : World) (hp : p < 16) (hq : q < 16) : Calls Try.prog 76 #[.int .i64 (p : Int), .int .i64 (q : Int)] w fun e w' => e = .returned (.tuple #[.string (txt 16 (fSpec p (fun _ => q))), .bool true]) ∧ Below w.heap.size w w' := by
  have hF : ∀ i, i < 16 → fSpec p (fun _ => q) i < 16 := fun i _ => fSpec_lt hp i
  have HF := Lib.hid hF; clear hF
  go_enter Try.func76, Try.ntmps76
  go_wp2_with fail
  refine (i_CvN p _ hp).mono ?_
  rintro e w' ⟨rfl, rfl⟩
  go_wp2_with fail
  refine (i_CvN q _ hq).mono ?_
  rintro e w' ⟨rfl, rfl⟩
  go_wp2_with fail
  refine (i_spec p (fun _ => q) _ hp (fun _ => hq)).mono ?_
  rintro e w1 ⟨rfl, hb1⟩
  go_wp2_with fail
  refine (i_transText _ _ HF.out).mono ?_
  rintro e w2 ⟨rfl, hb2⟩
  go_wp2_with fail
  go_ret2
  exact ⟨rfl, bel_on' hb1 hb2⟩
theorem i_IsConjN (t : ByteArray) (w : World) (hok : trOk t = true) : Calls Try.prog 61 #[.string t] w fun e w' => e = .returned (.bool (conjB (dig t))) ∧ Below w.heap.size w w' := by
  have k1 := trF_ok hok
  have K1 := Lib.hid k1; clear k1
  go_enter Try.func61, Try.ntmps61
  go_wp2_with fail
  refine (i_readTrans _ _).mono ?_
  rw [hok, K1.out]
  rintro e w1 ⟨rfl, hb⟩
  have r1 := RowAt.fresh w1 77 (row 16 (dig t))
  have hbb := bel_on' hb (bel_1 w1 (.cells (row 16 (dig t)) 77))
  go_wp2_with (first | (refine wpList_store_new rfl 77 _ _ rfl (row 16 (dig t)) rfl rfl (by rw [row_size]; kernel_rfl) (by first | rfl | (rw [row_size, row_size]) | (simp [row_size]; done)) (row_one _ _) ?_) | (refine wpList_load_rowG (by rfl) 77 _ rfl (w1.heap.size) rfl 77 (row 16 (dig t)) (0, 0) _ r1 Try.underlying77 rfl (by rw [row_size]; kernel_rfl) ?_))
  refine (i_conjunctive (dig t) _ (dig_bd t)).mono ?_
  rintro e w2 ⟨rfl, hb2⟩
  go_wp2_with fail
  go_ret
  exact ⟨rfl, bel_on' hbb hb2⟩
end Go.Proofs.Ytiaeakpgldpaiaa
