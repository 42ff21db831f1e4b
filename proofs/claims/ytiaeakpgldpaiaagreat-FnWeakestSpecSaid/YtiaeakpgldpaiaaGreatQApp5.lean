/- Specifications' transformers, domains and images, as the laws call them. -/
import Derived.Test.YtiaeakpgldpaiaaGreatQApp4
import Derived.Test.YtiaeakpgldpaiaaGreatQImplX
import Derived.Test.YtiaeakpgldpaiaaGreatQPlainU
namespace Go.Proofs.YtiaeakpgldpaiaaGreat
set_option linter.unusedSimpArgs false
set_option linter.unusedVariables false
set_option maxRecDepth 4000
open Go.RowKit

theorem i_askedN (r : ByteArray) (p g G : Nat) (w : World) (hr : relOk r = true) (hp : p < 16) (hent : ∀ args w, (callFunc g args).run Tryz.prog w = .ok (.enter g args) w) (hcall : ∀ W, Calls Tryz.prog g #[.agg (row 4 (dig r)), .int .i64 (p : Int)] W fun e W' => e = .returned (.int .i64 (G : Int)) ∧ Below W.heap.size W W') : Calls Tryz.prog 38 #[.string r, .int .i64 (p : Int), .func (.func g) #[] #[]] w fun e w' => e = .returned (.int .i64 (G : Int)) ∧ Below w.heap.size w w' := by
  have k1 := relF_ok hr
  have K1 := Lib.hid k1; have HC := Lib.hid hcall; clear k1 hcall
  go_enter Tryz.func38, Tryz.ntmps38
  go_wp2_with fail
  refine (i_readRel _ _).mono ?_
  rw [hr, K1.out]
  rintro e w1 ⟨rfl, hb⟩
  have r1 := RowAt.fresh w1 48 (row 4 (dig r))
  have hbb := bel_on' hb (bel_1 w1 (.cells (row 4 (dig r)) 48))
  go_wp2_with (first | (refine wpList_store_new rfl 48 _ _ rfl (row 4 (dig r)) rfl rfl (by rw [row_size]; kernel_rfl) (by first | rfl | (rw [row_size, row_size]) | (simp [row_size]; done)) (row_one _ _) ?_) | (refine wpList_load_row rfl 48 _ rfl (w1.heap.size) rfl 48 (row 4 (dig r)) (0, 0) _ r1 Tryz.underlying48 rfl (by rw [row_size]; kernel_rfl) ?_))
  refine (i_CvN p _ hp).mono ?_
  rintro e w' ⟨rfl, rfl⟩
  go_wp2_with (first | (refine wpList_load_row rfl 48 _ rfl (w1.heap.size) rfl 48 (row 4 (dig r)) (0, 0) _ r1 Tryz.underlying48 rfl (by rw [row_size]; kernel_rfl) ?_))
  refine (HC.out _).mono ?_
  rintro e w3 ⟨rfl, hb3⟩
  go_wp2_with fail
  go_ret
  exact ⟨rfl, bel_on' hbb hb3⟩
theorem fn_image (R : Nat → Nat) (p : Nat) (w : World) (hR : ∀ k, R k < 16) (hp : p < 16) : Calls Tryz.prog 39 #[.agg (row 4 R), .int .i64 (p : Int)] w fun e w' => e = .returned (.int .i64 ((fDia (fTurn R) p 4 : Nat) : Int)) ∧ Below w.heap.size w w' := by
  have HR := Lib.hid hR; clear hR
  have r1 := RowAt.fresh w 48 (row 4 R)
  go_enter Tryz.func39, Tryz.ntmps39
  go_wp2_with (refine wpList_load_row rfl 48 _ rfl (w.heap.size) rfl 48 (row 4 R) (0, 0) _ r1 Tryz.underlying48 rfl (by rw [row_size]; kernel_rfl) ?_)
  refine (i_turned R _ HR.out).mono ?_
  rintro e w1 ⟨rfl, hb1⟩
  go_wp2_with fail
  refine (i_diamond (fTurn R) p _ (fTurn_lt R) hp).mono ?_
  rintro e w2 ⟨rfl, hb2⟩
  go_wp2_with fail
  go_ret
  exact ⟨rfl, bel_on' (bel_on' (bel_1 w _) hb1) hb2⟩
theorem i_ImageN (r : ByteArray) (p : Nat) (w : World) (hr : relOk r = true) (hp : p < 16) : Calls Tryz.prog 13 #[.string r, .int .i64 (p : Int)] w fun e w' => e = .returned (.int .i64 ((fDia (fTurn (dig r)) p 4 : Nat) : Int)) ∧ Below w.heap.size w w' := by
  have h := fun w => i_askedN r p 39 (fDia (fTurn (dig r)) p 4) w hr hp (enters_of Tryz.func39 (by kernel_rfl) rfl) (fun W => fn_image (dig r) p W (dig_lt r) hp)
  have H := Lib.hid h; clear h
  go_enter Tryz.func13, Tryz.ntmps13
  go_wp2_with fail
  refine (H.out _).mono ?_
  rintro e w1 ⟨rfl, hb⟩
  go_wp2_with fail
  go_ret
  exact ⟨rfl, hb⟩
theorem image_one (R : Nat → Nat) {s : Nat} (hs : s < 4) (hR : R s < 16) : fDia (fTurn R) (one s) 4 = R s := by
  apply eq_of_bits (n := 4) (fDia_lt _ _) hR
  intro i hi
  unfold fDia
  rw [mkC_bit _ hi, Bool.eq_iff_iff, decide_eq_true_iff, and_one_iff]
  unfold fTurn
  rw [mkC_bit _ hs]
end Go.Proofs.YtiaeakpgldpaiaaGreat
