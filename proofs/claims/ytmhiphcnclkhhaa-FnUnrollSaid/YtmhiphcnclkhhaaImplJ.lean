/- The program's repetitions and residuals: the closures, and the listed functions made of them. -/
import Derived.Test.YtmhiphcnclkhhaaImplI
namespace Go.Proofs.Ytmhiphcnclkhhaa
set_option linter.unusedSimpArgs false
set_option linter.unusedVariables false
set_option maxRecDepth 4000
open Go.RowKit

set_option maxHeartbeats 1000000 in
theorem i_WhileTrans (p : Int) (t : ByteArray) (w : World) : Calls Try.prog 53 #[.int .i64 p, .string t] w fun e w' => e = .returned (.tuple #[.string (optS (trOk t && cvB p) (txt 16 (fWhile p.toNat (dig t)))), .bool (trOk t && cvB p)]) ∧ Below w.heap.size w w' := by
  cases hok : (trOk t && cvB p)
  · go_enter Try.func53, Try.ntmps53
    go_wp2_with fail
    refine (i_body _ _ _).mono ?_
    rw [hok]
    rintro e w1 ⟨rfl, hb⟩
    go_wp2_with (refine wpList_store_new rfl 66 _ _ rfl (row 16 (trF t)) rfl rfl (by rw [row_size]; kernel_rfl) (by first | rfl | (rw [row_size, row_size]) | (simp [row_size]; done)) (row_one _ _) ?_)
    go_ret2
    exact ⟨rfl, bel_on' hb (bel_1 _ _)⟩
  · have g := hok
    rw [Bool.and_eq_true] at g
    obtain ⟨n, hn, rfl⟩ := (cvB_iff p).1 g.2
    have k1 := trF_ok g.1
    have k2 := dig_mono g.1
    have K1 := Lib.hid k1; have K2 := Lib.hid k2; clear k1 k2 g
    go_enter Try.func53, Try.ntmps53
    go_wp2_with fail
    refine (i_body _ _ _).mono ?_
    rw [hok, K1.out]
    rintro e w1 ⟨rfl, hb⟩
    have r1 := RowAt.fresh w1 66 (row 16 (dig t))
    have hbb := bel_on' hb (bel_1 w1 (.cells (row 16 (dig t)) 66))
    go_wp2_with (first | (refine wpList_store_new rfl 66 _ _ rfl (row 16 (dig t)) rfl rfl (by rw [row_size]; kernel_rfl) (by first | rfl | (rw [row_size, row_size]) | (simp [row_size]; done)) (row_one _ _) ?_) | (refine wpList_load_row rfl 66 _ rfl (w1.heap.size) rfl 66 (row 16 (dig t)) (0, 0) _ r1 Try.underlying66 rfl (by rw [row_size]; kernel_rfl) ?_))
    refine (i_loop n (dig t) _ lfp _ pt_least (dig_lt t) K2.out hn).mono ?_
    rintro e w2 ⟨rfl, hb2⟩
    go_wp2_with fail
    refine (i_transText _ _ (fun q hq => fWhile_bd hn q hq)).mono ?_
    rintro e w3 ⟨rfl, hb3⟩
    go_wp2_with fail
    go_ret2
    exact ⟨rfl, bel_on' (bel_on' hbb hb2) hb3⟩
set_option maxHeartbeats 1000000 in
theorem i_WeakestInvariant (p : Int) (t : ByteArray) (q : Int) (w : World) : Calls Try.prog 45 #[.int .i64 p, .string t, .int .i64 q] w fun e w' => e = .returned (.int .i64 (optI ((trOk t && cvB p) && cvB q) (fFree p.toNat (dig t) q.toNat))) ∧ Below w.heap.size w w' := by
  cases hok : (trOk t && cvB p)
  · go_enter Try.func45, Try.ntmps45
    go_wp2_with fail
    refine (i_body _ _ _).mono ?_
    rw [hok]
    rintro e w1 ⟨rfl, hb⟩
    go_wp2_with (refine wpList_store_new rfl 66 _ _ rfl (row 16 (trF t)) rfl rfl (by rw [row_size]; kernel_rfl) (by first | rfl | (rw [row_size, row_size]) | (simp [row_size]; done)) (row_one _ _) ?_)
    go_ret
    exact ⟨rfl, bel_on' hb (bel_1 _ _)⟩
  cases hq : cvB q
  · go_enter Try.func45, Try.ntmps45
    go_wp2_with fail
    refine (i_body _ _ _).mono ?_
    rw [hok]
    rintro e w1 ⟨rfl, hb⟩
    go_wp2_with (first | (refine wpList_store_new rfl 66 _ _ rfl (row 16 (trF t)) rfl rfl (by rw [row_size]; kernel_rfl) (by first | rfl | (rw [row_size, row_size]) | (simp [row_size]; done)) (row_one _ _) ?_) | (go_at_call 72; refine (i_ConditionValid _ _).mono ?_; rw [hq]; rintro e w2 ⟨rfl, rfl⟩))
    go_ret
    exact ⟨rfl, bel_on' hb (bel_1 _ _)⟩
  · have g := hok
    rw [Bool.and_eq_true] at g
    obtain ⟨n, hn, rfl⟩ := (cvB_iff p).1 g.2
    obtain ⟨m, hm, rfl⟩ := (cvB_iff q).1 hq
    have k1 := trF_ok g.1
    have k2 := dig_mono g.1
    have K1 := Lib.hid k1; have K2 := Lib.hid k2; clear k1 k2 g
    have hi := fun w => run_index_row (P := Try.prog) (F := fun q => gfp (eqW n (dig t) q)) (T := 66) Try.underlying66 Try.underlying3 (by kernel_rfl) hm w
    go_enter Try.func45, Try.ntmps45
    go_wp2_with fail
    refine (i_body _ _ _).mono ?_
    rw [hok, K1.out]
    rintro e w1 ⟨rfl, hb⟩
    have r1 := RowAt.fresh w1 66 (row 16 (dig t))
    have hbb := bel_on' hb (bel_1 w1 (.cells (row 16 (dig t)) 66))
    go_wp2_with (first | (refine wpList_store_new rfl 66 _ _ rfl (row 16 (dig t)) rfl rfl (by rw [row_size]; kernel_rfl) (by first | rfl | (rw [row_size, row_size]) | (simp [row_size]; done)) (row_one _ _) ?_) | (refine wpList_load_row rfl 66 _ rfl (w1.heap.size) rfl 66 (row 16 (dig t)) (0, 0) _ r1 Try.underlying66 rfl (by rw [row_size]; kernel_rfl) ?_) | (go_at_call 72; refine (i_ConditionValid _ _).mono ?_; rw [hq]; rintro e w2 ⟨rfl, rfl⟩))
    refine (i_loop n (dig t) _ gfp _ pt_greatest (dig_lt t) K2.out hn).mono ?_
    rintro e w2 ⟨rfl, hb2⟩
    go_wp2_with fail
    go_ret
    exact ⟨rfl, bel_on' hbb hb2⟩
end Go.Proofs.Ytmhiphcnclkhhaa
