/- The program's code without choices. -/
import Derived.Test.YtiaeakpgldpaiaaQImplL
import Derived.Test.YtiaeakpgldpaiaaQImplG
import Derived.Test.YtiaeakpgldpaiaaQJ1
namespace Go.Proofs.Ytiaeakpgldpaiaa
set_option linter.unusedSimpArgs false
set_option linter.unusedVariables false
set_option maxRecDepth 4000
open Go.RowKit

theorem i_least (p : Nat) (w : World) (hp : p < 16) (h0 : p ≠ 0) : Calls Try.prog 164 #[.int .i64 (p : Int)] w fun e w' => e = .returned (.int .i64 (lowS p : Int)) ∧ w = w' := by
  have hl := lowS_lt p
  have H1 := Lib.hid (lowS_bit hp h0)
  have H2 := Lib.hid (lowS_below p)
  clear h0
  go_enter Try.func164, Try.ntmps164
  go_wp2_with fail
  go_loop [3] (fun t => ∃ k : Nat, k ≤ lowS p ∧ t = .int .i64 k) (fun t => 4 - (intOf t).toNat)
  case atStart => exact ⟨0, by omega, rfl⟩
  case round =>
    obtain ⟨k, hk, rfl⟩ := hrel
    have e1 := bits_has0 p k (by omega)
    by_cases hlt : k < lowS p
    · have hb := H2.out k hlt
      rw [hb] at e1
      clear hb
      go_wp2_with fail
      go_round
      case rel => exact ⟨k + 1, by omega, by go_num⟩
      case measure => simp [intOf]; omega
    · have hkk : k = lowS p := by omega
      have hb := H1.out
      rw [← hkk] at hb
      rw [hb] at e1
      have HK := Lib.hid hkk; clear hb hkk
      go_wp2_with fail
      go_ret
      exact ⟨ret_int (by rw [HK.out]), rfl⟩
theorem i_AssignCodeN (s t : Nat) (w : World) (hs : s < 4) (ht : t < 4) : Calls Try.prog 165 #[.int .i64 (s : Int), .int .i64 (t : Int)] w fun e w' => e = .returned (.tuple #[.string (fAssign s t), .bool true]) ∧ Below w.heap.size w w' :=
  (i_AssignCode s t w).mono fun e w' h => by
    rw [(stB_iff s).2 ⟨s, hs, rfl⟩, (stB_iff t).2 ⟨t, ht, rfl⟩] at h
    exact h
set_option maxHeartbeats 1000000 in
theorem i_CodeFunction_ok (r : ByteArray) (hk : relOk r = true) : ∀ (m p : Nat) (w : World), pc p ≤ m → p < 16 → cfOk p (dig r) = true → Calls Try.prog 78 #[.int .i64 (p : Int), .string r] w fun e w' => e = .returned (.tuple #[.string (fCF p (dig r) 4), .bool true]) ∧ Below w.heap.size w w' := by
  intro m
  induction m with
  | zero =>
    intro p w hm hp hc
    have hp0 : p = 0 := by
      apply Classical.byContradiction
      intro h
      have := andn_low_pc hp h
      omega
    subst hp0
    have k1 := relF_ok hk
    have K1 := Lib.hid k1; have K0 := Lib.hid hk; clear k1 hk hc
    have hcv : cvB 0 = true := rfl
    have e0 : andn 0 (fDia (dig r) 15 4) = 0 := by unfold andn; simp
    have e1 : bits .andNot .i64 0 ((fDia (dig r) 15 4 : Nat) : Int) = 0 := by
      have := bits_andn_nat 0 (fDia (dig r) 15 4) (by omega) (fDia_lt _ _)
      rw [e0] at this
      exact this
    clear e0
    go_enter Try.func78, Try.ntmps78
    go_wp2_with fail
    refine (i_readRel _ _).mono ?_
    rw [K0.out, K1.out]
    rintro e w1 ⟨rfl, hb⟩
    have r1 := RowAt.fresh w1 68 (row 4 (dig r))
    have hbb := bel_on' hb (bel_1 w1 (.cells (row 4 (dig r)) 68))
    go_wp2_with (first | (refine wpList_store_new rfl 68 _ _ rfl (row 4 (dig r)) rfl rfl (by rw [row_size]; kernel_rfl) (by first | rfl | (rw [row_size, row_size]) | (simp [row_size]; done)) (row_one _ _) ?_) | (go_at_call 56; refine (i_ConditionValid _ _).mono ?_; rw [hcv]; rintro e w' ⟨rfl, rfl⟩) | (refine wpList_load_rowG (by rfl) 68 _ rfl (w1.heap.size) rfl 68 (row 4 (dig r)) (0, 0) _ r1 Try.underlying68 rfl (by rw [row_size]; kernel_rfl) ?_))
    refine (i_diamond (dig r) 15 _ (dig_lt r) (by omega)).mono ?_
    rintro e w2 ⟨rfl, hb2⟩
    go_wp2_with fail
    go_ret2
    exact ⟨ret_sb (fCF_zero (dig r) 4).symm rfl, bel_on' hbb hb2⟩
  | succ m ih =>
    intro p w hm hp hc
    by_cases h0 : p = 0
    · subst h0
      exact ih 0 w (Nat.zero_le _) (by omega) hc
    · have hcv := cvB_nat p hp
      have k1 := relF_ok hk
      have hl := lowS_lt p
      have hlt := andn_low_pc hp h0
      have hz : imp p (fDia (dig r) 15 4) := by
        have := cfOk_iff hp (dig_lt r)
        rw [hc] at this
        exact of_decide_eq_true this.symm
      have hRs : dig r (lowS p) ≠ 0 := (cfTo_iff p (dig r) 4 (by omega)).1 hc _ (by omega) hl (lowS_bit hp h0)
      have hstep := fCF_step (dig r) hp h0
      have hih := fun w => ih (andn p (one (lowS p))) w (by omega) (andn_lt hp) (cfOk_sub (andn_imp _ _) hc)
      have e1 := bits_andn_nat p (fDia (dig r) 15 4) hp (fDia_lt _ _)
      have e0 : andn p (fDia (dig r) 15 4) = 0 := hz
      rw [e0] at e1
      have b2 : ((p : Int) == 0) = false := by rw [beq_eq_false_iff_ne]; omega
      have hw := wrap_one (t := lowS p) (by omega)
      have ho := one_lt hl
      have e2 := bits_andn_nat p (one (lowS p)) hp ho
      have hs1 : (fAssign (lowS p) (lowS (dig r (lowS p)))).size ≤ 5 := Nat.le_of_eq (fAssign_size _ _)
      have hs2 : (fCF (andn p (one (lowS p))) (dig r) 4).size ≤ 29 := fCF_size _ _ 4
      have i1 := lt_cast hl
      have K1 := Lib.hid k1; have K0 := Lib.hid hk; have IH := Lib.hid hih; have HS := Lib.hid hstep; have HR := Lib.hid hRs; have H0 := Lib.hid h0; have E0 := Lib.hid e0
      clear k1 hk hc hih hstep hRs h0 ih hz hlt hm e0
      go_enter Try.func78, Try.ntmps78
      go_wp2_with fail
      refine (i_readRel _ _).mono ?_
      rw [K0.out, K1.out]
      rintro e w1 ⟨rfl, hb⟩
      have r1 := RowAt.fresh w1 68 (row 4 (dig r))
      have hbb := bel_on' hb (bel_1 w1 (.cells (row 4 (dig r)) 68))
      go_wp2_with (first | (refine wpList_store_new rfl 68 _ _ rfl (row 4 (dig r)) rfl rfl (by rw [row_size]; kernel_rfl) (by first | rfl | (rw [row_size, row_size]) | (simp [row_size]; done)) (row_one _ _) ?_) | (go_at_call 56; refine (i_ConditionValid _ _).mono ?_; rw [hcv]; rintro e w' ⟨rfl, rfl⟩) | (refine wpList_load_rowG (by rfl) 68 _ rfl (w1.heap.size) rfl 68 (row 4 (dig r)) (0, 0) _ r1 Try.underlying68 rfl (by rw [row_size]; kernel_rfl) ?_))
      refine (i_diamond (dig r) 15 _ (dig_lt r) (by omega)).mono ?_
      rintro e w2 ⟨rfl, hb2⟩
      have r2 := r1.later hb2
      have hbc := bel_on' hbb hb2
      have c2 := r2.cell (lowS p) hl
      clear hb hbb hb2 r1
      go_wp2_with fail
      refine (i_least p _ hp H0.out).mono ?_
      rintro e w' ⟨rfl, rfl⟩
      go_wp2_with fail
      refine (i_least (dig r (lowS p)) _ (dig_lt _ _) HR.out).mono ?_
      rintro e w' ⟨rfl, rfl⟩
      go_wp2_with fail
      refine (i_AssignCodeN (lowS p) (lowS (dig r (lowS p))) _ hl (lowS_lt _)).mono ?_
      rintro e w3 ⟨rfl, hb3⟩
      have hbd := bel_on' hbc hb3
      clear c2 r2
      go_wp2_with fail
      refine (IH.out _).mono ?_
      rintro e w4 ⟨rfl, hb4⟩
      go_wp2_with (go_at_call 166; refine (i_digit _ _ ho).mono ?_; rintro e w' ⟨rfl, rfl⟩)
      go_ret2
      exact ⟨ret_sb (by rw [HS.out]; rfl) rfl, bel_on' hbd hb4⟩
set_option maxHeartbeats 1000000 in
theorem i_CodeFunction (p : Int) (r : ByteArray) (w : World) : Calls Try.prog 78 #[.int .i64 p, .string r] w fun e w' => e = .returned (.tuple #[.string (optS ((cvB p && relOk r) && cfOk p.toNat (dig r)) (fCF p.toNat (dig r) 4)), .bool ((cvB p && relOk r) && cfOk p.toNat (dig r))]) ∧ Below w.heap.size w w' := by
  cases hr : relOk r
  · rw [Bool.and_false, Bool.false_and]
    go_enter Try.func78, Try.ntmps78
    go_wp2_with fail
    refine (i_readRel _ _).mono ?_
    rw [hr]
    rintro e w1 ⟨rfl, hb⟩
    go_wp2_with (refine wpList_store_new rfl 68 _ _ rfl (row 4 (relF r)) rfl rfl (by rw [row_size]; kernel_rfl) (by first | rfl | (rw [row_size, row_size]) | (simp [row_size]; done)) (row_one _ _) ?_)
    go_ret2
    exact ⟨rfl, bel_on' hb (bel_1 _ _)⟩
  cases hp : cvB p
  · go_enter Try.func78, Try.ntmps78
    go_wp2_with fail
    refine (i_readRel _ _).mono ?_
    rw [hr]
    rintro e w1 ⟨rfl, hb⟩
    go_wp2_with (first | (refine wpList_store_new rfl 68 _ _ rfl (row 4 (relF r)) rfl rfl (by rw [row_size]; kernel_rfl) (by first | rfl | (rw [row_size, row_size]) | (simp [row_size]; done)) (row_one _ _) ?_) | (go_at_call 56; refine (i_ConditionValid _ _).mono ?_; rw [hp]; rintro e w' ⟨rfl, rfl⟩))
    go_ret2
    exact ⟨rfl, bel_on' hb (bel_1 _ _)⟩
  obtain ⟨n, hn, rfl⟩ := (cvB_iff p).1 hp
  cases hc : cfOk n (dig r)
  · have hz : andn n (fDia (dig r) 15 4) ≠ 0 := by
      have := cfOk_iff hn (dig_lt r)
      rw [hc] at this
      exact of_decide_eq_false this.symm
    have k1 := relF_ok hr
    have K1 := Lib.hid k1; clear k1
    have e1 := bits_andn_nat n (fDia (dig r) 15 4) hn (fDia_lt _ _)
    have b1 : ((andn n (fDia (dig r) 15 4) : Int) != 0) = true := by rw [bne_iff_ne]; omega
    have HC := Lib.hid hc; clear hc hz
    go_enter Try.func78, Try.ntmps78
    go_wp2_with fail
    refine (i_readRel _ _).mono ?_
    rw [hr, K1.out]
    rintro e w1 ⟨rfl, hb⟩
    have r1 := RowAt.fresh w1 68 (row 4 (dig r))
    have hbb := bel_on' hb (bel_1 w1 (.cells (row 4 (dig r)) 68))
    go_wp2_with (first | (refine wpList_store_new rfl 68 _ _ rfl (row 4 (dig r)) rfl rfl (by rw [row_size]; kernel_rfl) (by first | rfl | (rw [row_size, row_size]) | (simp [row_size]; done)) (row_one _ _) ?_) | (go_at_call 56; refine (i_ConditionValid _ _).mono ?_; rw [hp]; rintro e w' ⟨rfl, rfl⟩) | (refine wpList_load_rowG (by rfl) 68 _ rfl (w1.heap.size) rfl 68 (row 4 (dig r)) (0, 0) _ r1 Try.underlying68 rfl (by rw [row_size]; kernel_rfl) ?_))
    refine (i_diamond (dig r) 15 _ (dig_lt r) (by omega)).mono ?_
    rintro e w2 ⟨rfl, hb2⟩
    go_wp2_with fail
    go_ret2
    refine ⟨?_, bel_on' hbb hb2⟩
    show _ = Ending.returned (.tuple #[.string (optS (true && cfOk n (dig r)) (fCF n (dig r) 4)), .bool (true && cfOk n (dig r))])
    rw [HC.out]; rfl
  · exact (i_CodeFunction_ok r hr _ n w (Nat.le_refl _) hn hc).mono fun e w' h => by
      refine ⟨h.1.trans ?_, h.2⟩
      show _ = Ending.returned (.tuple #[.string (optS (true && cfOk n (dig r)) (fCF n (dig r) 4)), .bool (true && cfOk n (dig r))])
      rw [hc]; rfl
end Go.Proofs.Ytiaeakpgldpaiaa
