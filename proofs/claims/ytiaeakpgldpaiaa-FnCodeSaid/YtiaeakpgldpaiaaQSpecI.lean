/- The reference's code without choices. -/
import Derived.Test.YtiaeakpgldpaiaaQSpecD
import Derived.Test.YtiaeakpgldpaiaaQJ1
namespace Go.Proofs.Ytiaeakpgldpaiaa
set_option linter.unusedSimpArgs false
set_option linter.unusedVariables false
set_option maxRecDepth 4000
open Go.RowKit

theorem s_l9Lowest (p : Nat) (w : World) (hp : p < 16) (h0 : p ≠ 0) : Calls Try.prog 168 #[.int .i64 (p : Int)] w fun e w' => e = .returned (.int .i64 (lowS p : Int)) ∧ w = w' := by
  have hl := lowS_lt p
  have H1 := Lib.hid (lowS_bit hp h0)
  have H2 := Lib.hid (lowS_below p)
  clear h0
  go_enter Try.func168, Try.ntmps168
  go_wp2_with fail
  go_loop [3] (fun t => ∃ k : Nat, k ≤ lowS p ∧ t = .int .i64 k) (fun t => 4 - (intOf t).toNat)
  case atStart => exact ⟨0, by omega, rfl⟩
  case round =>
    obtain ⟨k, hk, rfl⟩ := hrel
    by_cases hlt : k < lowS p
    · have hb := H2.out k hlt
      have HB := Lib.hid hb; clear hb
      go_wp2_with (go_at_call 98; refine (s_l1Has p k _ (by omega) (by omega)).mono ?_; rw [HB.out]; rintro e w' ⟨rfl, rfl⟩)
      go_round
      case rel => exact ⟨k + 1, by omega, by go_num⟩
      case measure => simp [intOf]; omega
    · have hkk : k = lowS p := by omega
      have hb := H1.out
      rw [← hkk] at hb
      have HB := Lib.hid hb; have HK := Lib.hid hkk; clear hb hkk
      go_wp2_with (go_at_call 98; refine (s_l1Has p k _ (by omega) (by omega)).mono ?_; rw [HB.out]; rintro e w' ⟨rfl, rfl⟩)
      go_ret
      exact ⟨ret_int (by rw [HK.out]), rfl⟩
set_option maxHeartbeats 1000000 in
theorem s_CodeFunction (p : Int) (r : ByteArray) (w : World) (hr : r.size ≤ 1048576) : Calls Try.prog 79 #[.int .i64 p, .string r] w fun e w' => e = .returned (.tuple #[.string (optS ((cvB p && relOk r) && cfOk p.toNat (dig r)) (fCF p.toNat (dig r) 4)), .bool ((cvB p && relOk r) && cfOk p.toNat (dig r))]) ∧ w = w' := by
  cases hok : (cvB p && relOk r)
  · go_enter Try.func79, Try.ntmps79
    go_wp2_with (go_at_call 97; refine (s_l9Ready _ _ _ hr).mono ?_; rw [hok]; rintro e w' ⟨rfl, rfl⟩)
    go_ret2
    exact ⟨rfl, rfl⟩
  have g := hok
  rw [Bool.and_eq_true] at g
  obtain ⟨n, hn, rfl⟩ := (cvB_iff p).1 g.1
  have h1 := Dg.rel g.2
  have H1 := Lib.hid h1; clear h1 g
  go_enter Try.func79, Try.ntmps79
  go_wp2_with (go_at_call 97; refine (s_l9Ready _ _ _ hr).mono ?_; rw [hok]; rintro e w' ⟨rfl, rfl⟩)
  go_loop [6, 7] (fun o t => ∃ z : Int, -1 ≤ z ∧ z ≤ 3 ∧ t = .int .i64 z ∧ o = .string (fCF n (dig r) (3 - z).toNat) ∧ Hid (cfTo n (dig r) (3 - z).toNat = true)) (fun _ t => (intOf t + 1).toNat)
  case atStart => exact ⟨3, by omega, by omega, rfl, rfl, Lib.hid rfl⟩
  case round =>
    obtain ⟨z, hz1, hz3, rfl, rfl, HC⟩ := hrel
    by_cases hz : 0 ≤ z
    · obtain ⟨t, rfl⟩ := Int.eq_ofNat_of_zero_le hz
      have ht : t < 4 := by omega
      have en : (3 - (t : Int)).toNat = 3 - t := by omega
      have en' : (3 - ((t : Int) - 1)).toNat = 3 - t + 1 := by omega
      have hsz := fCF_size n (dig r) (3 - t)
      have hsa := fAssign_size t (lowS (dig r t))
      have hs1 : (fAssign t (lowS (dig r t))).size ≤ 5 := Nat.le_of_eq hsa
      have hs2 : (fCF n (dig r) (3 - t)).size ≤ 29 := by omega
      have hw := wrap_one (t := t) (by omega)
      have ho := one_lt ht
      rw [en] at HC ⊢
      have EN' := Lib.hid en'; clear en en' hsz hsa
      cases hb : n.testBit t
      · have HB := Lib.hid hb; clear hb
        go_wp2_with (go_at_call 98; refine (s_l1Has n t _ (by omega) (by omega)).mono ?_; rw [HB.out]; rintro e w' ⟨rfl, rfl⟩)
        go_round
        case rel => exact ⟨(t : Int) - 1, by omega, by omega, rfl, by rw [EN'.out, fCF_no _ ht HB.out], Lib.hid (by rw [EN'.out]; exact cfTo_step ht HC.out (.inl HB.out))⟩
        case measure => simp [intOf] <;> omega
      · have HB := Lib.hid hb; clear hb
        by_cases h0 : dig r t = 0
        · have b0 : ((dig r t : Int) == 0) = true := by simp [h0]
          have H0 := Lib.hid h0; clear h0
          go_wp2_with (first | (go_at_call 98; refine (s_l1Has n t _ (by omega) (by omega)).mono ?_; rw [HB.out]; rintro e w' ⟨rfl, rfl⟩) | (go_at_call 99; refine (s_l2To r t _ H1.out ht).mono ?_; rintro e w' ⟨rfl, rfl⟩))
          go_ret2
          have hf := cfOk_no (R := dig r) ht HB.out H0.out
          refine ⟨?_, rfl⟩
          show _ = Ending.returned (.tuple #[.string (optS (true && cfOk n (dig r)) (fCF n (dig r) 4)), .bool (true && cfOk n (dig r))])
          rw [hf]; rfl
        · have b0 : ((dig r t : Int) == 0) = false := by rw [beq_eq_false_iff_ne]; omega
          have H0 := Lib.hid h0; clear h0
          go_wp2_with (first | (go_at_call 98; refine (s_l1Has n t _ (by omega) (by omega)).mono ?_; rw [HB.out]; rintro e w' ⟨rfl, rfl⟩) | (go_at_call 99; refine (s_l2To r t _ H1.out ht).mono ?_; rintro e w' ⟨rfl, rfl⟩) | (go_at_call 100; refine (s_l2Digit _ _ ho).mono ?_; rintro e w' ⟨rfl, rfl⟩) | (go_at_call 168; refine (s_l9Lowest _ _ (dig_lt r t) H0.out).mono ?_; rintro e w' ⟨rfl, rfl⟩) | (go_at_call 167; refine (s_l9Assign t _ _ ht (lowS_lt _)).mono fun e w' (h : e = .returned (.string (fAssign t (lowS (dig r t)))) ∧ _) => ?_; obtain ⟨rfl, rfl⟩ := h))
          go_round
          case rel => exact ⟨(t : Int) - 1, by omega, by omega, rfl, by rw [EN'.out, fCF_yes _ ht HB.out]; rfl, Lib.hid (by rw [EN'.out]; exact cfTo_step ht HC.out (.inr H0.out))⟩
          case measure => simp [intOf] <;> omega
    · obtain rfl : z = -1 := by omega
      have hf : cfOk n (dig r) = true := HC.out
      have HF := Lib.hid hf; clear hf
      go_wp2_with fail
      go_ret2
      refine ⟨?_, rfl⟩
      show _ = Ending.returned (.tuple #[.string (optS (true && cfOk n (dig r)) (fCF n (dig r) 4)), .bool (true && cfOk n (dig r))])
      rw [HF.out]; rfl
end Go.Proofs.Ytiaeakpgldpaiaa
