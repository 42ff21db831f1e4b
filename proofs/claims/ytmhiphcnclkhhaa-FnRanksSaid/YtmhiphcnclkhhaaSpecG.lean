/- The reference's relations: images, boxes, turns, compositions; none turns the world. -/
import Derived.Test.YtmhiphcnclkhhaaSpecC
import Derived.Test.YtmhiphcnclkhhaaPlain3
namespace Go.Proofs.Ytmhiphcnclkhhaa
set_option linter.unusedSimpArgs false
set_option linter.unusedVariables false
set_option maxRecDepth 4000
open Go.RowKit

theorem s_l2Diamond (r : ByteArray) (p : Nat) (w : World) (h : Dg 4 r) (hp : p < 16) : Calls Try.prog 148 #[.string r, .int .i64 (p : Int)] w fun e w' => e = .returned (.int .i64 (fDia (dig r) p 4 : Int)) ∧ w = w' := by
  go_enter Try.func148, Try.ntmps148
  go_wp2
  go_loop [5, 6] (fun o i => ∃ k : Nat, k ≤ 4 ∧ i = .int .i64 k ∧ o = .int .i64 (fDia (dig r) p k : Int)) (fun _ i => 4 - (intOf i).toNat)
  case atStart => exact ⟨0, by omega, rfl, rfl⟩
  case round =>
    obtain ⟨k, hk, rfl, rfl⟩ := hrel
    by_cases hlt : k < 4
    · have e1 := wrap_one (t := k) (by omega)
      have hz : fDia (dig r) p k < 16 := Nat.lt_of_lt_of_le (mkC_lt _ k) (Nat.pow_le_pow_right (n := 2) (j := 4) (by decide) hk)
      have e2 := bits_or_nat (fDia (dig r) p k) (one k) (by omega) (by have := one_lt hlt; omega)
      have e3 := bits_and_nat (dig r k) p (by have := dig_lt r k; omega) (by omega)
      by_cases ha : dig r k &&& p = 0
      · have b1 : (((dig r k &&& p : Nat) : Int) != 0) = false := by simp [ha]
        have HA := Lib.hid ha; clear ha
        go_wp2_with (go_at_call 152; refine (s_l2To _ _ _ h hlt).mono ?_; rintro e w' ⟨rfl, rfl⟩)
        go_round
        case rel => exact ⟨k + 1, by omega, by go_num, by rw [fDia_no HA.out]⟩
        case measure => simp [intOf]; omega
      · have b1 : (((dig r k &&& p : Nat) : Int) != 0) = true := by rw [bne_iff_ne]; omega
        have HA := Lib.hid ha; clear ha
        go_wp2_with (go_at_call 152; refine (s_l2To _ _ _ h hlt).mono ?_; rintro e w' ⟨rfl, rfl⟩)
        go_round
        case rel => exact ⟨k + 1, by omega, by go_num, by rw [fDia_yes HA.out]⟩
        case measure => simp [intOf]; omega
    · obtain rfl : k = 4 := by omega
      go_wp2
      go_ret
      exact ⟨rfl, rfl⟩
theorem s_l3Angel (r : ByteArray) (w : World) (h : Dg 4 r) : Calls Try.prog 137 #[.string r] w fun e w' => e = .returned (.string (txt 16 (fun p => fDia (dig r) p 4))) ∧ w = w' := by
  go_enter Try.func137, Try.ntmps137
  go_wp2
  go_loop [3, 4] (fun o i => ∃ k : Nat, k ≤ 16 ∧ i = .int .i64 k ∧ o = .string (txt k (fun p => fDia (dig r) p 4))) (fun _ i => 16 - (intOf i).toNat)
  case atStart => exact ⟨0, by omega, rfl, rfl⟩
  case round =>
    obtain ⟨k, hk, rfl, rfl⟩ := hrel
    by_cases hlt : k < 16
    · have ht := txt_snoc k (fun p => fDia (dig r) p 4)
      have HT := Lib.hid ht; clear ht
      have hz : (txt k (fun p => fDia (dig r) p 4)).size ≤ 16 := by rw [txt_size]; exact hk
      skip
      go_wp2_with (first | (go_at_call 148; refine (s_l2Diamond _ _ _ h hlt).mono ?_; rintro e w' ⟨rfl, rfl⟩) | (go_at_call 110; refine (s_l2Digit _ _ (fDia_lt _ _)).mono ?_; rintro e w' ⟨rfl, rfl⟩))
      go_round
      case rel => exact ⟨k + 1, by omega, by go_num, by rw [← HT.out]⟩
      case measure => simp [intOf]; omega
    · obtain rfl : k = 16 := by omega
      go_wp2
      go_ret
      exact ⟨rfl, rfl⟩
end Go.Proofs.Ytmhiphcnclkhhaa
