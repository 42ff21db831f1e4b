/- The reference's relations: images, boxes, turns, compositions; none turns the world. -/
import Derived.Test.YtiaeakpgldpaiaaSpecC
import Derived.Test.YtiaeakpgldpaiaaPlain3
namespace Go.Proofs.Ytiaeakpgldpaiaa
set_option linter.unusedSimpArgs false
set_option linter.unusedVariables false
set_option maxRecDepth 4000
open Go.RowKit

theorem s_l2Diamond (r : ByteArray) (p : Nat) (w : World) (h : Dg 4 r) (hp : p < 16) : Calls Try.prog 202 #[.string r, .int .i64 (p : Int)] w fun e w' => e = .returned (.int .i64 (fDia (dig r) p 4 : Int)) ∧ w = w' := by
  go_enter Try.func202, Try.ntmps202
  go_wp2
  go_loop [5, 6] (fun o i => ∃ k : Nat, k ≤ 4 ∧ i = .int .i64 k ∧ o = .int .i64 (fDia (dig r) p k : Int)) (fun _ i => 4 - (intOf i).toNat)
  case atStart => exact ⟨0, by omega, rfl, rfl⟩
  case round =>
    obtain ⟨k, hk, rfl, rfl⟩ := hrel
    by_cases hlt : k < 4
    · have e1 := wrap_one (t := k) (by omega)
      have hz : fDia (dig r) p k < 16 := Nat.lt_of_lt_of_le (mkC_lt _ k) (Nat.pow_le_pow_right (n := 2) (j := 4) (by decide) hk)
      have e2 := bits_or_nat (fDia (dig r) p k) (one k) (by omega) (by have := one_lt hlt; omega)
      have e3 := bits_and_nat (dig r k) p (by have := dig_lt r k; omega) (by omega)
      by_cases ha : dig r k &&& p = 0
      · have b1 : (((dig r k &&& p : Nat) : Int) != 0) = false := by simp [ha]
        have HA := Lib.hid ha; clear ha
        go_wp2_with (go_at_call 99; refine (s_l2To _ _ _ h hlt).mono ?_; rintro e w' ⟨rfl, rfl⟩)
        go_round
        case rel => exact ⟨k + 1, by omega, by go_num, by rw [fDia_no HA.out]⟩
        case measure => simp [intOf]; omega
      · have b1 : (((dig r k &&& p : Nat) : Int) != 0) = true := by rw [bne_iff_ne]; omega
        have HA := Lib.hid ha; clear ha
        go_wp2_with (go_at_call 99; refine (s_l2To _ _ _ h hlt).mono ?_; rintro e w' ⟨rfl, rfl⟩)
        go_round
        case rel => exact ⟨k + 1, by omega, by go_num, by rw [fDia_yes HA.out]⟩
        case measure => simp [intOf]; omega
    · obtain rfl : k = 4 := by omega
      go_wp2
      go_ret
      exact ⟨rfl, rfl⟩
theorem s_l2Box (r : ByteArray) (p : Nat) (w : World) (h : Dg 4 r) (hp : p < 16) : Calls Try.prog 122 #[.string r, .int .i64 (p : Int)] w fun e w' => e = .returned (.int .i64 (fBox (dig r) p : Int)) ∧ w = w' := by
  have e1 : bits .andNot .i64 (15 : Int) (p : Int) = ((andn 15 p : Nat) : Int) := bits_andn_nat 15 p (by omega) hp
  have e2 : bits .andNot .i64 (15 : Int) (fDia (dig r) (andn 15 p) 4 : Int) = ((fBox (dig r) p : Nat) : Int) := by
    rw [← box_dia (fun s _ => dig_lt r s) p]; exact bits_andn_nat 15 _ (by omega) (fDia_lt _ _)
  have hx := andn_lt (a := 15) (b := p) (by omega)
  go_enter Try.func122, Try.ntmps122
  go_wp2_with (go_at_call 202; refine (s_l2Diamond _ _ _ h hx).mono ?_; rintro e w' ⟨rfl, rfl⟩)
  go_ret
  exact ⟨rfl, rfl⟩
theorem s_l2Image (r : ByteArray) (p : Nat) (w : World) (h : Dg 4 r) (hp : p < 16) : Calls Try.prog 204 #[.string r, .int .i64 (p : Int)] w fun e w' => e = .returned (.int .i64 (fImg (dig r) p 4 : Int)) ∧ w = w' := by
  go_enter Try.func204, Try.ntmps204
  go_wp2
  go_loop [5, 6] (fun o i => ∃ k : Nat, k ≤ 4 ∧ i = .int .i64 k ∧ o = .int .i64 (fImg (dig r) p k : Int)) (fun _ i => 4 - (intOf i).toNat)
  case atStart => exact ⟨0, by omega, rfl, rfl⟩
  case round =>
    obtain ⟨k, hk, rfl, rfl⟩ := hrel
    by_cases hlt : k < 4
    · have hz : fImg (dig r) p k < 16 := fImg_lt (fun s _ => dig_lt r s) p k hk
      have e2 := bits_or_nat (fImg (dig r) p k) (dig r k) (by omega) (by have := dig_lt r k; omega)
      cases hb : p.testBit k
      all_goals
        have HB := Lib.hid hb; clear hb
        go_wp2_with (first | (go_at_call 98; refine (s_l1Has _ _ _ (by omega) (by omega)).mono ?_; rw [HB.out]; rintro e w' ⟨rfl, rfl⟩) | (go_at_call 99; refine (s_l2To _ _ _ h hlt).mono ?_; rintro e w' ⟨rfl, rfl⟩))
        go_round
        case rel => exact ⟨k + 1, by omega, by go_num, by rw [fImg, HB.out]; rfl⟩
        case measure => simp [intOf]; omega
    · obtain rfl : k = 4 := by omega
      go_wp2
      go_ret
      exact ⟨rfl, rfl⟩
theorem s_l2Compose (r q : ByteArray) (w : World) (h : Dg 4 r) (hq : Dg 4 q) : Calls Try.prog 124 #[.string r, .string q] w fun e w' => e = .returned (.string (txt 4 (fComp (dig r) (dig q)))) ∧ w = w' := by
  go_enter Try.func124, Try.ntmps124
  go_wp2
  go_loop [5, 6] (fun o i => ∃ k : Nat, k ≤ 4 ∧ i = .int .i64 k ∧ o = .string (txt k (fComp (dig r) (dig q)))) (fun _ i => 4 - (intOf i).toNat)
  case atStart => exact ⟨0, by omega, rfl, rfl⟩
  case round =>
    obtain ⟨k, hk, rfl, rfl⟩ := hrel
    by_cases hlt : k < 4
    · have ht := txt_snoc k (fComp (dig r) (dig q))
      have HT := Lib.hid ht; clear ht
      have hz : (txt k (fComp (dig r) (dig q))).size ≤ 4 := by rw [txt_size]; exact hk
      have hF : fComp (dig r) (dig q) k < 16 := fImg_lt (fun s _ => dig_lt q s) _ 4 (by omega)
      go_wp2_with (first | (go_at_call 99; refine (s_l2To _ _ _ h hlt).mono ?_; rintro e w' ⟨rfl, rfl⟩) | (go_at_call 204; refine (s_l2Image _ _ _ hq (dig_lt _ _)).mono ?_; rintro e w' ⟨rfl, rfl⟩) | (go_at_call 100; refine (s_l2Digit _ _ hF).mono ?_; rintro e w' ⟨rfl, rfl⟩))
      go_round
      case rel => exact ⟨k + 1, by omega, by go_num, by rw [← HT.out]⟩
      case measure => simp [intOf]; omega
    · obtain rfl : k = 4 := by omega
      go_wp2
      go_ret
      exact ⟨rfl, rfl⟩
theorem s_l3Angel (r : ByteArray) (w : World) (h : Dg 4 r) : Calls Try.prog 215 #[.string r] w fun e w' => e = .returned (.string (txt 16 (fun p => fDia (dig r) p 4))) ∧ w = w' := by
  go_enter Try.func215, Try.ntmps215
  go_wp2
  go_loop [3, 4] (fun o i => ∃ k : Nat, k ≤ 16 ∧ i = .int .i64 k ∧ o = .string (txt k (fun p => fDia (dig r) p 4))) (fun _ i => 16 - (intOf i).toNat)
  case atStart => exact ⟨0, by omega, rfl, rfl⟩
  case round =>
    obtain ⟨k, hk, rfl, rfl⟩ := hrel
    by_cases hlt : k < 16
    · have ht := txt_snoc k (fun p => fDia (dig r) p 4)
      have HT := Lib.hid ht; clear ht
      have hz : (txt k (fun p => fDia (dig r) p 4)).size ≤ 16 := by rw [txt_size]; exact hk
      skip
      go_wp2_with (first | (go_at_call 202; refine (s_l2Diamond _ _ _ h hlt).mono ?_; rintro e w' ⟨rfl, rfl⟩) | (go_at_call 100; refine (s_l2Digit _ _ (fDia_lt _ _)).mono ?_; rintro e w' ⟨rfl, rfl⟩))
      go_round
      case rel => exact ⟨k + 1, by omega, by go_num, by rw [← HT.out]⟩
      case measure => simp [intOf]; omega
    · obtain rfl : k = 16 := by omega
      go_wp2
      go_ret
      exact ⟨rfl, rfl⟩
theorem s_TestRel (p : Nat) (w : World) (hp : p < 16) : Calls Try.prog 203 #[.int .i64 (p : Int)] w fun e w' => e = .returned (.tuple #[.string (txt 4 (fun s => p &&& one s)), .bool true]) ∧ w = w' := by
  go_enter Try.func203, Try.ntmps203
  go_wp2_with (go_at_call 145; refine (s_ConditionValid _ _).mono ?_; rw [cvB_nat p hp]; rintro e w' ⟨rfl, rfl⟩)
  go_loop [4, 5] (fun o i => ∃ k : Nat, k ≤ 4 ∧ i = .int .i64 k ∧ o = .string (txt k (fun s => p &&& one s))) (fun _ i => 4 - (intOf i).toNat)
  case atStart => exact ⟨0, by omega, rfl, rfl⟩
  case round =>
    obtain ⟨k, hk, rfl, rfl⟩ := hrel
    by_cases hlt : k < 4
    · have ht := txt_snoc k (fun s => p &&& one s)
      have HT := Lib.hid ht; clear ht
      have hz : (txt k (fun s => p &&& one s)).size ≤ 4 := by rw [txt_size]; exact hk
      have e1 := wrap_one (t := k) (by omega)
      have e2 := bits_and_nat p (one k) (by omega) (by have := one_lt hlt; omega)
      go_wp2_with (go_at_call 100; refine (s_l2Digit _ _ (and_lt hp)).mono ?_; rintro e w' ⟨rfl, rfl⟩)
      go_round
      case rel => exact ⟨k + 1, by omega, by go_num, by rw [← HT.out]⟩
      case measure => simp [intOf]; omega
    · obtain rfl : k = 4 := by omega
      go_wp2
      go_ret2
      exact ⟨rfl, rfl⟩
theorem s_l9Test (p : Nat) (r : ByteArray) (w : World) (hp : p < 16) (h : Dg 4 r) : Calls Try.prog 123 #[.int .i64 (p : Int), .string r] w fun e w' => e = .returned (.string (txt 4 (fFrom p (dig r)))) ∧ w = w' := by
  have h1 : Dg 4 (txt 4 (fun s => p &&& one s)) := Dg.txt fun _ _ => and_lt hp
  have e1 : txt 4 (fComp (dig (txt 4 (fun s => p &&& one s))) (dig r)) = txt 4 (fFrom p (dig r)) := txt_congr fun a ha => by
    unfold fComp
    rw [txt_dig 4 (fun s => p &&& one s) _ ha (and_lt hp), fFrom_eq (fun s _ => dig_lt r s) p a ha]
  have E1 := Lib.hid e1; clear e1
  go_enter Try.func123, Try.ntmps123
  go_wp2_with (first | (go_at_call 203; refine (s_TestRel _ _ hp).mono ?_; rintro e w' ⟨rfl, rfl⟩) | (go_at_call 124; refine (s_l2Compose _ _ _ h1 h).mono ?_; rw [E1.out]; rintro e w' ⟨rfl, rfl⟩))
  go_ret
  exact ⟨rfl, rfl⟩
end Go.Proofs.Ytiaeakpgldpaiaa
