/- The reference's functions on texts of digits: what each returns; none turns the world. -/
import Derived.Test.YtiaeakpgldpaiaaSpecA
namespace Go.Proofs.Ytiaeakpgldpaiaa
set_option linter.unusedSimpArgs false
set_option linter.unusedVariables false
set_option maxRecDepth 4000
open Go.RowKit

/-- A text of n digits. -/
def Dg (n : Nat) (s : ByteArray) : Prop := s.size = n ∧ hexAll s = true
theorem Dg.hex {n : Nat} {s : ByteArray} (h : Dg n s) (k : Nat) (hk : k < n) : hexVal (byt s k) = (dig s k : Int) := by
  obtain ⟨rfl, h⟩ := h
  exact hexVal_nat ((hexTo_iff s s.size).1 h k hk)
theorem Dg.txt {n : Nat} {F : Nat → Nat} (h : ∀ i, i < n → F i < 16) : Dg n (txt n F) := ⟨txt_size n F, txt_hexAll n F h⟩
theorem Dg.tr {s : ByteArray} (h : trOk s = true) : Dg 16 s := ⟨((trOk_iff s).1 h).1.2, ((trOk_iff s).1 h).1.1⟩
theorem Dg.rel {s : ByteArray} (h : relOk s = true) : Dg 4 s := ⟨((relOk_iff s).1 h).2, ((relOk_iff s).1 h).1⟩
theorem Dg.small {n : Nat} {s : ByteArray} (h : Dg n s) : s.size ≤ n ∧ n ≤ s.size := ⟨Nat.le_of_eq h.1, Nat.le_of_eq h.1.symm⟩

theorem s_l2To (s : ByteArray) (k : Nat) (w : World) (h : Dg 4 s) (hk : k < 4) : Calls Try.prog 99 #[.string s, .int .i64 (k : Int)] w fun e w' => e = .returned (.int .i64 (dig s k : Int)) ∧ w = w' := by
  have hv := h.hex k hk
  obtain ⟨h1, h2⟩ := h.small
  clear h
  have hb := fun (h : k < s.size) => byt_get s k h
  have HV := Lib.hid hv; have HB := Lib.hid hb; clear hv hb
  go_enter Try.func99, Try.ntmps99
  go_wp2_with (go_at_call 179; refine (s_l2Hex _ _).mono ?_; rintro e w' ⟨rfl, rfl⟩)
  go_ret
  exact ⟨ret_int (by rw [HB.out]; exact HV.out), rfl⟩
theorem s_l3Value (s : ByteArray) (k : Nat) (w : World) (h : Dg 16 s) (hk : k < 16) : Calls Try.prog 148 #[.string s, .int .i64 (k : Int)] w fun e w' => e = .returned (.int .i64 (dig s k : Int)) ∧ w = w' := by
  have hv := h.hex k hk
  obtain ⟨h1, h2⟩ := h.small
  clear h
  have hb := fun (h : k < s.size) => byt_get s k h
  have HV := Lib.hid hv; have HB := Lib.hid hb; clear hv hb
  go_enter Try.func148, Try.ntmps148
  go_wp2_with (go_at_call 179; refine (s_l2Hex _ _).mono ?_; rintro e w' ⟨rfl, rfl⟩)
  go_ret
  exact ⟨ret_int (by rw [HB.out]; exact HV.out), rfl⟩
theorem s_l2Digits (s : ByteArray) (n : Int) (w : World) (hs : s.size ≤ 1048576) : Calls Try.prog 234 #[.string s, .int .i64 n] w fun e w' => e = .returned (.bool (hexAll s && decide ((s.size : Int) = n))) ∧ w = w' := by
  go_enter Try.func234, Try.ntmps234
  go_wp2
  go_loop [5] (fun i => ∃ k : Nat, k ≤ s.size ∧ i = .int .i64 k ∧ hexTo s k = true) (fun i => s.size - (intOf i).toNat)
  case atStart => exact ⟨0, by omega, rfl, rfl⟩
  case round =>
    obtain ⟨k, hk, rfl, hn⟩ := hrel
    have HN := Lib.hid hn; clear hn
    by_cases hlt : k < s.size
    · have hb := byt_get s k hlt
      have HB := Lib.hid hb; clear hb
      by_cases hneg : hexVal s[k] < 0
      · go_wp2_with (go_at_call 179; refine (s_l2Hex _ _).mono ?_; rintro e w' ⟨rfl, rfl⟩)
        go_ret
        refine ⟨ret_bool ?_, rfl⟩
        unfold hexAll
        rw [hexTo_false hlt (by rw [← HB.out]; exact hneg)]
        rfl
      · go_wp2_with (go_at_call 179; refine (s_l2Hex _ _).mono ?_; rintro e w' ⟨rfl, rfl⟩)
        go_round
        case rel =>
          refine ⟨k + 1, by omega, by go_num, (hexTo_iff s _).2 fun j hj => ?_⟩
          rcases Nat.lt_or_ge j k with h | h
          · exact (hexTo_iff s k).1 HN.out j h
          · obtain rfl : j = k := by omega
            rw [← HB.out]; omega
        case measure => simp [intOf]; omega
    · have ha : hexAll s = true := by
        obtain rfl : k = s.size := by omega
        exact HN.out
      have HA := Lib.hid ha; clear ha
      go_wp2
      go_ret
      refine ⟨ret_bool ?_, rfl⟩
      rw [HA.out]
      by_cases h : (s.size : Int) = n <;> simp [h]
theorem s_RelValid (s : ByteArray) (w : World) (hs : s.size ≤ 1048576) : Calls Try.prog 178 #[.string s] w fun e w' => e = .returned (.bool (relOk s)) ∧ w = w' := by
  go_enter Try.func178, Try.ntmps178
  go_wp2_with (go_at_call 234; refine (s_l2Digits _ _ _ hs).mono ?_; rintro e w' ⟨rfl, rfl⟩)
  go_ret
  refine ⟨ret_bool ?_, rfl⟩
  unfold relOk
  by_cases h : s.size = 4 <;> simp [h] <;> intro _ <;> omega
theorem s_l9Ready (p : Int) (s : ByteArray) (w : World) (hs : s.size ≤ 1048576) : Calls Try.prog 97 #[.int .i64 p, .string s] w fun e w' => e = .returned (.bool (cvB p && relOk s)) ∧ w = w' := by
  cases hc : cvB p
  all_goals
    go_enter Try.func97, Try.ntmps97
    go_wp2_with (first | (go_at_call 145; refine (s_ConditionValid _ _).mono ?_; rintro e w' ⟨rfl, rfl⟩) | (go_at_call 178; refine (s_RelValid _ _ hs).mono ?_; rintro e w' ⟨rfl, rfl⟩))
    go_ret
    exact ⟨ret_bool (by simp), rfl⟩
theorem s_l3Monotone (s : ByteArray) (w : World) (h : Dg 16 s) : Calls Try.prog 245 #[.string s] w fun e w' => e = .returned (.bool (monoB (dig s))) ∧ w = w' := by
  go_enter Try.func245, Try.ntmps245
  go_wp2
  go_loop [3] (fun i => ∃ k : Nat, k ≤ 16 ∧ i = .int .i64 k ∧ monoTo (dig s) k = true) (fun i => 16 - (intOf i).toNat)
  case atStart => exact ⟨0, by omega, rfl, rfl⟩
  case round =>
    obtain ⟨k, hk, rfl, hn⟩ := hrel
    have HN := Lib.hid hn; clear hn
    by_cases hlt : k < 16
    · go_wp2
      go_loop [4] (fun i => ∃ j : Nat, j ≤ 16 ∧ i = .int .i64 j ∧ monoRow (dig s) k j = true) (fun i => 16 - (intOf i).toNat)
      case atStart => exact ⟨0, by omega, rfl, rfl⟩
      case round =>
        obtain ⟨j, hj, rfl, hm⟩ := hrel
        have HM := Lib.hid hm; clear hm
        by_cases hlj : j < 16
        · have e1 := bits_andn_nat k j hlt hlj
          have e2 := bits_andn_nat (dig s k) (dig s j) (dig_lt _ _) (dig_lt _ _)
          by_cases hp : andn k j = 0
          · by_cases hq : andn (dig s k) (dig s j) = 0
            · have HP := Lib.hid hp; have HQ := Lib.hid hq
              have b1 : ((andn k j : Int) == 0) = true := by simp [hp]
              have b2 : ((andn (dig s k) (dig s j) : Int) != 0) = false := by simp [hq]
              clear hp hq
              go_wp2_with (go_at_call 148; refine (s_l3Value _ _ _ h (by omega)).mono ?_; rintro e w' ⟨rfl, rfl⟩)
              go_round
              case rel => exact ⟨j + 1, by omega, by go_num, monoRow_succ HM.out fun _ => HQ.out⟩
              case measure => simp [intOf]; omega
            · have HP := Lib.hid hp; have HQ := Lib.hid hq
              have b1 : ((andn k j : Int) == 0) = true := by simp [hp]
              have b2 : ((andn (dig s k) (dig s j) : Int) != 0) = true := by simp; omega
              clear hp hq
              go_wp2_with (go_at_call 148; refine (s_l3Value _ _ _ h (by omega)).mono ?_; rintro e w' ⟨rfl, rfl⟩)
              go_ret
              exact ⟨ret_bool (monoB_false hlt hlj HP.out HQ.out).symm, rfl⟩
          · have HP := Lib.hid hp
            have b1 : ((andn k j : Int) == 0) = false := by simp; omega
            clear hp
            go_wp2
            go_round
            case rel => exact ⟨j + 1, by omega, by go_num, monoRow_succ HM.out fun h => absurd h HP.out⟩
            case measure => simp [intOf]; omega
        · go_wp2
          go_round
          case rel =>
            obtain rfl : j = 16 := by omega
            exact ⟨k + 1, by omega, by go_num, monoTo_succ HN.out HM.out⟩
          case measure => simp [intOf]; omega
    · go_wp2
      go_ret
      obtain rfl : k = 16 := by omega
      exact ⟨ret_bool HN.out.symm, rfl⟩
theorem s_MonotoneTable (s : ByteArray) (w : World) (hs : s.size ≤ 1048576) : Calls Try.prog 211 #[.string s] w fun e w' => e = .returned (.bool (trOk s)) ∧ w = w' := by
  have hd : decide ((s.size : Int) = 16) = decide (s.size = 16) := by by_cases h : s.size = 16 <;> simp [h]; omega
  have HD := Lib.hid hd; clear hd
  cases hc : (hexAll s && decide (s.size = 16))
  · have HC := Lib.hid hc; clear hc
    have h1 : (hexAll s && decide ((s.size : Int) = 16)) = false := by rw [HD.out]; exact HC.out
    go_enter Try.func211, Try.ntmps211
    go_wp2_with (go_at_call 234; refine (s_l2Digits _ _ _ hs).mono ?_; rw [h1]; rintro e w' ⟨rfl, rfl⟩)
    go_ret
    refine ⟨ret_bool ?_, rfl⟩
    unfold trOk
    rw [HC.out]; rfl
  · have HC := Lib.hid hc; clear hc
    have h1 : (hexAll s && decide ((s.size : Int) = 16)) = true := by rw [HD.out]; exact HC.out
    have h2 : Dg 16 s := by have := HC.out; simp only [Bool.and_eq_true, decide_eq_true_eq] at this; exact ⟨this.2, this.1⟩
    go_enter Try.func211, Try.ntmps211
    go_wp2_with (first | (go_at_call 234; refine (s_l2Digits _ _ _ hs).mono ?_; rw [h1]; rintro e w' ⟨rfl, rfl⟩) | (go_at_call 245; refine (s_l3Monotone _ _ h2).mono ?_; rintro e w' ⟨rfl, rfl⟩))
    go_ret
    refine ⟨ret_bool ?_, rfl⟩
    unfold trOk
    rw [HC.out]; rfl
theorem s_TransValid (s : ByteArray) (w : World) (hs : s.size ≤ 1048576) : Calls Try.prog 132 #[.string s] w fun e w' => e = .returned (.bool (trOk s)) ∧ w = w' := by
  go_enter Try.func132, Try.ntmps132
  go_wp2_with (go_at_call 211; refine (s_MonotoneTable _ _ hs).mono ?_; rintro e w' ⟨rfl, rfl⟩)
  go_ret
  exact ⟨rfl, rfl⟩
theorem s_l7Ready (s : ByteArray) (p : Int) (w : World) (hs : s.size ≤ 1048576) : Calls Try.prog 144 #[.string s, .int .i64 p] w fun e w' => e = .returned (.bool (trOk s && cvB p)) ∧ w = w' := by
  cases hc : trOk s
  all_goals
    go_enter Try.func144, Try.ntmps144
    go_wp2_with (first | (go_at_call 145; refine (s_ConditionValid _ _).mono ?_; rintro e w' ⟨rfl, rfl⟩) | (go_at_call 132; refine (s_TransValid _ _ hs).mono ?_; rintro e w' ⟨rfl, rfl⟩))
    go_ret
    exact ⟨ret_bool (by simp), rfl⟩
end Go.Proofs.Ytiaeakpgldpaiaa
