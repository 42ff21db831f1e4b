/- Joined texts: SpecA, SpecB, SpecC, SpecG, SpecN. -/
import Derived.Test.YtiaeakpgldpaiaaGreatProg
import Derived.Test.YtiaeakpgldpaiaaGreatQJ1
import Derived.Test.YtiaeakpgldpaiaaGreatQJ0
namespace Go.Proofs.YtiaeakpgldpaiaaGreat
set_option linter.unusedSimpArgs false
set_option linter.unusedVariables false
set_option maxRecDepth 4000
open Go.RowKit

theorem s_l1In (n a b : Int) (w : World) : Calls Tryz.prog 103 #[.int .i64 n, .int .i64 a, .int .i64 b] w fun e w' => e = .returned (.bool (decide (a ≤ n) && decide (n ≤ b))) ∧ w = w' := by
  by_cases h1 : a ≤ n <;> by_cases h2 : n ≤ b
  all_goals
    go_enter Tryz.func103, Tryz.ntmps103
    go_wp2
    go_ret
    exact ⟨by simp [h1, h2], rfl⟩
theorem s_ConditionValid (p : Int) (w : World) : Calls Tryz.prog 55 #[.int .i64 p] w fun e w' => e = .returned (.bool (cvB p)) ∧ w = w' := by
  go_enter Tryz.func55, Tryz.ntmps55
  go_wp2_with (go_at_call 103; refine (s_l1In _ _ _ _).mono ?_; rintro e w' ⟨rfl, rfl⟩)
  go_ret
  exact ⟨rfl, rfl⟩
theorem s_l1Has (p i : Nat) (w : World) (hp : p < 65536) (hi : i < 64) : Calls Tryz.prog 120 #[.int .i64 (p : Int), .int .i64 (i : Int)] w fun e w' => e = .returned (.bool (p.testBit i)) ∧ w = w' := by
  have hb := bits_has' p i hp
  go_enter Tryz.func120, Tryz.ntmps120
  go_wp2
  go_ret
  exact ⟨by rw [← hb]; rfl, rfl⟩
theorem s_l14Find_at (S : ByteArray) (b : UInt8) (w : World) (hS : S.size = 16) (hc : ∀ k (h : k < S.size), S[k]'h = hexChr k) : Calls Tryz.prog 117 #[.string S, .int .u8 (b.toNat : Int)] w fun e w' => e = .returned (.int .i64 (hexVal b)) ∧ w = w' := by
  have hS1 : S.size ≤ 16 := by omega
  have hS2 : 16 ≤ S.size := by omega
  clear hS
  have HC := Lib.hid hc; clear hc
  go_enter Tryz.func117, Tryz.ntmps117
  go_wp2
  go_loop [5] (fun i => ∃ k : Nat, k ≤ 16 ∧ i = .int .i64 k ∧ ∀ j, j < k → hexChr j ≠ b) (fun i => 16 - (intOf i).toNat)
  case atStart => exact ⟨0, by omega, rfl, fun j hj => by omega⟩
  case round =>
    obtain ⟨k, hk, rfl, hn⟩ := hrel
    have HN := Lib.hid hn; clear hn
    by_cases hlt : k < S.size
    · by_cases he : S[k] = b
      · have hb : ((S[k].toNat : Int) == (b.toNat : Int)) = true := by simp [he]
        go_wp2
        go_ret
        exact ⟨ret_int (hexVal_some (by omega) ((HC.out k hlt).symm.trans he)).symm, rfl⟩
      · have hb : ((S[k].toNat : Int) == (b.toNat : Int)) = false := by
          rw [beq_eq_false_iff_ne]
          intro h
          exact he (UInt8.toNat_inj.1 (by omega))
        have HE := Lib.hid he; clear he
        go_wp2
        go_round
        case rel =>
          refine ⟨k + 1, by omega, by go_num, fun j hj => ?_⟩
          rcases Nat.lt_or_ge j k with h | h
          · exact HN.out j h
          · obtain rfl : j = k := by omega
            rw [← HC.out j hlt]; exact HE.out
        case measure => simp [intOf]; omega
    · go_wp2
      go_ret
      exact ⟨ret_int (hexVal_none fun j hj => HN.out j (by omega)).symm, rfl⟩
theorem s_l14Find_hex (b : UInt8) (w : World) : Calls Tryz.prog 117 #[.string ⟨#[48, 49, 50, 51, 52, 53, 54, 55, 56, 57, 97, 98, 99, 100, 101, 102]⟩, .int .u8 (b.toNat : Int)] w fun e w' => e = .returned (.int .i64 (hexVal b)) ∧ w = w' :=
  s_l14Find_at _ b w rfl (by
    intro k h
    have key : ∀ k : Nat, k < 16 → (#[48, 49, 50, 51, 52, 53, 54, 55, 56, 57, 97, 98, 99, 100, 101, 102] : Array UInt8).getD k 0 = hexChr k := by decide
    rw [byt_get]
    exact key k h)
theorem s_l2Hex (b : UInt8) (w : World) : Calls Tryz.prog 83 #[.int .u8 (b.toNat : Int)] w fun e w' => e = .returned (.int .i64 (hexVal b)) ∧ w = w' := by
  go_enter Tryz.func83, Tryz.ntmps83
  go_wp2_with (go_at_call 117; refine (s_l14Find_hex _ _).mono ?_; rintro e w' ⟨rfl, rfl⟩)
  go_ret
  exact ⟨rfl, rfl⟩
theorem s_l2Digit (p : Nat) (w : World) (hp : p < 16) : Calls Tryz.prog 25 #[.int .i64 (p : Int)] w fun e w' => e = .returned (.string ⟨#[hexChr p]⟩) ∧ w = w' := by
  go_enter Tryz.func25, Tryz.ntmps25
  go_wp2
  go_ret
  refine ⟨?_, rfl⟩
  have key : ∀ p : Nat, p < 16 → (⟨#[48, 49, 50, 51, 52, 53, 54, 55, 56, 57, 97, 98, 99, 100, 101, 102]⟩ : ByteArray).extract p (p + 1) = ⟨#[hexChr p]⟩ := by decide
  exact congrArg (fun s => Ending.returned (.string s)) (key p hp)
theorem s_l2Digit_0 (w : World) : Calls Tryz.prog 25 #[.int .i64 0] w fun e w' => e = .returned (.string ⟨#[hexChr 0]⟩) ∧ w = w' := s_l2Digit 0 w (by omega)
end Go.Proofs.YtiaeakpgldpaiaaGreat
namespace Go.Proofs.YtiaeakpgldpaiaaGreat
set_option linter.unusedSimpArgs false
set_option linter.unusedVariables false
set_option maxRecDepth 4000
open Go.RowKit

/-- A text of n digits. -/
def Dg (n : Nat) (s : ByteArray) : Prop := s.size = n ∧ hexAll s = true
theorem Dg.hex {n : Nat} {s : ByteArray} (h : Dg n s) (k : Nat) (hk : k < n) : hexVal (byt s k) = (dig s k : Int) := by
  obtain ⟨rfl, h⟩ := h
  exact hexVal_nat ((hexTo_iff s s.size).1 h k hk)
theorem Dg.txt {n : Nat} {F : Nat → Nat} (h : ∀ i, i < n → F i < 16) : Dg n (txt n F) := ⟨txt_size n F, txt_hexAll n F h⟩
theorem Dg.tr {s : ByteArray} (h : trOk s = true) : Dg 16 s := ⟨((trOk_iff s).1 h).1.2, ((trOk_iff s).1 h).1.1⟩
theorem Dg.rel {s : ByteArray} (h : relOk s = true) : Dg 4 s := ⟨((relOk_iff s).1 h).2, ((relOk_iff s).1 h).1⟩
theorem Dg.small {n : Nat} {s : ByteArray} (h : Dg n s) : s.size ≤ n ∧ n ≤ s.size := ⟨Nat.le_of_eq h.1, Nat.le_of_eq h.1.symm⟩

theorem s_l2To (s : ByteArray) (k : Nat) (w : World) (h : Dg 4 s) (hk : k < 4) : Calls Tryz.prog 124 #[.string s, .int .i64 (k : Int)] w fun e w' => e = .returned (.int .i64 (dig s k : Int)) ∧ w = w' := by
  have hv := h.hex k hk
  obtain ⟨h1, h2⟩ := h.small
  clear h
  have hb := fun (h : k < s.size) => byt_get s k h
  have HV := Lib.hid hv; have HB := Lib.hid hb; clear hv hb
  go_enter Tryz.func124, Tryz.ntmps124
  go_wp2_with (go_at_call 83; refine (s_l2Hex _ _).mono ?_; rintro e w' ⟨rfl, rfl⟩)
  go_ret
  exact ⟨ret_int (by rw [HB.out]; exact HV.out), rfl⟩
theorem s_l3Value (s : ByteArray) (k : Nat) (w : World) (h : Dg 16 s) (hk : k < 16) : Calls Tryz.prog 94 #[.string s, .int .i64 (k : Int)] w fun e w' => e = .returned (.int .i64 (dig s k : Int)) ∧ w = w' := by
  have hv := h.hex k hk
  obtain ⟨h1, h2⟩ := h.small
  clear h
  have hb := fun (h : k < s.size) => byt_get s k h
  have HV := Lib.hid hv; have HB := Lib.hid hb; clear hv hb
  go_enter Tryz.func94, Tryz.ntmps94
  go_wp2_with (go_at_call 83; refine (s_l2Hex _ _).mono ?_; rintro e w' ⟨rfl, rfl⟩)
  go_ret
  exact ⟨ret_int (by rw [HB.out]; exact HV.out), rfl⟩
theorem s_l2Digits (s : ByteArray) (n : Int) (w : World) (hs : s.size ≤ 1048576) : Calls Tryz.prog 104 #[.string s, .int .i64 n] w fun e w' => e = .returned (.bool (hexAll s && decide ((s.size : Int) = n))) ∧ w = w' := by
  go_enter Tryz.func104, Tryz.ntmps104
  go_wp2
  go_loop [5] (fun i => ∃ k : Nat, k ≤ s.size ∧ i = .int .i64 k ∧ hexTo s k = true) (fun i => s.size - (intOf i).toNat)
  case atStart => exact ⟨0, by omega, rfl, rfl⟩
  case round =>
    obtain ⟨k, hk, rfl, hn⟩ := hrel
    have HN := Lib.hid hn; clear hn
    by_cases hlt : k < s.size
    · have hb := byt_get s k hlt
      have HB := Lib.hid hb; clear hb
      by_cases hneg : hexVal s[k] < 0
      · go_wp2_with (go_at_call 83; refine (s_l2Hex _ _).mono ?_; rintro e w' ⟨rfl, rfl⟩)
        go_ret
        refine ⟨ret_bool ?_, rfl⟩
        unfold hexAll
        rw [hexTo_false hlt (by rw [← HB.out]; exact hneg)]
        rfl
      · go_wp2_with (go_at_call 83; refine (s_l2Hex _ _).mono ?_; rintro e w' ⟨rfl, rfl⟩)
        go_round
        case rel =>
          refine ⟨k + 1, by omega, by go_num, (hexTo_iff s _).2 fun j hj => ?_⟩
          rcases Nat.lt_or_ge j k with h | h
          · exact (hexTo_iff s k).1 HN.out j h
          · obtain rfl : j = k := by omega
            rw [← HB.out]; omega
        case measure => simp [intOf]; omega
    · have ha : hexAll s = true := by
        obtain rfl : k = s.size := by omega
        exact HN.out
      have HA := Lib.hid ha; clear ha
      go_wp2
      go_ret
      refine ⟨ret_bool ?_, rfl⟩
      rw [HA.out]
      by_cases h : (s.size : Int) = n <;> simp [h]
theorem s_RelValid (s : ByteArray) (w : World) (hs : s.size ≤ 1048576) : Calls Tryz.prog 56 #[.string s] w fun e w' => e = .returned (.bool (relOk s)) ∧ w = w' := by
  go_enter Tryz.func56, Tryz.ntmps56
  go_wp2_with (go_at_call 104; refine (s_l2Digits _ _ _ hs).mono ?_; rintro e w' ⟨rfl, rfl⟩)
  go_ret
  refine ⟨ret_bool ?_, rfl⟩
  unfold relOk
  by_cases h : s.size = 4 <;> simp [h] <;> intro _ <;> omega
theorem s_l9Ready (p : Int) (s : ByteArray) (w : World) (hs : s.size ≤ 1048576) : Calls Tryz.prog 23 #[.int .i64 p, .string s] w fun e w' => e = .returned (.bool (cvB p && relOk s)) ∧ w = w' := by
  cases hc : cvB p
  all_goals
    go_enter Tryz.func23, Tryz.ntmps23
    go_wp2_with (first | (go_at_call 55; refine (s_ConditionValid _ _).mono ?_; rintro e w' ⟨rfl, rfl⟩) | (go_at_call 56; refine (s_RelValid _ _ hs).mono ?_; rintro e w' ⟨rfl, rfl⟩))
    go_ret
    exact ⟨ret_bool (by simp), rfl⟩
theorem s_l3Monotone (s : ByteArray) (w : World) (h : Dg 16 s) : Calls Tryz.prog 126 #[.string s] w fun e w' => e = .returned (.bool (monoB (dig s))) ∧ w = w' := by
  go_enter Tryz.func126, Tryz.ntmps126
  go_wp2
  go_loop [3] (fun i => ∃ k : Nat, k ≤ 16 ∧ i = .int .i64 k ∧ monoTo (dig s) k = true) (fun i => 16 - (intOf i).toNat)
  case atStart => exact ⟨0, by omega, rfl, rfl⟩
  case round =>
    obtain ⟨k, hk, rfl, hn⟩ := hrel
    have HN := Lib.hid hn; clear hn
    by_cases hlt : k < 16
    · go_wp2
      go_loop [4] (fun i => ∃ j : Nat, j ≤ 16 ∧ i = .int .i64 j ∧ monoRow (dig s) k j = true) (fun i => 16 - (intOf i).toNat)
      case atStart => exact ⟨0, by omega, rfl, rfl⟩
      case round =>
        obtain ⟨j, hj, rfl, hm⟩ := hrel
        have HM := Lib.hid hm; clear hm
        by_cases hlj : j < 16
        · have e1 := bits_andn_nat k j hlt hlj
          have e2 := bits_andn_nat (dig s k) (dig s j) (dig_lt _ _) (dig_lt _ _)
          by_cases hp : andn k j = 0
          · by_cases hq : andn (dig s k) (dig s j) = 0
            · have HP := Lib.hid hp; have HQ := Lib.hid hq
              have b1 : ((andn k j : Int) == 0) = true := by simp [hp]
              have b2 : ((andn (dig s k) (dig s j) : Int) != 0) = false := by simp [hq]
              clear hp hq
              go_wp2_with (go_at_call 94; refine (s_l3Value _ _ _ h (by omega)).mono ?_; rintro e w' ⟨rfl, rfl⟩)
              go_round
              case rel => exact ⟨j + 1, by omega, by go_num, monoRow_succ HM.out fun _ => HQ.out⟩
              case measure => simp [intOf]; omega
            · have HP := Lib.hid hp; have HQ := Lib.hid hq
              have b1 : ((andn k j : Int) == 0) = true := by simp [hp]
              have b2 : ((andn (dig s k) (dig s j) : Int) != 0) = true := by simp; omega
              clear hp hq
              go_wp2_with (go_at_call 94; refine (s_l3Value _ _ _ h (by omega)).mono ?_; rintro e w' ⟨rfl, rfl⟩)
              go_ret
              exact ⟨ret_bool (monoB_false hlt hlj HP.out HQ.out).symm, rfl⟩
          · have HP := Lib.hid hp
            have b1 : ((andn k j : Int) == 0) = false := by simp; omega
            clear hp
            go_wp2
            go_round
            case rel => exact ⟨j + 1, by omega, by go_num, monoRow_succ HM.out fun h => absurd h HP.out⟩
            case measure => simp [intOf]; omega
        · go_wp2
          go_round
          case rel =>
            obtain rfl : j = 16 := by omega
            exact ⟨k + 1, by omega, by go_num, monoTo_succ HN.out HM.out⟩
          case measure => simp [intOf]; omega
    · go_wp2
      go_ret
      obtain rfl : k = 16 := by omega
      exact ⟨ret_bool HN.out.symm, rfl⟩
theorem s_MonotoneTable (s : ByteArray) (w : World) (hs : s.size ≤ 1048576) : Calls Tryz.prog 123 #[.string s] w fun e w' => e = .returned (.bool (trOk s)) ∧ w = w' := by
  have hd : decide ((s.size : Int) = 16) = decide (s.size = 16) := by by_cases h : s.size = 16 <;> simp [h]; omega
  have HD := Lib.hid hd; clear hd
  cases hc : (hexAll s && decide (s.size = 16))
  · have HC := Lib.hid hc; clear hc
    have h1 : (hexAll s && decide ((s.size : Int) = 16)) = false := by rw [HD.out]; exact HC.out
    go_enter Tryz.func123, Tryz.ntmps123
    go_wp2_with (go_at_call 104; refine (s_l2Digits _ _ _ hs).mono ?_; rw [h1]; rintro e w' ⟨rfl, rfl⟩)
    go_ret
    refine ⟨ret_bool ?_, rfl⟩
    unfold trOk
    rw [HC.out]; rfl
  · have HC := Lib.hid hc; clear hc
    have h1 : (hexAll s && decide ((s.size : Int) = 16)) = true := by rw [HD.out]; exact HC.out
    have h2 : Dg 16 s := by have := HC.out; simp only [Bool.and_eq_true, decide_eq_true_eq] at this; exact ⟨this.2, this.1⟩
    go_enter Tryz.func123, Tryz.ntmps123
    go_wp2_with (first | (go_at_call 104; refine (s_l2Digits _ _ _ hs).mono ?_; rw [h1]; rintro e w' ⟨rfl, rfl⟩) | (go_at_call 126; refine (s_l3Monotone _ _ h2).mono ?_; rintro e w' ⟨rfl, rfl⟩))
    go_ret
    refine ⟨ret_bool ?_, rfl⟩
    unfold trOk
    rw [HC.out]; rfl
theorem s_TransValid (s : ByteArray) (w : World) (hs : s.size ≤ 1048576) : Calls Tryz.prog 114 #[.string s] w fun e w' => e = .returned (.bool (trOk s)) ∧ w = w' := by
  go_enter Tryz.func114, Tryz.ntmps114
  go_wp2_with (go_at_call 123; refine (s_MonotoneTable _ _ hs).mono ?_; rintro e w' ⟨rfl, rfl⟩)
  go_ret
  exact ⟨rfl, rfl⟩
theorem s_l3Both (s t : ByteArray) (w : World) (hs : s.size ≤ 1048576) (ht : t.size ≤ 1048576) : Calls Tryz.prog 76 #[.string s, .string t] w fun e w' => e = .returned (.bool (trOk s && trOk t)) ∧ w = w' := by
  cases hc : trOk s
  all_goals
    go_enter Tryz.func76, Tryz.ntmps76
    go_wp2_with (go_at_call 114; refine (s_TransValid _ _ (by assumption)).mono ?_; rintro e w' ⟨rfl, rfl⟩)
    go_ret
    exact ⟨ret_bool (by simp), rfl⟩
end Go.Proofs.YtiaeakpgldpaiaaGreat
namespace Go.Proofs.YtiaeakpgldpaiaaGreat
set_option linter.unusedSimpArgs false
set_option linter.unusedVariables false
set_option maxRecDepth 4000
open Go.RowKit

theorem s_l3Assert (p : Nat) (w : World) (hp : p < 16) : Calls Tryz.prog 79 #[.int .i64 (p : Int)] w fun e w' => e = .returned (.string (txt 16 (fun q => p &&& q))) ∧ w = w' := by
  go_enter Tryz.func79, Tryz.ntmps79
  go_wp2
  go_loop [3, 4] (fun o i => ∃ k : Nat, k ≤ 16 ∧ i = .int .i64 k ∧ o = .string (txt k (fun q => p &&& q))) (fun _ i => 16 - (intOf i).toNat)
  case atStart => exact ⟨0, by omega, rfl, rfl⟩
  case round =>
    obtain ⟨k, hk, rfl, rfl⟩ := hrel
    by_cases hlt : k < 16
    · have ht := txt_snoc k (fun q => p &&& q)
      have HT := Lib.hid ht; clear ht
      have hz : (txt k (fun q => p &&& q)).size ≤ 16 := by rw [txt_size]; exact hk
      have e1 := bits_and_nat p k (by omega) (by omega)
      go_wp2_with (first | (go_at_call 25; refine (s_l2Digit _ _ (and_lt hp)).mono ?_; rintro e w' ⟨rfl, rfl⟩))
      go_round
      case rel => exact ⟨k + 1, by omega, by go_num, by rw [← HT.out]⟩
      case measure => simp [intOf]; omega
    · obtain rfl : k = 16 := by omega
      go_wp2
      go_ret
      exact ⟨rfl, rfl⟩
theorem s_l3Then (t u : ByteArray) (w : World) (ht : Dg 16 t) (hu : Dg 16 u) : Calls Tryz.prog 78 #[.string t, .string u] w fun e w' => e = .returned (.string (txt 16 (fun p => dig t (dig u p)))) ∧ w = w' := by
  go_enter Tryz.func78, Tryz.ntmps78
  go_wp2
  go_loop [5, 6] (fun o i => ∃ k : Nat, k ≤ 16 ∧ i = .int .i64 k ∧ o = .string (txt k (fun p => dig t (dig u p)))) (fun _ i => 16 - (intOf i).toNat)
  case atStart => exact ⟨0, by omega, rfl, rfl⟩
  case round =>
    obtain ⟨k, hk, rfl, rfl⟩ := hrel
    by_cases hlt : k < 16
    · have ht := txt_snoc k (fun p => dig t (dig u p))
      have HT := Lib.hid ht; clear ht
      have hz : (txt k (fun p => dig t (dig u p))).size ≤ 16 := by rw [txt_size]; exact hk
      skip
      go_wp2_with (first | (go_at_call 94; refine (s_l3Value _ _ _ (by assumption) (by first | omega | exact dig_lt _ _)).mono ?_; rintro e w' ⟨rfl, rfl⟩) | (go_at_call 25; refine (s_l2Digit _ _ (dig_lt _ _)).mono ?_; rintro e w' ⟨rfl, rfl⟩))
      go_round
      case rel => exact ⟨k + 1, by omega, by go_num, by rw [← HT.out]⟩
      case measure => simp [intOf]; omega
    · obtain rfl : k = 16 := by omega
      go_wp2
      go_ret
      exact ⟨rfl, rfl⟩
theorem s_l3Meet (t u : ByteArray) (w : World) (ht : Dg 16 t) (hu : Dg 16 u) : Calls Tryz.prog 84 #[.string t, .string u] w fun e w' => e = .returned (.string (txt 16 (fun p => dig t p &&& dig u p))) ∧ w = w' := by
  go_enter Tryz.func84, Tryz.ntmps84
  go_wp2
  go_loop [5, 6] (fun o i => ∃ k : Nat, k ≤ 16 ∧ i = .int .i64 k ∧ o = .string (txt k (fun p => dig t p &&& dig u p))) (fun _ i => 16 - (intOf i).toNat)
  case atStart => exact ⟨0, by omega, rfl, rfl⟩
  case round =>
    obtain ⟨k, hk, rfl, rfl⟩ := hrel
    by_cases hlt : k < 16
    · have ht := txt_snoc k (fun p => dig t p &&& dig u p)
      have HT := Lib.hid ht; clear ht
      have hz : (txt k (fun p => dig t p &&& dig u p)).size ≤ 16 := by rw [txt_size]; exact hk
      have e1 := bits_and_nat (dig t k) (dig u k) (by have := dig_lt t k; omega) (by have := dig_lt u k; omega)
      go_wp2_with (first | (go_at_call 94; refine (s_l3Value _ _ _ (by assumption) (by first | omega | exact dig_lt _ _)).mono ?_; rintro e w' ⟨rfl, rfl⟩) | (go_at_call 25; refine (s_l2Digit _ _ (and_lt (dig_lt _ _))).mono ?_; rintro e w' ⟨rfl, rfl⟩))
      go_round
      case rel => exact ⟨k + 1, by omega, by go_num, by rw [← HT.out]⟩
      case measure => simp [intOf]; omega
    · obtain rfl : k = 16 := by omega
      go_wp2
      go_ret
      exact ⟨rfl, rfl⟩
theorem s_l3Join (t u : ByteArray) (w : World) (ht : Dg 16 t) (hu : Dg 16 u) : Calls Tryz.prog 77 #[.string t, .string u] w fun e w' => e = .returned (.string (txt 16 (fun p => dig t p ||| dig u p))) ∧ w = w' := by
  go_enter Tryz.func77, Tryz.ntmps77
  go_wp2
  go_loop [5, 6] (fun o i => ∃ k : Nat, k ≤ 16 ∧ i = .int .i64 k ∧ o = .string (txt k (fun p => dig t p ||| dig u p))) (fun _ i => 16 - (intOf i).toNat)
  case atStart => exact ⟨0, by omega, rfl, rfl⟩
  case round =>
    obtain ⟨k, hk, rfl, rfl⟩ := hrel
    by_cases hlt : k < 16
    · have ht := txt_snoc k (fun p => dig t p ||| dig u p)
      have HT := Lib.hid ht; clear ht
      have hz : (txt k (fun p => dig t p ||| dig u p)).size ≤ 16 := by rw [txt_size]; exact hk
      have e1 := bits_or_nat (dig t k) (dig u k) (by have := dig_lt t k; omega) (by have := dig_lt u k; omega)
      go_wp2_with (first | (go_at_call 94; refine (s_l3Value _ _ _ (by assumption) (by first | omega | exact dig_lt _ _)).mono ?_; rintro e w' ⟨rfl, rfl⟩) | (go_at_call 25; refine (s_l2Digit _ _ (or_lt (dig_lt _ _) (dig_lt _ _))).mono ?_; rintro e w' ⟨rfl, rfl⟩))
      go_round
      case rel => exact ⟨k + 1, by omega, by go_num, by rw [← HT.out]⟩
      case measure => simp [intOf]; omega
    · obtain rfl : k = 16 := by omega
      go_wp2
      go_ret
      exact ⟨rfl, rfl⟩
theorem s_l3Dual (t : ByteArray) (w : World) (ht : Dg 16 t) : Calls Tryz.prog 80 #[.string t] w fun e w' => e = .returned (.string (txt 16 (fun p => andn 15 (dig t (andn 15 p))))) ∧ w = w' := by
  go_enter Tryz.func80, Tryz.ntmps80
  go_wp2
  go_loop [3, 4] (fun o i => ∃ k : Nat, k ≤ 16 ∧ i = .int .i64 k ∧ o = .string (txt k (fun p => andn 15 (dig t (andn 15 p))))) (fun _ i => 16 - (intOf i).toNat)
  case atStart => exact ⟨0, by omega, rfl, rfl⟩
  case round =>
    obtain ⟨k, hk, rfl, rfl⟩ := hrel
    by_cases hlt : k < 16
    · have ht := txt_snoc k (fun p => andn 15 (dig t (andn 15 p)))
      have HT := Lib.hid ht; clear ht
      have hz : (txt k (fun p => andn 15 (dig t (andn 15 p)))).size ≤ 16 := by rw [txt_size]; exact hk
      have e1 : bits .andNot .i64 (15 : Int) (k : Int) = ((andn 15 k : Nat) : Int) := bits_andn_nat 15 k (by omega) (by omega); have e2 : bits .andNot .i64 (15 : Int) (dig t (andn 15 k) : Int) = ((andn 15 (dig t (andn 15 k)) : Nat) : Int) := bits_andn_nat 15 (dig t (andn 15 k)) (by omega) (dig_lt _ _); have hx := andn_lt (a := 15) (b := k) (by omega)
      go_wp2_with (first | (go_at_call 94; refine (s_l3Value _ _ _ (by assumption) (by first | omega | exact dig_lt _ _)).mono ?_; rintro e w' ⟨rfl, rfl⟩) | (go_at_call 25; refine (s_l2Digit _ _ (andn_lt (by omega))).mono ?_; rintro e w' ⟨rfl, rfl⟩))
      go_round
      case rel => exact ⟨k + 1, by omega, by go_num, by rw [← HT.out]⟩
      case measure => simp [intOf]; omega
    · obtain rfl : k = 16 := by omega
      go_wp2
      go_ret
      exact ⟨rfl, rfl⟩
end Go.Proofs.YtiaeakpgldpaiaaGreat
namespace Go.Proofs.YtiaeakpgldpaiaaGreat
set_option linter.unusedSimpArgs false
set_option linter.unusedVariables false
set_option maxRecDepth 4000
open Go.RowKit

theorem s_l2Diamond (r : ByteArray) (p : Nat) (w : World) (h : Dg 4 r) (hp : p < 16) : Calls Tryz.prog 115 #[.string r, .int .i64 (p : Int)] w fun e w' => e = .returned (.int .i64 (fDia (dig r) p 4 : Int)) ∧ w = w' := by
  go_enter Tryz.func115, Tryz.ntmps115
  go_wp2
  go_loop [5, 6] (fun o i => ∃ k : Nat, k ≤ 4 ∧ i = .int .i64 k ∧ o = .int .i64 (fDia (dig r) p k : Int)) (fun _ i => 4 - (intOf i).toNat)
  case atStart => exact ⟨0, by omega, rfl, rfl⟩
  case round =>
    obtain ⟨k, hk, rfl, rfl⟩ := hrel
    by_cases hlt : k < 4
    · have e1 := wrap_one (t := k) (by omega)
      have hz : fDia (dig r) p k < 16 := Nat.lt_of_lt_of_le (mkC_lt _ k) (Nat.pow_le_pow_right (n := 2) (j := 4) (by decide) hk)
      have e2 := bits_or_nat (fDia (dig r) p k) (one k) (by omega) (by have := one_lt hlt; omega)
      have e3 := bits_and_nat (dig r k) p (by have := dig_lt r k; omega) (by omega)
      by_cases ha : dig r k &&& p = 0
      · have b1 : (((dig r k &&& p : Nat) : Int) != 0) = false := by simp [ha]
        have HA := Lib.hid ha; clear ha
        go_wp2_with (go_at_call 124; refine (s_l2To _ _ _ h hlt).mono ?_; rintro e w' ⟨rfl, rfl⟩)
        go_round
        case rel => exact ⟨k + 1, by omega, by go_num, by rw [fDia_no HA.out]⟩
        case measure => simp [intOf]; omega
      · have b1 : (((dig r k &&& p : Nat) : Int) != 0) = true := by rw [bne_iff_ne]; omega
        have HA := Lib.hid ha; clear ha
        go_wp2_with (go_at_call 124; refine (s_l2To _ _ _ h hlt).mono ?_; rintro e w' ⟨rfl, rfl⟩)
        go_round
        case rel => exact ⟨k + 1, by omega, by go_num, by rw [fDia_yes HA.out]⟩
        case measure => simp [intOf]; omega
    · obtain rfl : k = 4 := by omega
      go_wp2
      go_ret
      exact ⟨rfl, rfl⟩
theorem s_l3Angel (r : ByteArray) (w : World) (h : Dg 4 r) : Calls Tryz.prog 81 #[.string r] w fun e w' => e = .returned (.string (txt 16 (fun p => fDia (dig r) p 4))) ∧ w = w' := by
  go_enter Tryz.func81, Tryz.ntmps81
  go_wp2
  go_loop [3, 4] (fun o i => ∃ k : Nat, k ≤ 16 ∧ i = .int .i64 k ∧ o = .string (txt k (fun p => fDia (dig r) p 4))) (fun _ i => 16 - (intOf i).toNat)
  case atStart => exact ⟨0, by omega, rfl, rfl⟩
  case round =>
    obtain ⟨k, hk, rfl, rfl⟩ := hrel
    by_cases hlt : k < 16
    · have ht := txt_snoc k (fun p => fDia (dig r) p 4)
      have HT := Lib.hid ht; clear ht
      have hz : (txt k (fun p => fDia (dig r) p 4)).size ≤ 16 := by rw [txt_size]; exact hk
      skip
      go_wp2_with (first | (go_at_call 115; refine (s_l2Diamond _ _ _ h hlt).mono ?_; rintro e w' ⟨rfl, rfl⟩) | (go_at_call 25; refine (s_l2Digit _ _ (fDia_lt _ _)).mono ?_; rintro e w' ⟨rfl, rfl⟩))
      go_round
      case rel => exact ⟨k + 1, by omega, by go_num, by rw [← HT.out]⟩
      case measure => simp [intOf]; omega
    · obtain rfl : k = 16 := by omega
      go_wp2
      go_ret
      exact ⟨rfl, rfl⟩
end Go.Proofs.YtiaeakpgldpaiaaGreat
namespace Go.Proofs.YtiaeakpgldpaiaaGreat
set_option linter.unusedSimpArgs false
set_option linter.unusedVariables false
set_option maxRecDepth 4000
open Go.RowKit

theorem box_txt {R : Nat → Nat} (hR : ∀ s, s < 4 → R s < 16) : txt 16 (fun p => andn 15 (dig (txt 16 (fun p => fDia R p 4)) (andn 15 p))) = txt 16 (fun q => fBox R q) :=
  txt_congr fun p _ => by rw [txt_dig 16 (fun p => fDia R p 4) _ (andn_lt (by omega)) (fDia_lt _ _), box_dia hR]
theorem s_RefinesTrans (t u : ByteArray) (w : World) (ht : t.size ≤ 1048576) (hu : u.size ≤ 1048576) : Calls Tryz.prog 32 #[.string t, .string u] w fun e w' => e = .returned (.bool ((trOk t && trOk u) && refB (dig t) (dig u) 16)) ∧ w = w' := by
  cases hok : (trOk t && trOk u)
  · go_enter Tryz.func32, Tryz.ntmps32
    go_wp2_with (go_at_call 76; refine (s_l3Both _ _ _ ht hu).mono ?_; rw [hok]; rintro e w' ⟨rfl, rfl⟩)
    go_ret
    exact ⟨rfl, rfl⟩
  · have g := hok
    rw [Bool.and_eq_true] at g
    have g1 := Dg.tr g.1
    have g2 := Dg.tr g.2
    have hr : ((txt 16 (fun p => dig t p ||| dig u p)).toList == u.toList) = refB (dig t) (dig u) 16 := by
      rw [toList_beq, Bool.eq_iff_iff, decide_eq_true_iff, refB_iff]
      conv => lhs; rw [← txt_tr g.2]
      constructor
      · intro h i hi
        have h' := txt_inj (fun i _ => or_lt (dig_lt t i) (by rw [txt_tr g.2]; exact dig_lt u i)) (fun i _ => dig_lt _ _) h i hi
        rw [txt_tr g.2] at h'
        exact (or_eq_iff _ _).1 h'
      · intro h
        refine txt_congr fun i hi => ?_
        rw [txt_tr g.2]
        exact (or_eq_iff _ _).2 (h i hi)
    have G1 := Lib.hid g1; have G2 := Lib.hid g2; have HR := Lib.hid hr; clear g1 g2 g hr
    go_enter Tryz.func32, Tryz.ntmps32
    go_wp2_with (first | (go_at_call 76; refine (s_l3Both _ _ _ ht hu).mono ?_; rw [hok]; rintro e w' ⟨rfl, rfl⟩) | (go_at_call 77; refine (s_l3Join _ _ _ G1.out G2.out).mono ?_; rintro e w' ⟨rfl, rfl⟩))
    go_ret
    exact ⟨ret_bool (by rw [Bool.true_and, ← HR.out]), rfl⟩
theorem s_l4Spec (p : Nat) (r : ByteArray) (w : World) (hp : p < 16) (h : Dg 4 r) : Calls Tryz.prog 33 #[.int .i64 (p : Int), .string r] w fun e w' => e = .returned (.string (txt 16 (fSpec p (dig r)))) ∧ w = w' := by
  have g1 : Dg 16 (txt 16 (fun q => p &&& q)) := Dg.txt fun i _ => and_lt hp
  have g2 : Dg 16 (txt 16 (fun p => fDia (dig r) p 4)) := Dg.txt fun i _ => fDia_lt _ _
  have g3 : Dg 16 (txt 16 (fun q => fBox (dig r) q)) := Dg.txt fun i _ => fBox_lt _ _
  have e1 := box_txt (R := dig r) (fun s _ => dig_lt r s)
  have e2 : txt 16 (fun q => dig (txt 16 (fun q => p &&& q)) (dig (txt 16 (fun q => fBox (dig r) q)) q)) = txt 16 (fSpec p (dig r)) := txt_congr fun q hq => by
    rw [txt_dig 16 (fun q => fBox (dig r) q) q hq (fBox_lt _ _), txt_dig 16 (fun q => p &&& q) _ (fBox_lt _ _) (and_lt hp)]
    rfl
  have G1 := Lib.hid g1; have G2 := Lib.hid g2; have G3 := Lib.hid g3; have E1 := Lib.hid e1; have E2 := Lib.hid e2; have H := Lib.hid h
  clear g1 g2 g3 e1 e2 h
  go_enter Tryz.func33, Tryz.ntmps33
  go_wp2_with fail
  refine (s_l3Assert p _ hp).mono ?_
  rintro e w' ⟨rfl, rfl⟩
  go_wp2_with fail
  refine (s_l3Angel _ _ H.out).mono ?_
  rintro e w' ⟨rfl, rfl⟩
  go_wp2_with fail
  refine (s_l3Dual _ _ G2.out).mono ?_
  rw [E1.out]
  rintro e w' ⟨rfl, rfl⟩
  go_wp2_with fail
  refine (s_l3Then _ _ _ G1.out G3.out).mono ?_
  rw [E2.out]
  rintro e w' ⟨rfl, rfl⟩
  go_wp2_with fail
  go_ret
  exact ⟨rfl, rfl⟩
set_option maxHeartbeats 1000000 in
theorem s_l4Conjunctive (t : ByteArray) (w : World) (h : Dg 16 t) : Calls Tryz.prog 46 #[.string t] w fun e w' => e = .returned (.bool (conjB (dig t))) ∧ w = w' := by
  go_enter Tryz.func46, Tryz.ntmps46
  go_wp2_with fail
  go_loop [3] (fun i => ∃ k : Nat, k ≤ 16 ∧ i = .int .i64 k ∧ Hid (conjTo (dig t) k = true)) (fun i => 16 - (intOf i).toNat)
  case atStart => exact ⟨0, by omega, rfl, Lib.hid rfl⟩
  case round =>
    obtain ⟨k, hk, rfl, HT⟩ := hrel
    by_cases hlt : k < 16
    · have hd : decide ((k : Int) < 16) = true := by simp; omega
      go_wp2_with fail
      clear hd
      go_loop [4] (fun i => ∃ j : Nat, j ≤ 16 ∧ i = .int .i64 j ∧ Hid (conjRow (dig t) k j = true)) (fun i => 16 - (intOf i).toNat)
      case atStart => exact ⟨0, by omega, rfl, Lib.hid rfl⟩
      case round =>
        obtain ⟨j, hj, rfl, HR⟩ := hrel
        by_cases hlj : j < 16
        · have e1 := bits_and_nat k j (by omega) (by omega)
          have hkj : k &&& j < 16 := and_lt hlt
          have e2 := bits_and_nat (dig t k) (dig t j) (by have := dig_lt t k; omega) (by have := dig_lt t j; omega)
          by_cases hq : dig t (k &&& j) = (dig t k &&& dig t j)
          · have b1 : ((dig t (k &&& j) : Int) != ((dig t k &&& dig t j : Nat) : Int)) = false := by rw [hq]; simp
            have HQ := Lib.hid hq; clear hq
            go_wp2_with fail
            refine (s_l3Value _ _ _ h hkj).mono ?_
            rintro e w' ⟨rfl, rfl⟩
            go_wp2_with fail
            refine (s_l3Value _ _ _ h hlt).mono ?_
            rintro e w' ⟨rfl, rfl⟩
            go_wp2_with fail
            refine (s_l3Value _ _ _ h hlj).mono ?_
            rintro e w' ⟨rfl, rfl⟩
            go_wp2_with fail
            go_round
            case rel => exact ⟨j + 1, by omega, by go_num, Lib.hid (conjRow_succ HR.out HQ.out)⟩
            case measure => simp [intOf]; omega
          · have b1 : ((dig t (k &&& j) : Int) != ((dig t k &&& dig t j : Nat) : Int)) = true := by rw [bne_iff_ne]; omega
            have HQ := Lib.hid hq; clear hq
            go_wp2_with fail
            refine (s_l3Value _ _ _ h hkj).mono ?_
            rintro e w' ⟨rfl, rfl⟩
            go_wp2_with fail
            refine (s_l3Value _ _ _ h hlt).mono ?_
            rintro e w' ⟨rfl, rfl⟩
            go_wp2_with fail
            refine (s_l3Value _ _ _ h hlj).mono ?_
            rintro e w' ⟨rfl, rfl⟩
            go_wp2_with fail
            go_ret
            exact ⟨ret_bool (conjB_no hlt hlj HQ.out).symm, rfl⟩
        · obtain rfl : j = 16 := by omega
          go_wp2_with fail
          go_round
          case rel => exact ⟨k + 1, by omega, by go_num, Lib.hid (conjTo_succ HT.out HR.out)⟩
          case measure => simp [intOf]; omega
    · obtain rfl : k = 16 := by omega
      go_wp2_with fail
      go_ret
      exact ⟨ret_bool (show true = conjTo (dig t) 16 from HT.out.symm), rfl⟩
theorem s_IsConjunctive (t : ByteArray) (w : World) (ht : t.size ≤ 1048576) : Calls Tryz.prog 95 #[.string t] w fun e w' => e = .returned (.bool (trOk t && conjB (dig t))) ∧ w = w' := by
  cases hok : trOk t
  · go_enter Tryz.func95, Tryz.ntmps95
    go_wp2_with (go_at_call 114; refine (s_TransValid _ _ ht).mono ?_; rw [hok]; rintro e w' ⟨rfl, rfl⟩)
    go_ret
    exact ⟨rfl, rfl⟩
  · have G := Lib.hid (Dg.tr hok)
    go_enter Tryz.func95, Tryz.ntmps95
    go_wp2_with (first | (go_at_call 114; refine (s_TransValid _ _ ht).mono ?_; rw [hok]; rintro e w' ⟨rfl, rfl⟩) | (go_at_call 46; refine (s_l4Conjunctive _ _ G.out).mono ?_; rintro e w' ⟨rfl, rfl⟩))
    go_ret
    exact ⟨rfl, rfl⟩
set_option maxHeartbeats 1000000 in
theorem s_l4Rel (t : ByteArray) (w : World) (h : Dg 16 t) : Calls Tryz.prog 96 #[.string t] w fun e w' => e = .returned (.string (txt 4 (fun s => fLead (dig t) s 16))) ∧ w = w' := by
  obtain ⟨F, hF⟩ : ∃ F : Nat → Nat, F = fun s => fLead (dig t) s 16 := ⟨_, rfl⟩
  rw [← hF]
  have HF := Lib.hid hF; clear hF
  go_enter Tryz.func96, Tryz.ntmps96
  go_wp2_with fail
  go_loop [3, 4] (fun o i => ∃ k : Nat, k ≤ 4 ∧ i = .int .i64 k ∧ o = .string (txt k F)) (fun _ i => 4 - (intOf i).toNat)
  case atStart => exact ⟨0, by omega, rfl, rfl⟩
  case round =>
    obtain ⟨k, hk, rfl, rfl⟩ := hrel
    by_cases hlt : k < 4
    · have hz : (txt k F).size ≤ 4 := by rw [txt_size]; exact hk
      have HT := Lib.hid (txt_snoc k F)
      have hd : decide ((k : Int) < 4) = true := by simp; omega
      go_wp2_with fail
      clear hd
      go_loop [5, 6] (fun n i => ∃ j : Nat, j ≤ 16 ∧ i = .int .i64 j ∧ n = .int .i64 (fLead (dig t) k j : Int)) (fun _ i => 16 - (intOf i).toNat)
      case atStart => exact ⟨0, by omega, rfl, rfl⟩
      case round =>
        obtain ⟨j, hj, rfl, rfl⟩ := hrel
        by_cases hlj : j < 16
        · have hl := fLead_lt (dig t) k j
          have e1 := bits_and_nat (fLead (dig t) k j) j (by omega) (by omega)
          have hdl := dig_lt t j
          cases hb : (dig t j).testBit k
          · have HB := Lib.hid hb; clear hb
            go_wp2_with fail
            refine (s_l3Value _ _ _ h hlj).mono ?_
            rintro e w' ⟨rfl, rfl⟩
            go_wp2_with fail
            refine (s_l1Has (dig t j) k _ (by omega) (by omega)).mono ?_
            rw [HB.out]
            rintro e w' ⟨rfl, rfl⟩
            go_wp2_with fail
            go_round
            case rel => exact ⟨j + 1, by omega, by go_num, by rw [fLead_no HB.out]⟩
            case measure => simp [intOf]; omega
          · have HB := Lib.hid hb; clear hb
            go_wp2_with fail
            refine (s_l3Value _ _ _ h hlj).mono ?_
            rintro e w' ⟨rfl, rfl⟩
            go_wp2_with fail
            refine (s_l1Has (dig t j) k _ (by omega) (by omega)).mono ?_
            rw [HB.out]
            rintro e w' ⟨rfl, rfl⟩
            go_wp2_with fail
            go_round
            case rel => exact ⟨j + 1, by omega, by go_num, by rw [fLead_yes HB.out]⟩
            case measure => simp [intOf]; omega
        · obtain rfl : j = 16 := by omega
          have hl := fLead_lt (dig t) k 16
          have HFk := Lib.hid (show fLead (dig t) k 16 = F k by rw [HF.out])
          go_wp2_with fail
          refine (s_l2Digit _ _ hl).mono ?_
          rw [HFk.out]
          rintro e w' ⟨rfl, rfl⟩
          go_wp2_with fail
          go_round
          case rel => exact ⟨k + 1, by omega, by go_num, by rw [← HT.out]⟩
          case measure => simp [intOf]; omega
    · obtain rfl : k = 4 := by omega
      go_wp2_with fail
      go_ret
      exact ⟨rfl, rfl⟩
theorem s_SpecOf (t : ByteArray) (w : World) (ht : t.size ≤ 1048576) : Calls Tryz.prog 47 #[.string t] w fun e w' => e = .returned (.tuple #[.int .i64 ((if trOk t && conjB (dig t) then dig t 15 else 0 : Nat) : Int), .string (optS (trOk t && conjB (dig t)) (txt 4 (fun s => fLead (dig t) s 16))), .bool (trOk t && conjB (dig t))]) ∧ w = w' := by
  cases hok : (trOk t && conjB (dig t))
  · go_enter Tryz.func47, Tryz.ntmps47
    go_wp2_with (go_at_call 95; refine (s_IsConjunctive _ _ ht).mono ?_; rw [hok]; rintro e w' ⟨rfl, rfl⟩)
    go_ret3
    exact ⟨rfl, rfl⟩
  · have g := hok
    rw [Bool.and_eq_true] at g
    have G := Lib.hid (Dg.tr g.1); clear g
    go_enter Tryz.func47, Tryz.ntmps47
    go_wp2_with fail
    refine (s_IsConjunctive _ _ ht).mono ?_
    rw [hok]
    rintro e w' ⟨rfl, rfl⟩
    go_wp2_with fail
    refine (s_l3Value t 15 _ G.out (by omega)).mono ?_
    rintro e w' ⟨rfl, rfl⟩
    go_wp2_with fail
    refine (s_l4Rel _ _ G.out).mono ?_
    rintro e w' ⟨rfl, rfl⟩
    go_wp2_with fail
    go_ret3
    exact ⟨rfl, rfl⟩
end Go.Proofs.YtiaeakpgldpaiaaGreat
