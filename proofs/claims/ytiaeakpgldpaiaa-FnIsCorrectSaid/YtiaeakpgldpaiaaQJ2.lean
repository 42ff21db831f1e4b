/- Joined texts: SpecA, SpecB, SpecC, SpecG, SpecN. -/
import Derived.Test.YtiaeakpgldpaiaaProg
import Derived.Test.YtiaeakpgldpaiaaQJ1
import Derived.Test.YtiaeakpgldpaiaaQJ0
namespace Go.Proofs.Ytiaeakpgldpaiaa
set_option linter.unusedSimpArgs false
set_option linter.unusedVariables false
set_option maxRecDepth 4000
open Go.RowKit

theorem s_l1In (n a b : Int) (w : World) : Calls Try.prog 219 #[.int .i64 n, .int .i64 a, .int .i64 b] w fun e w' => e = .returned (.bool (decide (a ≤ n) && decide (n ≤ b))) ∧ w = w' := by
  by_cases h1 : a ≤ n <;> by_cases h2 : n ≤ b
  all_goals
    go_enter Try.func219, Try.ntmps219
    go_wp2
    go_ret
    exact ⟨by simp [h1, h2], rfl⟩
theorem s_ConditionValid (p : Int) (w : World) : Calls Try.prog 145 #[.int .i64 p] w fun e w' => e = .returned (.bool (cvB p)) ∧ w = w' := by
  go_enter Try.func145, Try.ntmps145
  go_wp2_with (go_at_call 219; refine (s_l1In _ _ _ _).mono ?_; rintro e w' ⟨rfl, rfl⟩)
  go_ret
  exact ⟨rfl, rfl⟩
theorem s_l1Has (p i : Nat) (w : World) (hp : p < 65536) (hi : i < 64) : Calls Try.prog 98 #[.int .i64 (p : Int), .int .i64 (i : Int)] w fun e w' => e = .returned (.bool (p.testBit i)) ∧ w = w' := by
  have hb := bits_has' p i hp
  go_enter Try.func98, Try.ntmps98
  go_wp2
  go_ret
  exact ⟨by rw [← hb]; rfl, rfl⟩
theorem s_l14Find_at (S : ByteArray) (b : UInt8) (w : World) (hS : S.size = 16) (hc : ∀ k (h : k < S.size), S[k]'h = hexChr k) : Calls Try.prog 235 #[.string S, .int .u8 (b.toNat : Int)] w fun e w' => e = .returned (.int .i64 (hexVal b)) ∧ w = w' := by
  have hS1 : S.size ≤ 16 := by omega
  have hS2 : 16 ≤ S.size := by omega
  clear hS
  have HC := Lib.hid hc; clear hc
  go_enter Try.func235, Try.ntmps235
  go_wp2
  go_loop [5] (fun i => ∃ k : Nat, k ≤ 16 ∧ i = .int .i64 k ∧ ∀ j, j < k → hexChr j ≠ b) (fun i => 16 - (intOf i).toNat)
  case atStart => exact ⟨0, by omega, rfl, fun j hj => by omega⟩
  case round =>
    obtain ⟨k, hk, rfl, hn⟩ := hrel
    have HN := Lib.hid hn; clear hn
    by_cases hlt : k < S.size
    · by_cases he : S[k] = b
      · have hb : ((S[k].toNat : Int) == (b.toNat : Int)) = true := by simp [he]
        go_wp2
        go_ret
        exact ⟨ret_int (hexVal_some (by omega) ((HC.out k hlt).symm.trans he)).symm, rfl⟩
      · have hb : ((S[k].toNat : Int) == (b.toNat : Int)) = false := by
          rw [beq_eq_false_iff_ne]
          intro h
          exact he (UInt8.toNat_inj.1 (by omega))
        have HE := Lib.hid he; clear he
        go_wp2
        go_round
        case rel =>
          refine ⟨k + 1, by omega, by go_num, fun j hj => ?_⟩
          rcases Nat.lt_or_ge j k with h | h
          · exact HN.out j h
          · obtain rfl : j = k := by omega
            rw [← HC.out j hlt]; exact HE.out
        case measure => simp [intOf]; omega
    · go_wp2
      go_ret
      exact ⟨ret_int (hexVal_none fun j hj => HN.out j (by omega)).symm, rfl⟩
theorem s_l14Find_hex (b : UInt8) (w : World) : Calls Try.prog 235 #[.string ⟨#[48, 49, 50, 51, 52, 53, 54, 55, 56, 57, 97, 98, 99, 100, 101, 102]⟩, .int .u8 (b.toNat : Int)] w fun e w' => e = .returned (.int .i64 (hexVal b)) ∧ w = w' :=
  s_l14Find_at _ b w rfl (by
    intro k h
    have key : ∀ k : Nat, k < 16 → (#[48, 49, 50, 51, 52, 53, 54, 55, 56, 57, 97, 98, 99, 100, 101, 102] : Array UInt8).getD k 0 = hexChr k := by decide
    rw [byt_get]
    exact key k h)
theorem s_l2Hex (b : UInt8) (w : World) : Calls Try.prog 179 #[.int .u8 (b.toNat : Int)] w fun e w' => e = .returned (.int .i64 (hexVal b)) ∧ w = w' := by
  go_enter Try.func179, Try.ntmps179
  go_wp2_with (go_at_call 235; refine (s_l14Find_hex _ _).mono ?_; rintro e w' ⟨rfl, rfl⟩)
  go_ret
  exact ⟨rfl, rfl⟩
theorem s_l2Digit (p : Nat) (w : World) (hp : p < 16) : Calls Try.prog 100 #[.int .i64 (p : Int)] w fun e w' => e = .returned (.string ⟨#[hexChr p]⟩) ∧ w = w' := by
  go_enter Try.func100, Try.ntmps100
  go_wp2
  go_ret
  refine ⟨?_, rfl⟩
  have key : ∀ p : Nat, p < 16 → (⟨#[48, 49, 50, 51, 52, 53, 54, 55, 56, 57, 97, 98, 99, 100, 101, 102]⟩ : ByteArray).extract p (p + 1) = ⟨#[hexChr p]⟩ := by decide
  exact congrArg (fun s => Ending.returned (.string s)) (key p hp)
theorem s_l2Digit_0 (w : World) : Calls Try.prog 100 #[.int .i64 0] w fun e w' => e = .returned (.string ⟨#[hexChr 0]⟩) ∧ w = w' := s_l2Digit 0 w (by omega)
end Go.Proofs.Ytiaeakpgldpaiaa
namespace Go.Proofs.Ytiaeakpgldpaiaa
set_option linter.unusedSimpArgs false
set_option linter.unusedVariables false
set_option maxRecDepth 4000
open Go.RowKit

/-- A text of n digits. -/
def Dg (n : Nat) (s : ByteArray) : Prop := s.size = n ∧ hexAll s = true
theorem Dg.hex {n : Nat} {s : ByteArray} (h : Dg n s) (k : Nat) (hk : k < n) : hexVal (byt s k) = (dig s k : Int) := by
  obtain ⟨rfl, h⟩ := h
  exact hexVal_nat ((hexTo_iff s s.size).1 h k hk)
theorem Dg.txt {n : Nat} {F : Nat → Nat} (h : ∀ i, i < n → F i < 16) : Dg n (txt n F) := ⟨txt_size n F, txt_hexAll n F h⟩
theorem Dg.tr {s : ByteArray} (h : trOk s = true) : Dg 16 s := ⟨((trOk_iff s).1 h).1.2, ((trOk_iff s).1 h).1.1⟩
theorem Dg.rel {s : ByteArray} (h : relOk s = true) : Dg 4 s := ⟨((relOk_iff s).1 h).2, ((relOk_iff s).1 h).1⟩
theorem Dg.small {n : Nat} {s : ByteArray} (h : Dg n s) : s.size ≤ n ∧ n ≤ s.size := ⟨Nat.le_of_eq h.1, Nat.le_of_eq h.1.symm⟩

theorem s_l2To (s : ByteArray) (k : Nat) (w : World) (h : Dg 4 s) (hk : k < 4) : Calls Try.prog 99 #[.string s, .int .i64 (k : Int)] w fun e w' => e = .returned (.int .i64 (dig s k : Int)) ∧ w = w' := by
  have hv := h.hex k hk
  obtain ⟨h1, h2⟩ := h.small
  clear h
  have hb := fun (h : k < s.size) => byt_get s k h
  have HV := Lib.hid hv; have HB := Lib.hid hb; clear hv hb
  go_enter Try.func99, Try.ntmps99
  go_wp2_with (go_at_call 179; refine (s_l2Hex _ _).mono ?_; rintro e w' ⟨rfl, rfl⟩)
  go_ret
  exact ⟨ret_int (by rw [HB.out]; exact HV.out), rfl⟩
theorem s_l3Value (s : ByteArray) (k : Nat) (w : World) (h : Dg 16 s) (hk : k < 16) : Calls Try.prog 148 #[.string s, .int .i64 (k : Int)] w fun e w' => e = .returned (.int .i64 (dig s k : Int)) ∧ w = w' := by
  have hv := h.hex k hk
  obtain ⟨h1, h2⟩ := h.small
  clear h
  have hb := fun (h : k < s.size) => byt_get s k h
  have HV := Lib.hid hv; have HB := Lib.hid hb; clear hv hb
  go_enter Try.func148, Try.ntmps148
  go_wp2_with (go_at_call 179; refine (s_l2Hex _ _).mono ?_; rintro e w' ⟨rfl, rfl⟩)
  go_ret
  exact ⟨ret_int (by rw [HB.out]; exact HV.out), rfl⟩
theorem s_l2Digits (s : ByteArray) (n : Int) (w : World) (hs : s.size ≤ 1048576) : Calls Try.prog 234 #[.string s, .int .i64 n] w fun e w' => e = .returned (.bool (hexAll s && decide ((s.size : Int) = n))) ∧ w = w' := by
  go_enter Try.func234, Try.ntmps234
  go_wp2
  go_loop [5] (fun i => ∃ k : Nat, k ≤ s.size ∧ i = .int .i64 k ∧ hexTo s k = true) (fun i => s.size - (intOf i).toNat)
  case atStart => exact ⟨0, by omega, rfl, rfl⟩
  case round =>
    obtain ⟨k, hk, rfl, hn⟩ := hrel
    have HN := Lib.hid hn; clear hn
    by_cases hlt : k < s.size
    · have hb := byt_get s k hlt
      have HB := Lib.hid hb; clear hb
      by_cases hneg : hexVal s[k] < 0
      · go_wp2_with (go_at_call 179; refine (s_l2Hex _ _).mono ?_; rintro e w' ⟨rfl, rfl⟩)
        go_ret
        refine ⟨ret_bool ?_, rfl⟩
        unfold hexAll
        rw [hexTo_false hlt (by rw [← HB.out]; exact hneg)]
        rfl
      · go_wp2_with (go_at_call 179; refine (s_l2Hex _ _).mono ?_; rintro e w' ⟨rfl, rfl⟩)
        go_round
        case rel =>
          refine ⟨k + 1, by omega, by go_num, (hexTo_iff s _).2 fun j hj => ?_⟩
          rcases Nat.lt_or_ge j k with h | h
          · exact (hexTo_iff s k).1 HN.out j h
          · obtain rfl : j = k := by omega
            rw [← HB.out]; omega
        case measure => simp [intOf]; omega
    · have ha : hexAll s = true := by
        obtain rfl : k = s.size := by omega
        exact HN.out
      have HA := Lib.hid ha; clear ha
      go_wp2
      go_ret
      refine ⟨ret_bool ?_, rfl⟩
      rw [HA.out]
      by_cases h : (s.size : Int) = n <;> simp [h]
theorem s_RelValid (s : ByteArray) (w : World) (hs : s.size ≤ 1048576) : Calls Try.prog 178 #[.string s] w fun e w' => e = .returned (.bool (relOk s)) ∧ w = w' := by
  go_enter Try.func178, Try.ntmps178
  go_wp2_with (go_at_call 234; refine (s_l2Digits _ _ _ hs).mono ?_; rintro e w' ⟨rfl, rfl⟩)
  go_ret
  refine ⟨ret_bool ?_, rfl⟩
  unfold relOk
  by_cases h : s.size = 4 <;> simp [h] <;> intro _ <;> omega
theorem s_l9Ready (p : Int) (s : ByteArray) (w : World) (hs : s.size ≤ 1048576) : Calls Try.prog 97 #[.int .i64 p, .string s] w fun e w' => e = .returned (.bool (cvB p && relOk s)) ∧ w = w' := by
  cases hc : cvB p
  all_goals
    go_enter Try.func97, Try.ntmps97
    go_wp2_with (first | (go_at_call 145; refine (s_ConditionValid _ _).mono ?_; rintro e w' ⟨rfl, rfl⟩) | (go_at_call 178; refine (s_RelValid _ _ hs).mono ?_; rintro e w' ⟨rfl, rfl⟩))
    go_ret
    exact ⟨ret_bool (by simp), rfl⟩
theorem s_l3Monotone (s : ByteArray) (w : World) (h : Dg 16 s) : Calls Try.prog 245 #[.string s] w fun e w' => e = .returned (.bool (monoB (dig s))) ∧ w = w' := by
  go_enter Try.func245, Try.ntmps245
  go_wp2
  go_loop [3] (fun i => ∃ k : Nat, k ≤ 16 ∧ i = .int .i64 k ∧ monoTo (dig s) k = true) (fun i => 16 - (intOf i).toNat)
  case atStart => exact ⟨0, by omega, rfl, rfl⟩
  case round =>
    obtain ⟨k, hk, rfl, hn⟩ := hrel
    have HN := Lib.hid hn; clear hn
    by_cases hlt : k < 16
    · go_wp2
      go_loop [4] (fun i => ∃ j : Nat, j ≤ 16 ∧ i = .int .i64 j ∧ monoRow (dig s) k j = true) (fun i => 16 - (intOf i).toNat)
      case atStart => exact ⟨0, by omega, rfl, rfl⟩
      case round =>
        obtain ⟨j, hj, rfl, hm⟩ := hrel
        have HM := Lib.hid hm; clear hm
        by_cases hlj : j < 16
        · have e1 := bits_andn_nat k j hlt hlj
          have e2 := bits_andn_nat (dig s k) (dig s j) (dig_lt _ _) (dig_lt _ _)
          by_cases hp : andn k j = 0
          · by_cases hq : andn (dig s k) (dig s j) = 0
            · have HP := Lib.hid hp; have HQ := Lib.hid hq
              have b1 : ((andn k j : Int) == 0) = true := by simp [hp]
              have b2 : ((andn (dig s k) (dig s j) : Int) != 0) = false := by simp [hq]
              clear hp hq
              go_wp2_with (go_at_call 148; refine (s_l3Value _ _ _ h (by omega)).mono ?_; rintro e w' ⟨rfl, rfl⟩)
              go_round
              case rel => exact ⟨j + 1, by omega, by go_num, monoRow_succ HM.out fun _ => HQ.out⟩
              case measure => simp [intOf]; omega
            · have HP := Lib.hid hp; have HQ := Lib.hid hq
              have b1 : ((andn k j : Int) == 0) = true := by simp [hp]
              have b2 : ((andn (dig s k) (dig s j) : Int) != 0) = true := by simp; omega
              clear hp hq
              go_wp2_with (go_at_call 148; refine (s_l3Value _ _ _ h (by omega)).mono ?_; rintro e w' ⟨rfl, rfl⟩)
              go_ret
              exact ⟨ret_bool (monoB_false hlt hlj HP.out HQ.out).symm, rfl⟩
          · have HP := Lib.hid hp
            have b1 : ((andn k j : Int) == 0) = false := by simp; omega
            clear hp
            go_wp2
            go_round
            case rel => exact ⟨j + 1, by omega, by go_num, monoRow_succ HM.out fun h => absurd h HP.out⟩
            case measure => simp [intOf]; omega
        · go_wp2
          go_round
          case rel =>
            obtain rfl : j = 16 := by omega
            exact ⟨k + 1, by omega, by go_num, monoTo_succ HN.out HM.out⟩
          case measure => simp [intOf]; omega
    · go_wp2
      go_ret
      obtain rfl : k = 16 := by omega
      exact ⟨ret_bool HN.out.symm, rfl⟩
theorem s_MonotoneTable (s : ByteArray) (w : World) (hs : s.size ≤ 1048576) : Calls Try.prog 211 #[.string s] w fun e w' => e = .returned (.bool (trOk s)) ∧ w = w' := by
  have hd : decide ((s.size : Int) = 16) = decide (s.size = 16) := by by_cases h : s.size = 16 <;> simp [h]; omega
  have HD := Lib.hid hd; clear hd
  cases hc : (hexAll s && decide (s.size = 16))
  · have HC := Lib.hid hc; clear hc
    have h1 : (hexAll s && decide ((s.size : Int) = 16)) = false := by rw [HD.out]; exact HC.out
    go_enter Try.func211, Try.ntmps211
    go_wp2_with (go_at_call 234; refine (s_l2Digits _ _ _ hs).mono ?_; rw [h1]; rintro e w' ⟨rfl, rfl⟩)
    go_ret
    refine ⟨ret_bool ?_, rfl⟩
    unfold trOk
    rw [HC.out]; rfl
  · have HC := Lib.hid hc; clear hc
    have h1 : (hexAll s && decide ((s.size : Int) = 16)) = true := by rw [HD.out]; exact HC.out
    have h2 : Dg 16 s := by have := HC.out; simp only [Bool.and_eq_true, decide_eq_true_eq] at this; exact ⟨this.2, this.1⟩
    go_enter Try.func211, Try.ntmps211
    go_wp2_with (first | (go_at_call 234; refine (s_l2Digits _ _ _ hs).mono ?_; rw [h1]; rintro e w' ⟨rfl, rfl⟩) | (go_at_call 245; refine (s_l3Monotone _ _ h2).mono ?_; rintro e w' ⟨rfl, rfl⟩))
    go_ret
    refine ⟨ret_bool ?_, rfl⟩
    unfold trOk
    rw [HC.out]; rfl
theorem s_TransValid (s : ByteArray) (w : World) (hs : s.size ≤ 1048576) : Calls Try.prog 132 #[.string s] w fun e w' => e = .returned (.bool (trOk s)) ∧ w = w' := by
  go_enter Try.func132, Try.ntmps132
  go_wp2_with (go_at_call 211; refine (s_MonotoneTable _ _ hs).mono ?_; rintro e w' ⟨rfl, rfl⟩)
  go_ret
  exact ⟨rfl, rfl⟩
theorem s_l7Ready (s : ByteArray) (p : Int) (w : World) (hs : s.size ≤ 1048576) : Calls Try.prog 144 #[.string s, .int .i64 p] w fun e w' => e = .returned (.bool (trOk s && cvB p)) ∧ w = w' := by
  cases hc : trOk s
  all_goals
    go_enter Try.func144, Try.ntmps144
    go_wp2_with (first | (go_at_call 145; refine (s_ConditionValid _ _).mono ?_; rintro e w' ⟨rfl, rfl⟩) | (go_at_call 132; refine (s_TransValid _ _ hs).mono ?_; rintro e w' ⟨rfl, rfl⟩))
    go_ret
    exact ⟨ret_bool (by simp), rfl⟩
end Go.Proofs.Ytiaeakpgldpaiaa
namespace Go.Proofs.Ytiaeakpgldpaiaa
set_option linter.unusedSimpArgs false
set_option linter.unusedVariables false
set_option maxRecDepth 4000
open Go.RowKit

theorem s_l7Least (t : ByteArray) (o a : Nat) (w : World) (h : Dg 16 t) (hm : Mono (dig t)) (ho : o < 16) (ha : a < 16) : Calls Try.prog 212 #[.string t, .int .i64 (o : Int), .int .i64 (a : Int)] w fun e w' => e = .returned (.int .i64 (lfp (eqB (dig t) o a) : Int)) ∧ w = w' := by
  have hB : Bd (eqB (dig t) o a) := eqB_bd ha
  have hM : Mono (eqB (dig t) o a) := eqB_mono hm o a
  have HB := Lib.hid hB; have HM := Lib.hid hM; clear hB hM hm
  go_enter Try.func212, Try.ntmps212
  go_wp2
  go_loop [7, 8] (fun ys bs => ∃ n y : Nat, y < 16 ∧ ys = .int .i64 y ∧ Hid (y = iter (eqB (dig t) o a) 0 n) ∧ (bs = .int .i64 (-1) ∨ ∃ m b : Nat, b < 16 ∧ bs = .int .i64 b ∧ Hid (n = m + 1 ∧ b = iter (eqB (dig t) o a) 0 m))) (fun _ bs => muL bs)
  case atStart => exact ⟨0, 0, by omega, rfl, Lib.hid rfl, .inl rfl⟩
  case round =>
    obtain ⟨n, y, hy, rfl, HY, hbs⟩ := hrel
    have e1 := bits_or_nat (dig t y) o (by have := dig_lt t y; omega) (by omega)
    have e2 := bits_and_nat (dig t y ||| o) a (by have := or_lt (dig_lt t y) ho; omega) (by omega)
    rcases hbs with rfl | ⟨m, b, hb, rfl, HN⟩
    · have hne : ((-1 : Int) != (y : Int)) = true := by rw [bne_iff_ne]; omega
      go_wp2_with (go_at_call 148; refine (s_l3Value _ _ _ h hy).mono ?_; rintro e w' ⟨rfl, rfl⟩)
      go_round
      case rel => exact ⟨n + 1, _, and_lt' ha, rfl, Lib.hid (by rw [HY.out]; rfl), .inr ⟨n, y, hy, rfl, Lib.hid ⟨rfl, HY.out⟩⟩⟩
      case measure => show muL (.int .i64 (y : Int)) < muL (.int .i64 (-1)); rw [muL_nat, muL_neg]; omega
    · by_cases he : b = y
      · have HE := Lib.hid he
        have hne : ((b : Int) != (y : Int)) = false := by rw [he]; simp
        clear he
        go_wp2
        go_ret
        refine ⟨ret_int ?_, rfl⟩
        have h1 := HN.out.1; have h2 := HN.out.2; have h3 := HY.out; have h4 := HE.out
        subst h1
        have : eqB (dig t) o a (iter (eqB (dig t) o a) 0 m) = iter (eqB (dig t) o a) 0 m := by
          show iter (eqB (dig t) o a) 0 (m + 1) = _
          rw [← h3, ← h4, h2]
        rw [h3, show iter (eqB (dig t) o a) 0 (m + 1) = iter (eqB (dig t) o a) 0 m from this, lfp_of HB.out HM.out this]
      · have hne : ((b : Int) != (y : Int)) = true := by rw [bne_iff_ne]; omega
        have HE := Lib.hid he; clear he
        go_wp2_with (go_at_call 148; refine (s_l3Value _ _ _ h hy).mono ?_; rintro e w' ⟨rfl, rfl⟩)
        go_round
        case rel => exact ⟨n + 1, _, and_lt' ha, rfl, Lib.hid (by rw [HY.out]; rfl), .inr ⟨n, y, hy, rfl, Lib.hid ⟨rfl, HY.out⟩⟩⟩
        case measure =>
          show muL (.int .i64 (y : Int)) < muL (.int .i64 (b : Int))
          rw [muL_nat, muL_nat]
          have h1 := HN.out.1; have h2 := HN.out.2; have h3 := HY.out; subst h1
          have := pc_lt hb hy (by rw [h2, h3]; exact iter_up HB.out HM.out m) HE.out
          have := pc_le y
          omega
theorem s_l7Greatest (t : ByteArray) (o a : Nat) (w : World) (h : Dg 16 t) (hm : Mono (dig t)) (ho : o < 16) (ha : a < 16) : Calls Try.prog 213 #[.string t, .int .i64 (o : Int), .int .i64 (a : Int)] w fun e w' => e = .returned (.int .i64 (gfp (eqB (dig t) o a) : Int)) ∧ w = w' := by
  have hB : Bd (eqB (dig t) o a) := eqB_bd ha
  have hM : Mono (eqB (dig t) o a) := eqB_mono hm o a
  have HB := Lib.hid hB; have HM := Lib.hid hM; clear hB hM hm
  go_enter Try.func213, Try.ntmps213
  go_wp2
  go_loop [7, 8] (fun ys bs => ∃ n y : Nat, y < 16 ∧ ys = .int .i64 y ∧ Hid (y = iter (eqB (dig t) o a) 15 n) ∧ (bs = .int .i64 (-1) ∨ ∃ m b : Nat, b < 16 ∧ bs = .int .i64 b ∧ Hid (n = m + 1 ∧ b = iter (eqB (dig t) o a) 15 m))) (fun _ bs => muG bs)
  case atStart => exact ⟨0, 15, by omega, rfl, Lib.hid rfl, .inl rfl⟩
  case round =>
    obtain ⟨n, y, hy, rfl, HY, hbs⟩ := hrel
    have e1 := bits_or_nat (dig t y) o (by have := dig_lt t y; omega) (by omega)
    have e2 := bits_and_nat (dig t y ||| o) a (by have := or_lt (dig_lt t y) ho; omega) (by omega)
    rcases hbs with rfl | ⟨m, b, hb, rfl, HN⟩
    · have hne : ((-1 : Int) != (y : Int)) = true := by rw [bne_iff_ne]; omega
      go_wp2_with (go_at_call 148; refine (s_l3Value _ _ _ h hy).mono ?_; rintro e w' ⟨rfl, rfl⟩)
      go_round
      case rel => exact ⟨n + 1, _, and_lt' ha, rfl, Lib.hid (by rw [HY.out]; rfl), .inr ⟨n, y, hy, rfl, Lib.hid ⟨rfl, HY.out⟩⟩⟩
      case measure => show muG (.int .i64 (y : Int)) < muG (.int .i64 (-1)); rw [muG_nat, muG_neg]; have := pc_le y; omega
    · by_cases he : b = y
      · have HE := Lib.hid he
        have hne : ((b : Int) != (y : Int)) = false := by rw [he]; simp
        clear he
        go_wp2
        go_ret
        refine ⟨ret_int ?_, rfl⟩
        have h1 := HN.out.1; have h2 := HN.out.2; have h3 := HY.out; have h4 := HE.out
        subst h1
        have : eqB (dig t) o a (iter (eqB (dig t) o a) 15 m) = iter (eqB (dig t) o a) 15 m := by
          show iter (eqB (dig t) o a) 15 (m + 1) = _
          rw [← h3, ← h4, h2]
        rw [h3, show iter (eqB (dig t) o a) 15 (m + 1) = iter (eqB (dig t) o a) 15 m from this, gfp_of HB.out HM.out this]
      · have hne : ((b : Int) != (y : Int)) = true := by rw [bne_iff_ne]; omega
        have HE := Lib.hid he; clear he
        go_wp2_with (go_at_call 148; refine (s_l3Value _ _ _ h hy).mono ?_; rintro e w' ⟨rfl, rfl⟩)
        go_round
        case rel => exact ⟨n + 1, _, and_lt' ha, rfl, Lib.hid (by rw [HY.out]; rfl), .inr ⟨n, y, hy, rfl, Lib.hid ⟨rfl, HY.out⟩⟩⟩
        case measure =>
          show muG (.int .i64 (y : Int)) < muG (.int .i64 (b : Int))
          rw [muG_nat, muG_nat]
          have h1 := HN.out.1; have h2 := HN.out.2; have h3 := HY.out; subst h1
          have := pc_lt hy hb (by rw [h2, h3]; exact iter_down HB.out HM.out m) (fun h => HE.out h.symm)
          omega
theorem s_l3Assert (p : Nat) (w : World) (hp : p < 16) : Calls Try.prog 159 #[.int .i64 (p : Int)] w fun e w' => e = .returned (.string (txt 16 (fun q => p &&& q))) ∧ w = w' := by
  go_enter Try.func159, Try.ntmps159
  go_wp2
  go_loop [3, 4] (fun o i => ∃ k : Nat, k ≤ 16 ∧ i = .int .i64 k ∧ o = .string (txt k (fun q => p &&& q))) (fun _ i => 16 - (intOf i).toNat)
  case atStart => exact ⟨0, by omega, rfl, rfl⟩
  case round =>
    obtain ⟨k, hk, rfl, rfl⟩ := hrel
    by_cases hlt : k < 16
    · have ht := txt_snoc k (fun q => p &&& q)
      have HT := Lib.hid ht; clear ht
      have hz : (txt k (fun q => p &&& q)).size ≤ 16 := by rw [txt_size]; exact hk
      have e1 := bits_and_nat p k (by omega) (by omega)
      go_wp2_with (first | (go_at_call 100; refine (s_l2Digit _ _ (and_lt hp)).mono ?_; rintro e w' ⟨rfl, rfl⟩))
      go_round
      case rel => exact ⟨k + 1, by omega, by go_num, by rw [← HT.out]⟩
      case measure => simp [intOf]; omega
    · obtain rfl : k = 16 := by omega
      go_wp2
      go_ret
      exact ⟨rfl, rfl⟩
theorem s_l3Then (t u : ByteArray) (w : World) (ht : Dg 16 t) (hu : Dg 16 u) : Calls Try.prog 158 #[.string t, .string u] w fun e w' => e = .returned (.string (txt 16 (fun p => dig t (dig u p)))) ∧ w = w' := by
  go_enter Try.func158, Try.ntmps158
  go_wp2
  go_loop [5, 6] (fun o i => ∃ k : Nat, k ≤ 16 ∧ i = .int .i64 k ∧ o = .string (txt k (fun p => dig t (dig u p)))) (fun _ i => 16 - (intOf i).toNat)
  case atStart => exact ⟨0, by omega, rfl, rfl⟩
  case round =>
    obtain ⟨k, hk, rfl, rfl⟩ := hrel
    by_cases hlt : k < 16
    · have ht := txt_snoc k (fun p => dig t (dig u p))
      have HT := Lib.hid ht; clear ht
      have hz : (txt k (fun p => dig t (dig u p))).size ≤ 16 := by rw [txt_size]; exact hk
      skip
      go_wp2_with (first | (go_at_call 148; refine (s_l3Value _ _ _ (by assumption) (by first | omega | exact dig_lt _ _)).mono ?_; rintro e w' ⟨rfl, rfl⟩) | (go_at_call 100; refine (s_l2Digit _ _ (dig_lt _ _)).mono ?_; rintro e w' ⟨rfl, rfl⟩))
      go_round
      case rel => exact ⟨k + 1, by omega, by go_num, by rw [← HT.out]⟩
      case measure => simp [intOf]; omega
    · obtain rfl : k = 16 := by omega
      go_wp2
      go_ret
      exact ⟨rfl, rfl⟩
theorem s_l3Meet (t u : ByteArray) (w : World) (ht : Dg 16 t) (hu : Dg 16 u) : Calls Try.prog 231 #[.string t, .string u] w fun e w' => e = .returned (.string (txt 16 (fun p => dig t p &&& dig u p))) ∧ w = w' := by
  go_enter Try.func231, Try.ntmps231
  go_wp2
  go_loop [5, 6] (fun o i => ∃ k : Nat, k ≤ 16 ∧ i = .int .i64 k ∧ o = .string (txt k (fun p => dig t p &&& dig u p))) (fun _ i => 16 - (intOf i).toNat)
  case atStart => exact ⟨0, by omega, rfl, rfl⟩
  case round =>
    obtain ⟨k, hk, rfl, rfl⟩ := hrel
    by_cases hlt : k < 16
    · have ht := txt_snoc k (fun p => dig t p &&& dig u p)
      have HT := Lib.hid ht; clear ht
      have hz : (txt k (fun p => dig t p &&& dig u p)).size ≤ 16 := by rw [txt_size]; exact hk
      have e1 := bits_and_nat (dig t k) (dig u k) (by have := dig_lt t k; omega) (by have := dig_lt u k; omega)
      go_wp2_with (first | (go_at_call 148; refine (s_l3Value _ _ _ (by assumption) (by first | omega | exact dig_lt _ _)).mono ?_; rintro e w' ⟨rfl, rfl⟩) | (go_at_call 100; refine (s_l2Digit _ _ (and_lt (dig_lt _ _))).mono ?_; rintro e w' ⟨rfl, rfl⟩))
      go_round
      case rel => exact ⟨k + 1, by omega, by go_num, by rw [← HT.out]⟩
      case measure => simp [intOf]; omega
    · obtain rfl : k = 16 := by omega
      go_wp2
      go_ret
      exact ⟨rfl, rfl⟩
theorem s_l3Join (t u : ByteArray) (w : World) (ht : Dg 16 t) (hu : Dg 16 u) : Calls Try.prog 232 #[.string t, .string u] w fun e w' => e = .returned (.string (txt 16 (fun p => dig t p ||| dig u p))) ∧ w = w' := by
  go_enter Try.func232, Try.ntmps232
  go_wp2
  go_loop [5, 6] (fun o i => ∃ k : Nat, k ≤ 16 ∧ i = .int .i64 k ∧ o = .string (txt k (fun p => dig t p ||| dig u p))) (fun _ i => 16 - (intOf i).toNat)
  case atStart => exact ⟨0, by omega, rfl, rfl⟩
  case round =>
    obtain ⟨k, hk, rfl, rfl⟩ := hrel
    by_cases hlt : k < 16
    · have ht := txt_snoc k (fun p => dig t p ||| dig u p)
      have HT := Lib.hid ht; clear ht
      have hz : (txt k (fun p => dig t p ||| dig u p)).size ≤ 16 := by rw [txt_size]; exact hk
      have e1 := bits_or_nat (dig t k) (dig u k) (by have := dig_lt t k; omega) (by have := dig_lt u k; omega)
      go_wp2_with (first | (go_at_call 148; refine (s_l3Value _ _ _ (by assumption) (by first | omega | exact dig_lt _ _)).mono ?_; rintro e w' ⟨rfl, rfl⟩) | (go_at_call 100; refine (s_l2Digit _ _ (or_lt (dig_lt _ _) (dig_lt _ _))).mono ?_; rintro e w' ⟨rfl, rfl⟩))
      go_round
      case rel => exact ⟨k + 1, by omega, by go_num, by rw [← HT.out]⟩
      case measure => simp [intOf]; omega
    · obtain rfl : k = 16 := by omega
      go_wp2
      go_ret
      exact ⟨rfl, rfl⟩
theorem s_l3Dual (t : ByteArray) (w : World) (ht : Dg 16 t) : Calls Try.prog 217 #[.string t] w fun e w' => e = .returned (.string (txt 16 (fun p => andn 15 (dig t (andn 15 p))))) ∧ w = w' := by
  go_enter Try.func217, Try.ntmps217
  go_wp2
  go_loop [3, 4] (fun o i => ∃ k : Nat, k ≤ 16 ∧ i = .int .i64 k ∧ o = .string (txt k (fun p => andn 15 (dig t (andn 15 p))))) (fun _ i => 16 - (intOf i).toNat)
  case atStart => exact ⟨0, by omega, rfl, rfl⟩
  case round =>
    obtain ⟨k, hk, rfl, rfl⟩ := hrel
    by_cases hlt : k < 16
    · have ht := txt_snoc k (fun p => andn 15 (dig t (andn 15 p)))
      have HT := Lib.hid ht; clear ht
      have hz : (txt k (fun p => andn 15 (dig t (andn 15 p)))).size ≤ 16 := by rw [txt_size]; exact hk
      have e1 : bits .andNot .i64 (15 : Int) (k : Int) = ((andn 15 k : Nat) : Int) := bits_andn_nat 15 k (by omega) (by omega); have e2 : bits .andNot .i64 (15 : Int) (dig t (andn 15 k) : Int) = ((andn 15 (dig t (andn 15 k)) : Nat) : Int) := bits_andn_nat 15 (dig t (andn 15 k)) (by omega) (dig_lt _ _); have hx := andn_lt (a := 15) (b := k) (by omega)
      go_wp2_with (first | (go_at_call 148; refine (s_l3Value _ _ _ (by assumption) (by first | omega | exact dig_lt _ _)).mono ?_; rintro e w' ⟨rfl, rfl⟩) | (go_at_call 100; refine (s_l2Digit _ _ (andn_lt (by omega))).mono ?_; rintro e w' ⟨rfl, rfl⟩))
      go_round
      case rel => exact ⟨k + 1, by omega, by go_num, by rw [← HT.out]⟩
      case measure => simp [intOf]; omega
    · obtain rfl : k = 16 := by omega
      go_wp2
      go_ret
      exact ⟨rfl, rfl⟩
theorem s_l8Turn (p b q : Nat) (w : World) (hp : p < 16) (hb : b < 16) (hq : q < 16) : Calls Try.prog 226 #[.int .i64 (p : Int), .int .i64 (b : Int), .int .i64 (q : Int)] w fun e w' => e = .returned (.int .i64 (turn p b q : Int)) ∧ w = w' := by
  have e1 := bits_and_nat p b (by omega) (by omega)
  have e2 := bits_andn_nat q p hq hp
  have e3 := bits_or_nat (p &&& b) (andn q p) (by have := and_lt (b := b) hp; omega) (by have := andn_lt (b := p) hq; omega)
  go_enter Try.func226, Try.ntmps226
  go_wp2
  go_ret
  exact ⟨rfl, rfl⟩
theorem s_l9Assign (s t : Nat) (w : World) (hs : s < 4) (ht : t < 4) : Calls Try.prog 167 #[.int .i64 (s : Int), .int .i64 (t : Int)] w fun e w' => e = .returned (.string ((⟨#[65]⟩ : ByteArray) ++ txt 4 (fun i => one (if i = s then t else i)))) ∧ w = w' := by
  go_enter Try.func167, Try.ntmps167
  go_wp2
  go_loop [5, 6] (fun o i => ∃ k : Nat, k ≤ 4 ∧ i = .int .i64 k ∧ o = .string ((⟨#[65]⟩ : ByteArray) ++ txt k (fun i => one (if i = s then t else i)))) (fun _ i => 4 - (intOf i).toNat)
  case atStart => exact ⟨0, by omega, rfl, rfl⟩
  case round =>
    obtain ⟨k, hk, rfl, rfl⟩ := hrel
    by_cases hlt : k < 4
    · have ht' := txt_snoc k (fun i => one (if i = s then t else i))
      have HT := Lib.hid ht'; clear ht'
      have hz : (txt k (fun i => one (if i = s then t else i))).size ≤ 4 := by rw [txt_size]; exact hk
      have hz2 : ((⟨#[65]⟩ : ByteArray) ++ txt k (fun i => one (if i = s then t else i))).size ≤ 8 := by rw [ByteArray.size_append, txt_size]; show 1 + k ≤ 8; omega
      have e1 := wrap_one (t := t) (by omega)
      have e2 := wrap_one (t := k) (by omega)
      by_cases he : k = s
      · have hb : ((k : Int) == (s : Int)) = true := by simp [he]
        have HE := Lib.hid he; clear he
        go_wp2_with (go_at_call 100; refine (s_l2Digit _ _ (one_lt ht)).mono ?_; rintro e w' ⟨rfl, rfl⟩)
        go_round
        case rel => exact ⟨k + 1, by omega, by go_num, by rw [← HT.out, if_pos HE.out, ByteArray.append_assoc]⟩
        case measure => simp [intOf]; omega
      · have hb : ((k : Int) == (s : Int)) = false := by rw [beq_eq_false_iff_ne]; omega
        have HE := Lib.hid he; clear he
        go_wp2_with (go_at_call 100; refine (s_l2Digit _ _ (one_lt hlt)).mono ?_; rintro e w' ⟨rfl, rfl⟩)
        go_round
        case rel => exact ⟨k + 1, by omega, by go_num, by rw [← HT.out, if_neg HE.out, ByteArray.append_assoc]⟩
        case measure => simp [intOf]; omega
    · obtain rfl : k = 4 := by omega
      go_wp2
      go_ret
      exact ⟨rfl, rfl⟩
end Go.Proofs.Ytiaeakpgldpaiaa
namespace Go.Proofs.Ytiaeakpgldpaiaa
set_option linter.unusedSimpArgs false
set_option linter.unusedVariables false
set_option maxRecDepth 4000
open Go.RowKit

theorem s_l2Diamond (r : ByteArray) (p : Nat) (w : World) (h : Dg 4 r) (hp : p < 16) : Calls Try.prog 202 #[.string r, .int .i64 (p : Int)] w fun e w' => e = .returned (.int .i64 (fDia (dig r) p 4 : Int)) ∧ w = w' := by
  go_enter Try.func202, Try.ntmps202
  go_wp2
  go_loop [5, 6] (fun o i => ∃ k : Nat, k ≤ 4 ∧ i = .int .i64 k ∧ o = .int .i64 (fDia (dig r) p k : Int)) (fun _ i => 4 - (intOf i).toNat)
  case atStart => exact ⟨0, by omega, rfl, rfl⟩
  case round =>
    obtain ⟨k, hk, rfl, rfl⟩ := hrel
    by_cases hlt : k < 4
    · have e1 := wrap_one (t := k) (by omega)
      have hz : fDia (dig r) p k < 16 := Nat.lt_of_lt_of_le (mkC_lt _ k) (Nat.pow_le_pow_right (n := 2) (j := 4) (by decide) hk)
      have e2 := bits_or_nat (fDia (dig r) p k) (one k) (by omega) (by have := one_lt hlt; omega)
      have e3 := bits_and_nat (dig r k) p (by have := dig_lt r k; omega) (by omega)
      by_cases ha : dig r k &&& p = 0
      · have b1 : (((dig r k &&& p : Nat) : Int) != 0) = false := by simp [ha]
        have HA := Lib.hid ha; clear ha
        go_wp2_with (go_at_call 99; refine (s_l2To _ _ _ h hlt).mono ?_; rintro e w' ⟨rfl, rfl⟩)
        go_round
        case rel => exact ⟨k + 1, by omega, by go_num, by rw [fDia_no HA.out]⟩
        case measure => simp [intOf]; omega
      · have b1 : (((dig r k &&& p : Nat) : Int) != 0) = true := by rw [bne_iff_ne]; omega
        have HA := Lib.hid ha; clear ha
        go_wp2_with (go_at_call 99; refine (s_l2To _ _ _ h hlt).mono ?_; rintro e w' ⟨rfl, rfl⟩)
        go_round
        case rel => exact ⟨k + 1, by omega, by go_num, by rw [fDia_yes HA.out]⟩
        case measure => simp [intOf]; omega
    · obtain rfl : k = 4 := by omega
      go_wp2
      go_ret
      exact ⟨rfl, rfl⟩
theorem s_l2Box (r : ByteArray) (p : Nat) (w : World) (h : Dg 4 r) (hp : p < 16) : Calls Try.prog 122 #[.string r, .int .i64 (p : Int)] w fun e w' => e = .returned (.int .i64 (fBox (dig r) p : Int)) ∧ w = w' := by
  have e1 : bits .andNot .i64 (15 : Int) (p : Int) = ((andn 15 p : Nat) : Int) := bits_andn_nat 15 p (by omega) hp
  have e2 : bits .andNot .i64 (15 : Int) (fDia (dig r) (andn 15 p) 4 : Int) = ((fBox (dig r) p : Nat) : Int) := by
    rw [← box_dia (fun s _ => dig_lt r s) p]; exact bits_andn_nat 15 _ (by omega) (fDia_lt _ _)
  have hx := andn_lt (a := 15) (b := p) (by omega)
  go_enter Try.func122, Try.ntmps122
  go_wp2_with (go_at_call 202; refine (s_l2Diamond _ _ _ h hx).mono ?_; rintro e w' ⟨rfl, rfl⟩)
  go_ret
  exact ⟨rfl, rfl⟩
theorem s_l2Image (r : ByteArray) (p : Nat) (w : World) (h : Dg 4 r) (hp : p < 16) : Calls Try.prog 204 #[.string r, .int .i64 (p : Int)] w fun e w' => e = .returned (.int .i64 (fImg (dig r) p 4 : Int)) ∧ w = w' := by
  go_enter Try.func204, Try.ntmps204
  go_wp2
  go_loop [5, 6] (fun o i => ∃ k : Nat, k ≤ 4 ∧ i = .int .i64 k ∧ o = .int .i64 (fImg (dig r) p k : Int)) (fun _ i => 4 - (intOf i).toNat)
  case atStart => exact ⟨0, by omega, rfl, rfl⟩
  case round =>
    obtain ⟨k, hk, rfl, rfl⟩ := hrel
    by_cases hlt : k < 4
    · have hz : fImg (dig r) p k < 16 := fImg_lt (fun s _ => dig_lt r s) p k hk
      have e2 := bits_or_nat (fImg (dig r) p k) (dig r k) (by omega) (by have := dig_lt r k; omega)
      cases hb : p.testBit k
      all_goals
        have HB := Lib.hid hb; clear hb
        go_wp2_with (first | (go_at_call 98; refine (s_l1Has _ _ _ (by omega) (by omega)).mono ?_; rw [HB.out]; rintro e w' ⟨rfl, rfl⟩) | (go_at_call 99; refine (s_l2To _ _ _ h hlt).mono ?_; rintro e w' ⟨rfl, rfl⟩))
        go_round
        case rel => exact ⟨k + 1, by omega, by go_num, by rw [fImg, HB.out]; rfl⟩
        case measure => simp [intOf]; omega
    · obtain rfl : k = 4 := by omega
      go_wp2
      go_ret
      exact ⟨rfl, rfl⟩
theorem s_l2Compose (r q : ByteArray) (w : World) (h : Dg 4 r) (hq : Dg 4 q) : Calls Try.prog 124 #[.string r, .string q] w fun e w' => e = .returned (.string (txt 4 (fComp (dig r) (dig q)))) ∧ w = w' := by
  go_enter Try.func124, Try.ntmps124
  go_wp2
  go_loop [5, 6] (fun o i => ∃ k : Nat, k ≤ 4 ∧ i = .int .i64 k ∧ o = .string (txt k (fComp (dig r) (dig q)))) (fun _ i => 4 - (intOf i).toNat)
  case atStart => exact ⟨0, by omega, rfl, rfl⟩
  case round =>
    obtain ⟨k, hk, rfl, rfl⟩ := hrel
    by_cases hlt : k < 4
    · have ht := txt_snoc k (fComp (dig r) (dig q))
      have HT := Lib.hid ht; clear ht
      have hz : (txt k (fComp (dig r) (dig q))).size ≤ 4 := by rw [txt_size]; exact hk
      have hF : fComp (dig r) (dig q) k < 16 := fImg_lt (fun s _ => dig_lt q s) _ 4 (by omega)
      go_wp2_with (first | (go_at_call 99; refine (s_l2To _ _ _ h hlt).mono ?_; rintro e w' ⟨rfl, rfl⟩) | (go_at_call 204; refine (s_l2Image _ _ _ hq (dig_lt _ _)).mono ?_; rintro e w' ⟨rfl, rfl⟩) | (go_at_call 100; refine (s_l2Digit _ _ hF).mono ?_; rintro e w' ⟨rfl, rfl⟩))
      go_round
      case rel => exact ⟨k + 1, by omega, by go_num, by rw [← HT.out]⟩
      case measure => simp [intOf]; omega
    · obtain rfl : k = 4 := by omega
      go_wp2
      go_ret
      exact ⟨rfl, rfl⟩
theorem s_l3Angel (r : ByteArray) (w : World) (h : Dg 4 r) : Calls Try.prog 215 #[.string r] w fun e w' => e = .returned (.string (txt 16 (fun p => fDia (dig r) p 4))) ∧ w = w' := by
  go_enter Try.func215, Try.ntmps215
  go_wp2
  go_loop [3, 4] (fun o i => ∃ k : Nat, k ≤ 16 ∧ i = .int .i64 k ∧ o = .string (txt k (fun p => fDia (dig r) p 4))) (fun _ i => 16 - (intOf i).toNat)
  case atStart => exact ⟨0, by omega, rfl, rfl⟩
  case round =>
    obtain ⟨k, hk, rfl, rfl⟩ := hrel
    by_cases hlt : k < 16
    · have ht := txt_snoc k (fun p => fDia (dig r) p 4)
      have HT := Lib.hid ht; clear ht
      have hz : (txt k (fun p => fDia (dig r) p 4)).size ≤ 16 := by rw [txt_size]; exact hk
      skip
      go_wp2_with (first | (go_at_call 202; refine (s_l2Diamond _ _ _ h hlt).mono ?_; rintro e w' ⟨rfl, rfl⟩) | (go_at_call 100; refine (s_l2Digit _ _ (fDia_lt _ _)).mono ?_; rintro e w' ⟨rfl, rfl⟩))
      go_round
      case rel => exact ⟨k + 1, by omega, by go_num, by rw [← HT.out]⟩
      case measure => simp [intOf]; omega
    · obtain rfl : k = 16 := by omega
      go_wp2
      go_ret
      exact ⟨rfl, rfl⟩
theorem s_TestRel (p : Nat) (w : World) (hp : p < 16) : Calls Try.prog 203 #[.int .i64 (p : Int)] w fun e w' => e = .returned (.tuple #[.string (txt 4 (fun s => p &&& one s)), .bool true]) ∧ w = w' := by
  go_enter Try.func203, Try.ntmps203
  go_wp2_with (go_at_call 145; refine (s_ConditionValid _ _).mono ?_; rw [cvB_nat p hp]; rintro e w' ⟨rfl, rfl⟩)
  go_loop [4, 5] (fun o i => ∃ k : Nat, k ≤ 4 ∧ i = .int .i64 k ∧ o = .string (txt k (fun s => p &&& one s))) (fun _ i => 4 - (intOf i).toNat)
  case atStart => exact ⟨0, by omega, rfl, rfl⟩
  case round =>
    obtain ⟨k, hk, rfl, rfl⟩ := hrel
    by_cases hlt : k < 4
    · have ht := txt_snoc k (fun s => p &&& one s)
      have HT := Lib.hid ht; clear ht
      have hz : (txt k (fun s => p &&& one s)).size ≤ 4 := by rw [txt_size]; exact hk
      have e1 := wrap_one (t := k) (by omega)
      have e2 := bits_and_nat p (one k) (by omega) (by have := one_lt hlt; omega)
      go_wp2_with (go_at_call 100; refine (s_l2Digit _ _ (and_lt hp)).mono ?_; rintro e w' ⟨rfl, rfl⟩)
      go_round
      case rel => exact ⟨k + 1, by omega, by go_num, by rw [← HT.out]⟩
      case measure => simp [intOf]; omega
    · obtain rfl : k = 4 := by omega
      go_wp2
      go_ret2
      exact ⟨rfl, rfl⟩
theorem s_l9Test (p : Nat) (r : ByteArray) (w : World) (hp : p < 16) (h : Dg 4 r) : Calls Try.prog 123 #[.int .i64 (p : Int), .string r] w fun e w' => e = .returned (.string (txt 4 (fFrom p (dig r)))) ∧ w = w' := by
  have h1 : Dg 4 (txt 4 (fun s => p &&& one s)) := Dg.txt fun _ _ => and_lt hp
  have e1 : txt 4 (fComp (dig (txt 4 (fun s => p &&& one s))) (dig r)) = txt 4 (fFrom p (dig r)) := txt_congr fun a ha => by
    unfold fComp
    rw [txt_dig 4 (fun s => p &&& one s) _ ha (and_lt hp), fFrom_eq (fun s _ => dig_lt r s) p a ha]
  have E1 := Lib.hid e1; clear e1
  go_enter Try.func123, Try.ntmps123
  go_wp2_with (first | (go_at_call 203; refine (s_TestRel _ _ hp).mono ?_; rintro e w' ⟨rfl, rfl⟩) | (go_at_call 124; refine (s_l2Compose _ _ _ h1 h).mono ?_; rw [E1.out]; rintro e w' ⟨rfl, rfl⟩))
  go_ret
  exact ⟨rfl, rfl⟩
end Go.Proofs.Ytiaeakpgldpaiaa
namespace Go.Proofs.Ytiaeakpgldpaiaa
set_option linter.unusedSimpArgs false
set_option linter.unusedVariables false
set_option maxRecDepth 4000
open Go.RowKit

theorem box_txt {R : Nat → Nat} (hR : ∀ s, s < 4 → R s < 16) : txt 16 (fun p => andn 15 (dig (txt 16 (fun p => fDia R p 4)) (andn 15 p))) = txt 16 (fun q => fBox R q) :=
  txt_congr fun p _ => by rw [txt_dig 16 (fun p => fDia R p 4) _ (andn_lt (by omega)) (fDia_lt _ _), box_dia hR]
theorem s_l4Spec (p : Nat) (r : ByteArray) (w : World) (hp : p < 16) (h : Dg 4 r) : Calls Try.prog 243 #[.int .i64 (p : Int), .string r] w fun e w' => e = .returned (.string (txt 16 (fSpec p (dig r)))) ∧ w = w' := by
  have g1 : Dg 16 (txt 16 (fun q => p &&& q)) := Dg.txt fun i _ => and_lt hp
  have g2 : Dg 16 (txt 16 (fun p => fDia (dig r) p 4)) := Dg.txt fun i _ => fDia_lt _ _
  have g3 : Dg 16 (txt 16 (fun q => fBox (dig r) q)) := Dg.txt fun i _ => fBox_lt _ _
  have e1 := box_txt (R := dig r) (fun s _ => dig_lt r s)
  have e2 : txt 16 (fun q => dig (txt 16 (fun q => p &&& q)) (dig (txt 16 (fun q => fBox (dig r) q)) q)) = txt 16 (fSpec p (dig r)) := txt_congr fun q hq => by
    rw [txt_dig 16 (fun q => fBox (dig r) q) q hq (fBox_lt _ _), txt_dig 16 (fun q => p &&& q) _ (fBox_lt _ _) (and_lt hp)]
    rfl
  have G1 := Lib.hid g1; have G2 := Lib.hid g2; have G3 := Lib.hid g3; have E1 := Lib.hid e1; have E2 := Lib.hid e2; have H := Lib.hid h
  clear g1 g2 g3 e1 e2 h
  go_enter Try.func243, Try.ntmps243
  go_wp2_with fail
  refine (s_l3Assert p _ hp).mono ?_
  rintro e w' ⟨rfl, rfl⟩
  go_wp2_with fail
  refine (s_l3Angel _ _ H.out).mono ?_
  rintro e w' ⟨rfl, rfl⟩
  go_wp2_with fail
  refine (s_l3Dual _ _ G2.out).mono ?_
  rw [E1.out]
  rintro e w' ⟨rfl, rfl⟩
  go_wp2_with fail
  refine (s_l3Then _ _ _ G1.out G3.out).mono ?_
  rw [E2.out]
  rintro e w' ⟨rfl, rfl⟩
  go_wp2_with fail
  go_ret
  exact ⟨rfl, rfl⟩
end Go.Proofs.Ytiaeakpgldpaiaa
