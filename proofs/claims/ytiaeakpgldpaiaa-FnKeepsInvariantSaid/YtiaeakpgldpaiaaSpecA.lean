/- The reference's small functions: what each returns; none turns the world. -/
import Derived.Test.YtiaeakpgldpaiaaProg
import Derived.Test.YtiaeakpgldpaiaaBase
import Derived.Test.YtiaeakpgldpaiaaPlain
namespace Go.Proofs.Ytiaeakpgldpaiaa
set_option linter.unusedSimpArgs false
set_option linter.unusedVariables false
set_option maxRecDepth 4000
open Go.RowKit

theorem s_l1In (n a b : Int) (w : World) : Calls Try.prog 219 #[.int .i64 n, .int .i64 a, .int .i64 b] w fun e w' => e = .returned (.bool (decide (a ≤ n) && decide (n ≤ b))) ∧ w = w' := by
  by_cases h1 : a ≤ n <;> by_cases h2 : n ≤ b
  all_goals
    go_enter Try.func219, Try.ntmps219
    go_wp2
    go_ret
    exact ⟨by simp [h1, h2], rfl⟩
theorem s_ConditionValid (p : Int) (w : World) : Calls Try.prog 145 #[.int .i64 p] w fun e w' => e = .returned (.bool (cvB p)) ∧ w = w' := by
  go_enter Try.func145, Try.ntmps145
  go_wp2_with (go_at_call 219; refine (s_l1In _ _ _ _).mono ?_; rintro e w' ⟨rfl, rfl⟩)
  go_ret
  exact ⟨rfl, rfl⟩
theorem s_l1Has (p i : Nat) (w : World) (hp : p < 65536) (hi : i < 64) : Calls Try.prog 98 #[.int .i64 (p : Int), .int .i64 (i : Int)] w fun e w' => e = .returned (.bool (p.testBit i)) ∧ w = w' := by
  have hb := bits_has' p i hp
  go_enter Try.func98, Try.ntmps98
  go_wp2
  go_ret
  exact ⟨by rw [← hb]; rfl, rfl⟩
theorem s_l14Find_at (S : ByteArray) (b : UInt8) (w : World) (hS : S.size = 16) (hc : ∀ k (h : k < S.size), S[k]'h = hexChr k) : Calls Try.prog 235 #[.string S, .int .u8 (b.toNat : Int)] w fun e w' => e = .returned (.int .i64 (hexVal b)) ∧ w = w' := by
  have hS1 : S.size ≤ 16 := by omega
  have hS2 : 16 ≤ S.size := by omega
  clear hS
  have HC := Lib.hid hc; clear hc
  go_enter Try.func235, Try.ntmps235
  go_wp2
  go_loop [5] (fun i => ∃ k : Nat, k ≤ 16 ∧ i = .int .i64 k ∧ ∀ j, j < k → hexChr j ≠ b) (fun i => 16 - (intOf i).toNat)
  case atStart => exact ⟨0, by omega, rfl, fun j hj => by omega⟩
  case round =>
    obtain ⟨k, hk, rfl, hn⟩ := hrel
    have HN := Lib.hid hn; clear hn
    by_cases hlt : k < S.size
    · by_cases he : S[k] = b
      · have hb : ((S[k].toNat : Int) == (b.toNat : Int)) = true := by simp [he]
        go_wp2
        go_ret
        exact ⟨ret_int (hexVal_some (by omega) ((HC.out k hlt).symm.trans he)).symm, rfl⟩
      · have hb : ((S[k].toNat : Int) == (b.toNat : Int)) = false := by
          rw [beq_eq_false_iff_ne]
          intro h
          exact he (UInt8.toNat_inj.1 (by omega))
        have HE := Lib.hid he; clear he
        go_wp2
        go_round
        case rel =>
          refine ⟨k + 1, by omega, by go_num, fun j hj => ?_⟩
          rcases Nat.lt_or_ge j k with h | h
          · exact HN.out j h
          · obtain rfl : j = k := by omega
            rw [← HC.out j hlt]; exact HE.out
        case measure => simp [intOf]; omega
    · go_wp2
      go_ret
      exact ⟨ret_int (hexVal_none fun j hj => HN.out j (by omega)).symm, rfl⟩
theorem s_l14Find_hex (b : UInt8) (w : World) : Calls Try.prog 235 #[.string ⟨#[48, 49, 50, 51, 52, 53, 54, 55, 56, 57, 97, 98, 99, 100, 101, 102]⟩, .int .u8 (b.toNat : Int)] w fun e w' => e = .returned (.int .i64 (hexVal b)) ∧ w = w' :=
  s_l14Find_at _ b w rfl (by
    intro k h
    have key : ∀ k : Nat, k < 16 → (#[48, 49, 50, 51, 52, 53, 54, 55, 56, 57, 97, 98, 99, 100, 101, 102] : Array UInt8).getD k 0 = hexChr k := by decide
    rw [byt_get]
    exact key k h)
theorem s_l2Hex (b : UInt8) (w : World) : Calls Try.prog 179 #[.int .u8 (b.toNat : Int)] w fun e w' => e = .returned (.int .i64 (hexVal b)) ∧ w = w' := by
  go_enter Try.func179, Try.ntmps179
  go_wp2_with (go_at_call 235; refine (s_l14Find_hex _ _).mono ?_; rintro e w' ⟨rfl, rfl⟩)
  go_ret
  exact ⟨rfl, rfl⟩
theorem s_l2Digit (p : Nat) (w : World) (hp : p < 16) : Calls Try.prog 100 #[.int .i64 (p : Int)] w fun e w' => e = .returned (.string ⟨#[hexChr p]⟩) ∧ w = w' := by
  go_enter Try.func100, Try.ntmps100
  go_wp2
  go_ret
  refine ⟨?_, rfl⟩
  have key : ∀ p : Nat, p < 16 → (⟨#[48, 49, 50, 51, 52, 53, 54, 55, 56, 57, 97, 98, 99, 100, 101, 102]⟩ : ByteArray).extract p (p + 1) = ⟨#[hexChr p]⟩ := by decide
  exact congrArg (fun s => Ending.returned (.string s)) (key p hp)
theorem s_l2Digit_0 (w : World) : Calls Try.prog 100 #[.int .i64 0] w fun e w' => e = .returned (.string ⟨#[hexChr 0]⟩) ∧ w = w' := s_l2Digit 0 w (by omega)
end Go.Proofs.Ytiaeakpgldpaiaa
