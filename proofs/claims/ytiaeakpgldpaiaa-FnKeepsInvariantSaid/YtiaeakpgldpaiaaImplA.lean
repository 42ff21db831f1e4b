/- The program's small functions: what each returns; what was in memory stays as it was. -/
import Derived.Test.YtiaeakpgldpaiaaProg
import Derived.Test.YtiaeakpgldpaiaaBase
import Derived.Test.YtiaeakpgldpaiaaPlain
import Derived.Laws.StandIn
namespace Go.Proofs.Ytiaeakpgldpaiaa
set_option linter.unusedSimpArgs false
set_option linter.unusedVariables false
set_option maxRecDepth 4000
open Go.RowKit

theorem i_ConditionValid (p : Int) (w : World) : Calls Try.prog 56 #[.int .i64 p] w fun e w' => e = .returned (.bool (cvB p)) ∧ w = w' := by
  unfold cvB
  by_cases h1 : 0 ≤ p <;> by_cases h2 : p ≤ 15
  all_goals
    go_enter Try.func56, Try.ntmps56
    go_wp2
    go_ret
    exact ⟨by simp [h1, h2], rfl⟩
theorem i_stateOk (p : Int) (w : World) : Calls Try.prog 162 #[.int .i64 p] w fun e w' => e = .returned (.bool (stB p)) ∧ w = w' := by
  unfold stB
  by_cases h1 : 0 ≤ p <;> by_cases h2 : p < 4
  all_goals
    go_enter Try.func162, Try.ntmps162
    go_wp2
    go_ret
    refine ⟨ret_bool ?_, rfl⟩
    have : (p ≤ 3) = (p < 4) := propext ⟨fun h => by omega, fun h => by omega⟩
    simp [h1, h2, this]
def hexS : ByteArray := ⟨#[48, 49, 50, 51, 52, 53, 54, 55, 56, 57, 97, 98, 99, 100, 101, 102]⟩
theorem firstIdx_hex (b : UInt8) : firstIdx hexS b = hexVal b := by
  have hb : b = UInt8.ofNat b.toNat := by simp
  have key : ∀ n, n < 256 → firstIdx hexS (UInt8.ofNat n) = hexVal (UInt8.ofNat n) := by decide +kernel
  rw [hb]
  exact key b.toNat b.toNat_lt
theorem x_IndexByteString (b : UInt8) (w : World) : (callFunc 253 #[.string hexS, .int .u8 (b.toNat : Int)]).run Try.prog w = .ok (.value (.int .i64 (hexVal b))) w := by
  rw [run_callFunc_indexByte Try.func253 (by kernel_rfl) rfl (by kernel_rfl) (by kernel_rfl), run_indexByte_string]
  have : ((b.toNat : Int).toNat.toUInt8) = b := by simp
  rw [this, firstIdx_hex]
  rfl
theorem x_stringslite (b : UInt8) (w : World) : Calls Try.prog 251 #[.string hexS, .int .u8 (b.toNat : Int)] w fun e w' => e = .returned (.int .i64 (hexVal b)) ∧ w = w' := by
  have hx := x_IndexByteString b
  go_enter Try.func251, Try.ntmps251
  go_wp2
  go_ret
  exact ⟨rfl, rfl⟩
theorem x_strings (b : UInt8) (w : World) : Calls Try.prog 236 #[.string hexS, .int .u8 (b.toNat : Int)] w fun e w' => e = .returned (.int .i64 (hexVal b)) ∧ w = w' := by
  go_enter Try.func236, Try.ntmps236
  go_wp2_with (go_at_call 251; refine (x_stringslite _ _).mono ?_; rintro e w' ⟨rfl, rfl⟩)
  go_ret
  exact ⟨rfl, rfl⟩
theorem i_digitOf (b : UInt8) (w : World) : Calls Try.prog 180 #[.int .u8 (b.toNat : Int)] w fun e w' => e = .returned (.int .i64 (hexVal b)) ∧ w = w' := by
  go_enter Try.func180, Try.ntmps180
  go_wp2_with (go_at_call 236; refine (x_strings _ _).mono ?_; rintro e w' ⟨rfl, rfl⟩)
  go_ret
  exact ⟨rfl, rfl⟩
theorem i_digit (p : Nat) (w : World) (hp : p < 16) : Calls Try.prog 166 #[.int .i64 (p : Int)] w fun e w' => e = .returned (.string ⟨#[hexChr p]⟩) ∧ w = w' := by
  go_enter Try.func166, Try.ntmps166
  go_wp2
  go_ret
  refine ⟨?_, rfl⟩
  have key : ∀ p : Nat, p < 16 → (⟨#[48, 49, 50, 51, 52, 53, 54, 55, 56, 57, 97, 98, 99, 100, 101, 102]⟩ : ByteArray).extract p (p + 1) = ⟨#[hexChr p]⟩ := by decide
  exact congrArg (fun s => Ending.returned (.string s)) (key p hp)
set_option maxHeartbeats 400000 in
theorem i_makeTrans (fv : Value) (F : Nat → Nat) (w : World) (hf : FnIs Try.prog fv w F 16) : Calls Try.prog 192 #[fv] w fun e w' => e = .returned (.agg (row 16 F)) ∧ Below w.heap.size w w' := by
  obtain ⟨g, lb, rfl, hent, hcall⟩ := hf
  have HC := Lib.hid hcall; clear hcall
  go_enter Try.func192, Try.ntmps192
  go_wp2
  go_loopw [6] (fun t wr => ∃ k : Nat, k ≤ 16 ∧ t = .int .i64 k ∧ RowAt wr (w.heap.size + 1) 77 (row 16 (fun i => if i < k then F i else 0)) ∧ RowAt wr w.heap.size 77 (row 16 (fun _ => 0)) ∧ Below w.heap.size w wr) (fun t _ => (16 - intOf t).toNat)
  case atStart =>
    exact ⟨0, by omega, rfl, RowAt.fresh1 _ _ _ _, (RowAt.fresh _ _ _).alloc _, ((Below.refl _ _).alloc (Nat.le_refl _) _).alloc (by simp) _⟩
  case round =>
    obtain ⟨k, hk, rfl, hr1, hr0, hb⟩ := hrel
    by_cases hlt : k < 16
    · go_wp2
      refine (HC.out _ k hb hlt).mono ?_
      rintro e w1 ⟨rfl, hb1⟩
      have hr1' := hr1.later hb1
      have hr0' := hr0.later hb1
      have hc := hr1'.cell k hlt
      have hf := hr1'.free k
      go_wp2
      go_roundw
      case rel =>
        exact ⟨k + 1, by omega, by go_num, (hr1'.set k (F k)).of (row_congr fun i hi => by unfold upd; split <;> split <;> simp_all <;> omega), hr0'.other _ _ (by simp), (bel_on hb hb1 (by have := hb.size; omega)).setCell (by simp) _⟩
      case measure => simp [intOf]; omega
    · obtain rfl : k = 16 := by omega
      have hr1 := hr1.of (row_congr (G := F) (fun i hi => by simp [hi]))
      go_wp2_with (first | (refine wpList_load_row rfl 77 _ rfl (w.heap.size + 1) rfl 77 (row 16 F) (0, 0) _ hr1 Try.underlying77 rfl (by rw [row_size]; kernel_rfl) ?_) | (refine wpList_store_row rfl 77 _ _ rfl w.heap.size (row 16 F) rfl rfl 77 _ hr0 (by rw [row_size]; kernel_rfl) (by rw [row_size, row_size]) (row_one _ _) ?_))
      have hr := hr0.put (row 16 F)
      exact bodyPost_ret (results_cell_row rfl _ _ w.heap.size 77 (row 16 F) (0, 0) _ rfl hr Try.underlying77 rfl (by rw [row_size]; kernel_rfl)) rfl ⟨rfl, bel_setRow hb (Nat.le_refl _) _⟩
end Go.Proofs.Ytiaeakpgldpaiaa
