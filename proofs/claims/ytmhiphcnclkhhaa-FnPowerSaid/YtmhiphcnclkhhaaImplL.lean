/- The program's relations: diamonds, boxes, turns, compositions, and the transformers made of them. -/
import Derived.Test.YtmhiphcnclkhhaaImplI
import Derived.Test.YtmhiphcnclkhhaaImplS
import Derived.Test.YtmhiphcnclkhhaaPlain3
namespace Go.Proofs.Ytmhiphcnclkhhaa
set_option linter.unusedSimpArgs false
set_option linter.unusedVariables false
set_option maxRecDepth 4000
open Go.RowKit

set_option maxHeartbeats 400000 in
theorem i_states (fv : Value) (f : Nat → Bool) (w : World) (hf : PrIs Try.prog fv w f 4) : Calls Try.prog 73 #[fv] w fun e w' => e = .returned (.int .i64 (mkC f 4 : Int)) ∧ Below w.heap.size w w' := by
  obtain ⟨g, lb, rfl, hent, hcall⟩ := hf
  have HC := Lib.hid hcall; clear hcall
  go_enter Try.func73, Try.ntmps73
  go_wp2_with fail
  go_loopw [3, 5] (fun o t wr => ∃ k : Nat, k ≤ 4 ∧ t = .int .i64 k ∧ o = .int .i64 (mkC f k : Int) ∧ Below w.heap.size w wr) (fun _ t _ => (4 - intOf t).toNat)
  case atStart => exact ⟨0, by omega, rfl, rfl, Below.refl _ _⟩
  case round =>
    obtain ⟨k, hk, rfl, rfl, hb⟩ := hrel
    by_cases hlt : k < 4
    · have e1 := wrap_one (t := k) (by omega)
      have hz : mkC f k < 16 := Nat.lt_of_lt_of_le (mkC_lt _ k) (Nat.pow_le_pow_right (n := 2) (j := 4) (by decide) hk)
      have e2 := bits_or_nat (mkC f k) (one k) (by omega) (one_lt16 (by omega))
      cases hp : f k
      all_goals
        have HP := Lib.hid hp; clear hp
        go_wp2_with fail
        refine (HC.out _ k hb hlt).mono ?_
        rw [HP.out]
        rintro e w1 ⟨rfl, hb1⟩
        go_wp2_with fail
        go_roundw
        case rel => exact ⟨k + 1, by omega, by go_num, by rw [mkC, HP.out]; rfl, bel_on hb hb1 hb.size⟩
        case measure => simp [intOf]; omega
    · obtain rfl : k = 4 := by omega
      go_wp2_with fail
      go_ret
      exact ⟨rfl, hb⟩
set_option maxHeartbeats 400000 in
/-- A table made by a method that holds its receiver. -/
theorem i_makeTransB (g : Nat) (x : Value) (F : Nat → Nat) (w : World) (hent : ∀ args w, (callFunc g args).run Try.prog w = .ok (.enter g args) w) (hcall : ∀ (W : World) (p : Nat), p < 16 → Calls Try.prog g #[x, .int .i64 (p : Int)] W fun e W' => e = .returned (.int .i64 (F p : Int)) ∧ Below W.heap.size W W') : Calls Try.prog 108 #[.func (.func g) #[x] #[]] w fun e w' => e = .returned (.agg (row 16 F)) ∧ Below w.heap.size w w' := by
  have HC := Lib.hid hcall; clear hcall
  go_enter Try.func108, Try.ntmps108
  go_wp2
  go_loopw [6] (fun t wr => ∃ k : Nat, k ≤ 16 ∧ t = .int .i64 k ∧ RowAt wr (w.heap.size + 1) 66 (row 16 (fun i => if i < k then F i else 0)) ∧ RowAt wr w.heap.size 66 (row 16 (fun _ => 0)) ∧ Below w.heap.size w wr) (fun t _ => (16 - intOf t).toNat)
  case atStart =>
    exact ⟨0, by omega, rfl, RowAt.fresh1 _ _ _ _, (RowAt.fresh _ _ _).alloc _, ((Below.refl _ _).alloc (Nat.le_refl _) _).alloc (by simp) _⟩
  case round =>
    obtain ⟨k, hk, rfl, hr1, hr0, hb⟩ := hrel
    by_cases hlt : k < 16
    · go_wp2
      refine (HC.out _ k hlt).mono ?_
      rintro e w1 ⟨rfl, hb1⟩
      have hr1' := hr1.later hb1
      have hr0' := hr0.later hb1
      have hc := hr1'.cell k hlt
      have hf := hr1'.free k
      go_wp2
      go_roundw
      case rel =>
        exact ⟨k + 1, by omega, by go_num, (hr1'.set k (F k)).of (row_congr fun i hi => by unfold upd; split <;> split <;> simp_all <;> omega), hr0'.other _ _ (by simp), (bel_on hb hb1 (by have := hb.size; omega)).setCell (by simp) _⟩
      case measure => simp [intOf]; omega
    · obtain rfl : k = 16 := by omega
      have hr1 := hr1.of (row_congr (G := F) (fun i hi => by simp [hi]))
      go_wp2_with (first | (refine wpList_load_row rfl 66 _ rfl (w.heap.size + 1) rfl 66 (row 16 F) (0, 0) _ hr1 Try.underlying66 rfl (by rw [row_size]; kernel_rfl) ?_) | (refine wpList_store_row rfl 66 _ _ rfl w.heap.size (row 16 F) rfl rfl 66 _ hr0 (by rw [row_size]; kernel_rfl) (by rw [row_size, row_size]) (row_one _ _) ?_))
      have hr := hr0.put (row 16 F)
      exact bodyPost_ret (results_cell_row rfl _ _ w.heap.size 66 (row 16 F) (0, 0) _ rfl hr Try.underlying66 rfl (by rw [row_size]; kernel_rfl)) rfl ⟨rfl, bel_setRow hb (Nat.le_refl _) _⟩
end Go.Proofs.Ytmhiphcnclkhhaa
