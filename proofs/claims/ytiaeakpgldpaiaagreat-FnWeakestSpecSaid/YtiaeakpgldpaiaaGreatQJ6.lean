/- Joined texts: App, App2, App3. -/
import Derived.Test.YtiaeakpgldpaiaaGreatQImplI
import Derived.Test.YtiaeakpgldpaiaaGreatQImplF
import Derived.Test.YtiaeakpgldpaiaaGreatQImplX
import Derived.Test.YtiaeakpgldpaiaaGreatQImplH
import Derived.Test.YtiaeakpgldpaiaaGreatQSpecD
import Derived.Test.YtiaeakpgldpaiaaGreatQImplT
namespace Go.Proofs.YtiaeakpgldpaiaaGreat
set_option linter.unusedSimpArgs false
set_option linter.unusedVariables false
set_option maxRecDepth 4000
open Go.RowKit

theorem beq_zero_nat (n : Nat) : ((n : Int) == 0) = decide (n = 0) := by
  by_cases h : n = 0
  · simp [h]
  · rw [decide_eq_false h, beq_eq_false_iff_ne]; omega
theorem beq_nat (n m : Nat) : ((n : Int) == (m : Int)) = decide (n = m) := by
  by_cases h : n = m
  · simp [h]
  · rw [decide_eq_false h, beq_eq_false_iff_ne]; omega
/-- The dual of a table. -/
def fDual (T : Nat → Nat) : Nat → Nat := fun p => andn 15 (T (andn 15 p))
theorem fDual_bd (T : Nat → Nat) : Bd (fDual T) := fun p _ => andn_lt (by omega)
theorem i_CvN (p : Nat) (w : World) (hp : p < 16) : Calls Tryz.prog 8 #[.int .i64 (p : Int)] w fun e w' => e = .returned (.bool true) ∧ w = w' := by
  have h := i_ConditionValid p w
  rw [cvB_nat p hp] at h
  exact h
theorem i_ImpliesN (p q : Nat) (w : World) (hp : p < 16) (hq : q < 16) : Calls Tryz.prog 37 #[.int .i64 (p : Int), .int .i64 (q : Int)] w fun e w' => e = .returned (.bool (decide (imp p q))) ∧ w = w' := by
  have e1 := bits_andn_nat p q hp hq
  go_enter Tryz.func37, Tryz.ntmps37
  go_wp2_with fail
  refine (i_CvN p _ hp).mono ?_
  rintro e w' ⟨rfl, rfl⟩
  go_wp2_with fail
  refine (i_CvN q _ hq).mono ?_
  rintro e w' ⟨rfl, rfl⟩
  go_wp2_with fail
  go_ret
  exact ⟨ret_bool (beq_zero_nat (andn p q)), rfl⟩
theorem i_HasN (p s : Nat) (w : World) (hp : p < 16) (hs : s < 4) : Calls Tryz.prog 11 #[.int .i64 (p : Int), .int .i64 (s : Int)] w fun e w' => e = .returned (.bool (p.testBit s)) ∧ w = w' := by
  have hb := bits_has' p s (by omega)
  have hst : stB (s : Int) = true := (stB_iff _).2 ⟨s, hs, rfl⟩
  go_enter Tryz.func11, Tryz.ntmps11
  go_wp2_with fail
  refine (i_CvN p _ hp).mono ?_
  rintro e w' ⟨rfl, rfl⟩
  go_wp2_with fail
  refine (i_stateOk _ _).mono ?_
  rw [hst]
  rintro e w' ⟨rfl, rfl⟩
  go_wp2_with fail
  go_ret
  exact ⟨rfl, rfl⟩
end Go.Proofs.YtiaeakpgldpaiaaGreat
namespace Go.Proofs.YtiaeakpgldpaiaaGreat
set_option linter.unusedSimpArgs false
set_option linter.unusedVariables false
set_option maxRecDepth 4000
open Go.RowKit

end Go.Proofs.YtiaeakpgldpaiaaGreat
namespace Go.Proofs.YtiaeakpgldpaiaaGreat
set_option linter.unusedSimpArgs false
set_option linter.unusedVariables false
set_option maxRecDepth 4000
open Go.RowKit

/-- The text of the transformer that does nothing. -/
def skipS : ByteArray := ⟨#[48, 49, 50, 51, 52, 53, 54, 55, 56, 57, 97, 98, 99, 100, 101, 102]⟩
theorem skip_ok : trOk ⟨#[48, 49, 50, 51, 52, 53, 54, 55, 56, 57, 97, 98, 99, 100, 101, 102]⟩ = true := by decide
theorem skip_dig : ∀ q, q < 16 → dig ⟨#[48, 49, 50, 51, 52, 53, 54, 55, 56, 57, 97, 98, 99, 100, 101, 102]⟩ q = q := by decide
end Go.Proofs.YtiaeakpgldpaiaaGreat
