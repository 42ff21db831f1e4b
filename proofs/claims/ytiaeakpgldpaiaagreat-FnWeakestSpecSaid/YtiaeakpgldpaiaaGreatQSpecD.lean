/- The reference's listed functions: what each returns; none turns the world. -/
import Derived.Test.YtiaeakpgldpaiaaGreatQJ2
namespace Go.Proofs.YtiaeakpgldpaiaaGreat
set_option linter.unusedSimpArgs false
set_option linter.unusedVariables false
set_option maxRecDepth 4000
open Go.RowKit

theorem optS_t (s : ByteArray) : optS true s = s := rfl
theorem optS_f (s : ByteArray) : optS false s = ⟨#[]⟩ := rfl
theorem optI_t (n : Nat) : optI true n = (n : Int) := rfl
theorem optI_f (n : Nat) : optI false n = -1 := rfl

theorem s_CodeSpec (p : Int) (r : ByteArray) (w : World) (hr : r.size ≤ 1048576) : Calls Tryz.prog 42 #[.int .i64 p, .string r] w fun e w' => e = .returned (.tuple #[.string (optS (cvB p && relOk r) (fCode p.toNat r)), .bool (cvB p && relOk r)]) ∧ w = w' := by
  cases hok : (cvB p && relOk r)
  · go_enter Tryz.func42, Tryz.ntmps42
    go_wp2_with (go_at_call 23; refine (s_l9Ready _ _ _ hr).mono ?_; rw [hok]; rintro e w' ⟨rfl, rfl⟩)
    go_ret2
    exact ⟨rfl, rfl⟩
  · have h2 := hok
    rw [Bool.and_eq_true] at h2
    obtain ⟨n, hn, rfl⟩ := (cvB_iff p).1 h2.1
    clear h2
    go_enter Tryz.func42, Tryz.ntmps42
    go_wp2_with (first | (go_at_call 23; refine (s_l9Ready _ _ _ hr).mono ?_; rw [hok]; rintro e w' ⟨rfl, rfl⟩) | (go_at_call 25; refine (s_l2Digit _ _ hn).mono ?_; rintro e w' ⟨rfl, rfl⟩))
    go_ret2
    exact ⟨rfl, rfl⟩
end Go.Proofs.YtiaeakpgldpaiaaGreat
