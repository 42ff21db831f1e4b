/- Least and greatest solutions, duals: what the laws say of them. -/
import Derived.Test.YtiaeakpgldpaiaaPlain9
import Derived.Test.YtiaeakpgldpaiaaApp
namespace Go.Proofs.Ytiaeakpgldpaiaa
set_option linter.unusedSimpArgs false
set_option linter.unusedVariables false
set_option maxRecDepth 4000
open Go.RowKit

theorem not_not16 : ∀ x, x < 16 → andn 15 (andn 15 x) = x := by decide
theorem not_imp {p q : Nat} (h : imp p q) : imp (andn 15 q) (andn 15 p) := by
  rw [imp_iff]
  intro i hi
  rw [testBit_andn] at hi ⊢
  have := (imp_iff p q).1 h i
  cases h1 : p.testBit i <;> cases h2 : q.testBit i <;> simp_all
theorem fDual_mono {T : Nat → Nat} (hm : Mono T) : Mono (fDual T) := fun p q hp hq h =>
  not_imp (hm _ _ (andn_lt (by omega)) (andn_lt (by omega)) (not_imp h))
theorem fDual_ok {t : ByteArray} (h : trOk t = true) : trOk (txt 16 (fDual (dig t))) = true := trOk_txt (fDual_bd _) (fDual_mono (dig_mono h))
theorem dig_txt {F : Nat → Nat} (hF : Bd F) (p : Nat) (hp : p < 16) : dig (txt 16 F) p = F p := txt_dig 16 F p hp (hF p hp)
theorem lfp_least {f : Nat → Nat} (hb : Bd f) (hm : Mono f) {y : Nat} (hy : y < 16) (h : imp (f y) y) : imp (lfp f) y := by
  have : ∀ n, imp (iter f 0 n) y := fun n => by
    induction n with
    | zero => exact zero_imp y
    | succ n ih => exact imp_trans (hm _ _ (iter_bd hb (by omega) n) hy ih) h
  exact this 4
theorem gfp_greatest {f : Nat → Nat} (hb : Bd f) (hm : Mono f) {y : Nat} (hy : y < 16) (h : imp y (f y)) : imp y (gfp f) := by
  have : ∀ n, imp y (iter f 15 n) := fun n => by
    induction n with
    | zero => exact imp_all hy
    | succ n ih => exact imp_trans h (hm _ _ hy (iter_bd hb (by omega) n) ih)
  exact this 4
theorem iter_dual {f : Nat → Nat} (hb : Bd f) {a : Nat} (ha : a < 16) : ∀ n, iter (fDual f) (andn 15 a) n = andn 15 (iter f a n)
  | 0 => rfl
  | n + 1 => by
    show fDual f (iter (fDual f) (andn 15 a) n) = andn 15 (f (iter f a n))
    rw [iter_dual hb ha n]
    unfold fDual
    rw [not_not16 _ (iter_bd hb ha n)]
theorem lfp_dual {f : Nat → Nat} (hb : Bd f) : lfp (fDual f) = andn 15 (gfp f) := iter_dual hb (a := 15) (by omega) 4
theorem gfp_dual {f : Nat → Nat} (hb : Bd f) : gfp (fDual f) = andn 15 (lfp f) := iter_dual hb (a := 0) (by omega) 4
theorem lfp_dig_dual {t : ByteArray} : lfp (dig (txt 16 (fDual (dig t)))) = andn 15 (gfp (dig t)) := by
  rw [← lfp_dual (dig_bd t)]
  exact lfp_congr (dig_bd _) (fun p hp => dig_txt (fDual_bd _) p hp)
theorem gfp_dig_dual {t : ByteArray} : gfp (dig (txt 16 (fDual (dig t)))) = andn 15 (lfp (dig t)) := by
  rw [← gfp_dual (dig_bd t)]
  exact gfp_congr (dig_bd _) (fun p hp => dig_txt (fDual_bd _) p hp)
theorem fPoints_bit (T : Nat → Nat) (p : Nat) (hp : p < 16) : (fPoints T).testBit p = decide (T p = p) := by
  unfold fPoints
  rw [testBit_mkC, decide_eq_true hp, Bool.true_and]
theorem fPoints_lt (T : Nat → Nat) : fPoints T < 65536 := mkC_lt _ 16
end Go.Proofs.Ytiaeakpgldpaiaa
