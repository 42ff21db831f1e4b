/- Joined texts: PlainA, PlainB. -/
import Derived.Test.YtiaeakpgldpaiaaQJ0
import Derived.Test.YtiaeakpgldpaiaaQJ6
namespace Go.Proofs.Ytiaeakpgldpaiaa
set_option linter.unusedSimpArgs false
set_option linter.unusedVariables false
set_option maxRecDepth 4000
open Go.RowKit

theorem not_not16 : ∀ x, x < 16 → andn 15 (andn 15 x) = x := by decide
theorem not_imp {p q : Nat} (h : imp p q) : imp (andn 15 q) (andn 15 p) := by
  rw [imp_iff]
  intro i hi
  rw [testBit_andn] at hi ⊢
  have := (imp_iff p q).1 h i
  cases h1 : p.testBit i <;> cases h2 : q.testBit i <;> simp_all
theorem fDual_mono {T : Nat → Nat} (hm : Mono T) : Mono (fDual T) := fun p q hp hq h =>
  not_imp (hm _ _ (andn_lt (by omega)) (andn_lt (by omega)) (not_imp h))
theorem fDual_ok {t : ByteArray} (h : trOk t = true) : trOk (txt 16 (fDual (dig t))) = true := trOk_txt (fDual_bd _) (fDual_mono (dig_mono h))
theorem dig_txt {F : Nat → Nat} (hF : Bd F) (p : Nat) (hp : p < 16) : dig (txt 16 F) p = F p := txt_dig 16 F p hp (hF p hp)
theorem lfp_least {f : Nat → Nat} (hb : Bd f) (hm : Mono f) {y : Nat} (hy : y < 16) (h : imp (f y) y) : imp (lfp f) y := by
  have : ∀ n, imp (iter f 0 n) y := fun n => by
    induction n with
    | zero => exact zero_imp y
    | succ n ih => exact imp_trans (hm _ _ (iter_bd hb (by omega) n) hy ih) h
  exact this 4
theorem gfp_greatest {f : Nat → Nat} (hb : Bd f) (hm : Mono f) {y : Nat} (hy : y < 16) (h : imp y (f y)) : imp y (gfp f) := by
  have : ∀ n, imp y (iter f 15 n) := fun n => by
    induction n with
    | zero => exact imp_all hy
    | succ n ih => exact imp_trans h (hm _ _ hy (iter_bd hb (by omega) n) ih)
  exact this 4
theorem iter_dual {f : Nat → Nat} (hb : Bd f) {a : Nat} (ha : a < 16) : ∀ n, iter (fDual f) (andn 15 a) n = andn 15 (iter f a n)
  | 0 => rfl
  | n + 1 => by
    show fDual f (iter (fDual f) (andn 15 a) n) = andn 15 (f (iter f a n))
    rw [iter_dual hb ha n]
    unfold fDual
    rw [not_not16 _ (iter_bd hb ha n)]
theorem lfp_dual {f : Nat → Nat} (hb : Bd f) : lfp (fDual f) = andn 15 (gfp f) := iter_dual hb (a := 15) (by omega) 4
theorem gfp_dual {f : Nat → Nat} (hb : Bd f) : gfp (fDual f) = andn 15 (lfp f) := iter_dual hb (a := 0) (by omega) 4
theorem lfp_dig_dual {t : ByteArray} : lfp (dig (txt 16 (fDual (dig t)))) = andn 15 (gfp (dig t)) := by
  rw [← lfp_dual (dig_bd t)]
  exact lfp_congr (dig_bd _) (fun p hp => dig_txt (fDual_bd _) p hp)
theorem gfp_dig_dual {t : ByteArray} : gfp (dig (txt 16 (fDual (dig t)))) = andn 15 (lfp (dig t)) := by
  rw [← gfp_dual (dig_bd t)]
  exact gfp_congr (dig_bd _) (fun p hp => dig_txt (fDual_bd _) p hp)
theorem fPoints_bit (T : Nat → Nat) (p : Nat) (hp : p < 16) : (fPoints T).testBit p = decide (T p = p) := by
  unfold fPoints
  rw [testBit_mkC, decide_eq_true hp, Bool.true_and]
theorem fPoints_lt (T : Nat → Nat) : fPoints T < 65536 := mkC_lt _ 16
end Go.Proofs.Ytiaeakpgldpaiaa
namespace Go.Proofs.Ytiaeakpgldpaiaa
set_option linter.unusedSimpArgs false
set_option linter.unusedVariables false
set_option maxRecDepth 4000
open Go.RowKit

theorem not_or16 (a b : Nat) : andn 15 a &&& andn 15 b = andn 15 (a ||| b) := by
  apply Nat.eq_of_testBit_eq
  intro i
  simp only [Nat.testBit_and, testBit_andn, Nat.testBit_or]
  cases Nat.testBit 15 i <;> cases a.testBit i <;> cases b.testBit i <;> rfl
theorem not_and16 (a b : Nat) : andn 15 a ||| andn 15 b = andn 15 (a &&& b) := by
  apply Nat.eq_of_testBit_eq
  intro i
  simp only [Nat.testBit_and, testBit_andn, Nat.testBit_or]
  cases Nat.testBit 15 i <;> cases a.testBit i <;> cases b.testBit i <;> rfl
theorem imp_or_left (a b : Nat) : imp a (a ||| b) := (imp_iff _ _).2 fun i h => by rw [Nat.testBit_or, h, Bool.true_or]
theorem imp_or_right (a b : Nat) : imp b (a ||| b) := (imp_iff _ _).2 fun i h => by rw [Nat.testBit_or, h, Bool.or_true]
theorem imp_and_left (a b : Nat) : imp (a &&& b) a := (imp_iff _ _).2 fun i h => by rw [Nat.testBit_and] at h; simp_all
theorem imp_and_right (a b : Nat) : imp (a &&& b) b := (imp_iff _ _).2 fun i h => by rw [Nat.testBit_and] at h; simp_all
theorem or_imp {a b c : Nat} (h : imp a c) (k : imp b c) : imp (a ||| b) c := (imp_iff _ _).2 fun i hi => by
  rw [Nat.testBit_or, Bool.or_eq_true] at hi
  rcases hi with hi | hi
  · exact (imp_iff _ _).1 h i hi
  · exact (imp_iff _ _).1 k i hi
theorem imp_and_of {a b c : Nat} (h : imp c a) (k : imp c b) : imp c (a &&& b) := (imp_iff _ _).2 fun i hi => by
  rw [Nat.testBit_and, (imp_iff _ _).1 h i hi, (imp_iff _ _).1 k i hi]; rfl
theorem gfp_dual_or {T : Nat → Nat} {D : Nat → Nat} {n : Nat} (hb : Bd T) (hD : ∀ p, p < 16 → D p = fDual T p) (hn : n < 16) : gfp (eqA D (andn 15 n)) = andn 15 (lfp (eqO T n)) := by
  rw [← gfp_dual (eqO_bd hb hn)]
  refine gfp_congr (eqA_bd (andn_lt (by omega))) fun p hp => ?_
  show D p &&& andn 15 n = andn 15 (T (andn 15 p) ||| n)
  rw [hD p hp, ← not_or16]
  rfl
theorem lfp_or_again {T : Nat → Nat} {n : Nat} (hb : Bd T) (hm : Mono T) (hn : n < 16) : lfp (eqO T (lfp (eqO T n))) = lfp (eqO T n) := by
  have hL : lfp (eqO T n) < 16 := lfp_lt (eqO_bd hb hn)
  have hfix : T (lfp (eqO T n)) ||| n = lfp (eqO T n) := lfp_fix (eqO_bd hb hn) (eqO_mono hm n)
  apply imp_antisymm
  · refine lfp_least (eqO_bd hb hL) (eqO_mono hm _) hL ?_
    show imp (T (lfp (eqO T n)) ||| lfp (eqO T n)) _
    refine or_imp ?_ (imp_refl _)
    have := imp_or_left (T (lfp (eqO T n))) n
    rw [hfix] at this
    exact this
  · have h2 : T (lfp (eqO T (lfp (eqO T n)))) ||| lfp (eqO T n) = lfp (eqO T (lfp (eqO T n))) := lfp_fix (eqO_bd hb hL) (eqO_mono hm _)
    have := imp_or_right (T (lfp (eqO T (lfp (eqO T n))))) (lfp (eqO T n))
    rw [h2] at this
    exact this
theorem gfp_and_again {T : Nat → Nat} {n : Nat} (hb : Bd T) (hm : Mono T) (hn : n < 16) : gfp (eqA T (gfp (eqA T n))) = gfp (eqA T n) := by
  have hL : gfp (eqA T n) < 16 := gfp_lt (eqA_bd hn)
  have hfix : T (gfp (eqA T n)) &&& n = gfp (eqA T n) := gfp_fix (eqA_bd hn) (eqA_mono hm n)
  apply imp_antisymm
  · have h2 : T (gfp (eqA T (gfp (eqA T n)))) &&& gfp (eqA T n) = gfp (eqA T (gfp (eqA T n))) := gfp_fix (eqA_bd hL) (eqA_mono hm _)
    have := imp_and_right (T (gfp (eqA T (gfp (eqA T n))))) (gfp (eqA T n))
    rw [h2] at this
    exact this
  · refine gfp_greatest (eqA_bd hL) (eqA_mono hm _) hL ?_
    show imp _ (T (gfp (eqA T n)) &&& gfp (eqA T n))
    refine imp_and_of ?_ (imp_refl _)
    have := imp_and_left (T (gfp (eqA T n))) n
    rw [hfix] at this
    exact this
theorem bit_turn (p b q i : Nat) : (turn p b q).testBit i = ((p.testBit i && b.testBit i) || (q.testBit i && !p.testBit i)) := by
  unfold turn
  rw [Nat.testBit_or, Nat.testBit_and, testBit_andn]
/-- A condition that the body keeps and that is good where it ends solves the loop's equation. -/
theorem keeps_turn {n k b m : Nat} (hk : k < 16) (h1 : imp (n &&& k) b) (h2 : imp (k &&& andn 15 n) m) : imp k (turn n b m) := by
  rw [imp_iff]
  intro i hi
  have h15 : Nat.testBit 15 i = true := (imp_iff _ _).1 (imp_all hk) i hi
  rw [bit_turn]
  cases hn : n.testBit i
  · have := (imp_iff _ _).1 h2 i (by rw [Nat.testBit_and, testBit_andn, hi, h15, hn]; rfl)
    rw [this]; rfl
  · have := (imp_iff _ _).1 h1 i (by rw [Nat.testBit_and, hi, hn]; rfl)
    rw [this]; rfl
theorem turn_keeps {n b m : Nat} : imp (n &&& turn n b m) b := by
  rw [imp_iff]
  intro i hi
  rw [Nat.testBit_and, bit_turn] at hi
  cases h1 : n.testBit i <;> cases h2 : b.testBit i <;> simp_all
theorem turn_ends {n b m : Nat} : imp (turn n b m &&& andn 15 n) m := by
  rw [imp_iff]
  intro i hi
  rw [Nat.testBit_and, bit_turn, testBit_andn] at hi
  cases h1 : n.testBit i <;> cases h2 : m.testBit i <;> simp_all
theorem i_KeepsN (t : ByteArray) (n k : Nat) (w : World) (hok : trOk t = true) (hn : n < 16) (hk : k < 16) : Calls Try.prog 53 #[.int .i64 (n : Int), .string t, .int .i64 (k : Int)] w fun e w' => e = .returned (.bool (decide (imp (n &&& k) (dig t k)))) ∧ Below w.heap.size w w' := by
  have h := i_KeepsInvariant (n : Int) t (k : Int) w
  rw [hok, cvB_nat n hn, cvB_nat k hk] at h
  exact h
end Go.Proofs.Ytiaeakpgldpaiaa
