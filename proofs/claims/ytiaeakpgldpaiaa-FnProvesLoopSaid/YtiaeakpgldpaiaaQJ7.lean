/- Joined texts: PlainA, PlainB, PlainC, PlainR. -/
import Derived.Test.YtiaeakpgldpaiaaQJ0
import Derived.Test.YtiaeakpgldpaiaaQJ6
import Derived.Test.YtiaeakpgldpaiaaQJ1
namespace Go.Proofs.Ytiaeakpgldpaiaa
set_option linter.unusedSimpArgs false
set_option linter.unusedVariables false
set_option maxRecDepth 4000
open Go.RowKit

theorem not_not16 : ∀ x, x < 16 → andn 15 (andn 15 x) = x := by decide
theorem not_imp {p q : Nat} (h : imp p q) : imp (andn 15 q) (andn 15 p) := by
  rw [imp_iff]
  intro i hi
  rw [testBit_andn] at hi ⊢
  have := (imp_iff p q).1 h i
  cases h1 : p.testBit i <;> cases h2 : q.testBit i <;> simp_all
theorem fDual_mono {T : Nat → Nat} (hm : Mono T) : Mono (fDual T) := fun p q hp hq h =>
  not_imp (hm _ _ (andn_lt (by omega)) (andn_lt (by omega)) (not_imp h))
theorem fDual_ok {t : ByteArray} (h : trOk t = true) : trOk (txt 16 (fDual (dig t))) = true := trOk_txt (fDual_bd _) (fDual_mono (dig_mono h))
theorem dig_txt {F : Nat → Nat} (hF : Bd F) (p : Nat) (hp : p < 16) : dig (txt 16 F) p = F p := txt_dig 16 F p hp (hF p hp)
theorem lfp_least {f : Nat → Nat} (hb : Bd f) (hm : Mono f) {y : Nat} (hy : y < 16) (h : imp (f y) y) : imp (lfp f) y := by
  have : ∀ n, imp (iter f 0 n) y := fun n => by
    induction n with
    | zero => exact zero_imp y
    | succ n ih => exact imp_trans (hm _ _ (iter_bd hb (by omega) n) hy ih) h
  exact this 4
theorem gfp_greatest {f : Nat → Nat} (hb : Bd f) (hm : Mono f) {y : Nat} (hy : y < 16) (h : imp y (f y)) : imp y (gfp f) := by
  have : ∀ n, imp y (iter f 15 n) := fun n => by
    induction n with
    | zero => exact imp_all hy
    | succ n ih => exact imp_trans h (hm _ _ hy (iter_bd hb (by omega) n) ih)
  exact this 4
theorem iter_dual {f : Nat → Nat} (hb : Bd f) {a : Nat} (ha : a < 16) : ∀ n, iter (fDual f) (andn 15 a) n = andn 15 (iter f a n)
  | 0 => rfl
  | n + 1 => by
    show fDual f (iter (fDual f) (andn 15 a) n) = andn 15 (f (iter f a n))
    rw [iter_dual hb ha n]
    unfold fDual
    rw [not_not16 _ (iter_bd hb ha n)]
theorem lfp_dual {f : Nat → Nat} (hb : Bd f) : lfp (fDual f) = andn 15 (gfp f) := iter_dual hb (a := 15) (by omega) 4
theorem gfp_dual {f : Nat → Nat} (hb : Bd f) : gfp (fDual f) = andn 15 (lfp f) := iter_dual hb (a := 0) (by omega) 4
theorem lfp_dig_dual {t : ByteArray} : lfp (dig (txt 16 (fDual (dig t)))) = andn 15 (gfp (dig t)) := by
  rw [← lfp_dual (dig_bd t)]
  exact lfp_congr (dig_bd _) (fun p hp => dig_txt (fDual_bd _) p hp)
theorem gfp_dig_dual {t : ByteArray} : gfp (dig (txt 16 (fDual (dig t)))) = andn 15 (lfp (dig t)) := by
  rw [← gfp_dual (dig_bd t)]
  exact gfp_congr (dig_bd _) (fun p hp => dig_txt (fDual_bd _) p hp)
theorem fPoints_bit (T : Nat → Nat) (p : Nat) (hp : p < 16) : (fPoints T).testBit p = decide (T p = p) := by
  unfold fPoints
  rw [testBit_mkC, decide_eq_true hp, Bool.true_and]
theorem fPoints_lt (T : Nat → Nat) : fPoints T < 65536 := mkC_lt _ 16
end Go.Proofs.Ytiaeakpgldpaiaa
namespace Go.Proofs.Ytiaeakpgldpaiaa
set_option linter.unusedSimpArgs false
set_option linter.unusedVariables false
set_option maxRecDepth 4000
open Go.RowKit

theorem not_or16 (a b : Nat) : andn 15 a &&& andn 15 b = andn 15 (a ||| b) := by
  apply Nat.eq_of_testBit_eq
  intro i
  simp only [Nat.testBit_and, testBit_andn, Nat.testBit_or]
  cases Nat.testBit 15 i <;> cases a.testBit i <;> cases b.testBit i <;> rfl
theorem not_and16 (a b : Nat) : andn 15 a ||| andn 15 b = andn 15 (a &&& b) := by
  apply Nat.eq_of_testBit_eq
  intro i
  simp only [Nat.testBit_and, testBit_andn, Nat.testBit_or]
  cases Nat.testBit 15 i <;> cases a.testBit i <;> cases b.testBit i <;> rfl
theorem imp_or_left (a b : Nat) : imp a (a ||| b) := (imp_iff _ _).2 fun i h => by rw [Nat.testBit_or, h, Bool.true_or]
theorem imp_or_right (a b : Nat) : imp b (a ||| b) := (imp_iff _ _).2 fun i h => by rw [Nat.testBit_or, h, Bool.or_true]
theorem imp_and_left (a b : Nat) : imp (a &&& b) a := (imp_iff _ _).2 fun i h => by rw [Nat.testBit_and] at h; simp_all
theorem imp_and_right (a b : Nat) : imp (a &&& b) b := (imp_iff _ _).2 fun i h => by rw [Nat.testBit_and] at h; simp_all
theorem or_imp {a b c : Nat} (h : imp a c) (k : imp b c) : imp (a ||| b) c := (imp_iff _ _).2 fun i hi => by
  rw [Nat.testBit_or, Bool.or_eq_true] at hi
  rcases hi with hi | hi
  · exact (imp_iff _ _).1 h i hi
  · exact (imp_iff _ _).1 k i hi
theorem imp_and_of {a b c : Nat} (h : imp c a) (k : imp c b) : imp c (a &&& b) := (imp_iff _ _).2 fun i hi => by
  rw [Nat.testBit_and, (imp_iff _ _).1 h i hi, (imp_iff _ _).1 k i hi]; rfl
theorem gfp_dual_or {T : Nat → Nat} {D : Nat → Nat} {n : Nat} (hb : Bd T) (hD : ∀ p, p < 16 → D p = fDual T p) (hn : n < 16) : gfp (eqA D (andn 15 n)) = andn 15 (lfp (eqO T n)) := by
  rw [← gfp_dual (eqO_bd hb hn)]
  refine gfp_congr (eqA_bd (andn_lt (by omega))) fun p hp => ?_
  show D p &&& andn 15 n = andn 15 (T (andn 15 p) ||| n)
  rw [hD p hp, ← not_or16]
  rfl
theorem lfp_or_again {T : Nat → Nat} {n : Nat} (hb : Bd T) (hm : Mono T) (hn : n < 16) : lfp (eqO T (lfp (eqO T n))) = lfp (eqO T n) := by
  have hL : lfp (eqO T n) < 16 := lfp_lt (eqO_bd hb hn)
  have hfix : T (lfp (eqO T n)) ||| n = lfp (eqO T n) := lfp_fix (eqO_bd hb hn) (eqO_mono hm n)
  apply imp_antisymm
  · refine lfp_least (eqO_bd hb hL) (eqO_mono hm _) hL ?_
    show imp (T (lfp (eqO T n)) ||| lfp (eqO T n)) _
    refine or_imp ?_ (imp_refl _)
    have := imp_or_left (T (lfp (eqO T n))) n
    rw [hfix] at this
    exact this
  · have h2 : T (lfp (eqO T (lfp (eqO T n)))) ||| lfp (eqO T n) = lfp (eqO T (lfp (eqO T n))) := lfp_fix (eqO_bd hb hL) (eqO_mono hm _)
    have := imp_or_right (T (lfp (eqO T (lfp (eqO T n))))) (lfp (eqO T n))
    rw [h2] at this
    exact this
theorem gfp_and_again {T : Nat → Nat} {n : Nat} (hb : Bd T) (hm : Mono T) (hn : n < 16) : gfp (eqA T (gfp (eqA T n))) = gfp (eqA T n) := by
  have hL : gfp (eqA T n) < 16 := gfp_lt (eqA_bd hn)
  have hfix : T (gfp (eqA T n)) &&& n = gfp (eqA T n) := gfp_fix (eqA_bd hn) (eqA_mono hm n)
  apply imp_antisymm
  · have h2 : T (gfp (eqA T (gfp (eqA T n)))) &&& gfp (eqA T n) = gfp (eqA T (gfp (eqA T n))) := gfp_fix (eqA_bd hL) (eqA_mono hm _)
    have := imp_and_right (T (gfp (eqA T (gfp (eqA T n))))) (gfp (eqA T n))
    rw [h2] at this
    exact this
  · refine gfp_greatest (eqA_bd hL) (eqA_mono hm _) hL ?_
    show imp _ (T (gfp (eqA T n)) &&& gfp (eqA T n))
    refine imp_and_of ?_ (imp_refl _)
    have := imp_and_left (T (gfp (eqA T n))) n
    rw [hfix] at this
    exact this
theorem bit_turn (p b q i : Nat) : (turn p b q).testBit i = ((p.testBit i && b.testBit i) || (q.testBit i && !p.testBit i)) := by
  unfold turn
  rw [Nat.testBit_or, Nat.testBit_and, testBit_andn]
/-- A condition that the body keeps and that is good where it ends solves the loop's equation. -/
theorem keeps_turn {n k b m : Nat} (hk : k < 16) (h1 : imp (n &&& k) b) (h2 : imp (k &&& andn 15 n) m) : imp k (turn n b m) := by
  rw [imp_iff]
  intro i hi
  have h15 : Nat.testBit 15 i = true := (imp_iff _ _).1 (imp_all hk) i hi
  rw [bit_turn]
  cases hn : n.testBit i
  · have := (imp_iff _ _).1 h2 i (by rw [Nat.testBit_and, testBit_andn, hi, h15, hn]; rfl)
    rw [this]; rfl
  · have := (imp_iff _ _).1 h1 i (by rw [Nat.testBit_and, hi, hn]; rfl)
    rw [this]; rfl
theorem turn_keeps {n b m : Nat} : imp (n &&& turn n b m) b := by
  rw [imp_iff]
  intro i hi
  rw [Nat.testBit_and, bit_turn] at hi
  cases h1 : n.testBit i <;> cases h2 : b.testBit i <;> simp_all
theorem turn_ends {n b m : Nat} : imp (turn n b m &&& andn 15 n) m := by
  rw [imp_iff]
  intro i hi
  rw [Nat.testBit_and, bit_turn, testBit_andn] at hi
  cases h1 : n.testBit i <;> cases h2 : m.testBit i <;> simp_all
theorem i_KeepsN (t : ByteArray) (n k : Nat) (w : World) (hok : trOk t = true) (hn : n < 16) (hk : k < 16) : Calls Try.prog 53 #[.int .i64 (n : Int), .string t, .int .i64 (k : Int)] w fun e w' => e = .returned (.bool (decide (imp (n &&& k) (dig t k)))) ∧ Below w.heap.size w w' := by
  have h := i_KeepsInvariant (n : Int) t (k : Int) w
  rw [hok, cvB_nat n hn, cvB_nat k hk] at h
  exact h
end Go.Proofs.Ytiaeakpgldpaiaa
namespace Go.Proofs.Ytiaeakpgldpaiaa
set_option linter.unusedSimpArgs false
set_option linter.unusedVariables false
set_option maxRecDepth 4000
open Go.RowKit
set_option linter.unusedSectionVars false

theorem iter_more (f : Nat → Nat) (a m : Nat) : ∀ n, iter f (iter f a m) n = iter f a (m + n)
  | 0 => rfl
  | n + 1 => by
    show f (iter f (iter f a m) n) = f (iter f a (m + n))
    rw [iter_more f a m n]
theorem power_dual {T : Nat → Nat} (hb : Bd T) (n p : Nat) (hp : p < 16) : fPower (fDual T) n p = fDual (fPower T n) p := by
  have h := iter_dual hb (a := andn 15 p) (andn_lt (by omega)) n
  rw [not_not16 p hp] at h
  exact h
theorem txt_fun {F G : Nat → Nat} (h : ∀ p, p < 16 → F p = G p) : txt 16 F = txt 16 G := txt_congr h
/-- The text of one table behind another. -/
theorem then_txt {F G : Nat → Nat} (hF : Bd F) (hG : Bd G) : txt 16 (fun p => dig (txt 16 F) (dig (txt 16 G) p)) = txt 16 (fun p => F (G p)) := txt_congr fun p hp => by
  rw [dig_txt hG p hp, dig_txt hF _ (hG p hp)]
theorem dual_txt {F : Nat → Nat} (hF : Bd F) : txt 16 (fDual (dig (txt 16 F))) = txt 16 (fDual F) := txt_congr fun p hp => by
  show andn 15 (dig (txt 16 F) (andn 15 p)) = andn 15 (F (andn 15 p))
  rw [dig_txt hF _ (andn_lt (by omega))]
theorem fPower_congr {T U : Nat → Nat} (hT : Bd T) (h : ∀ p, p < 16 → T p = U p) (n p : Nat) (hp : p < 16) : fPower T n p = fPower U n p := iter_congr hT h hp n
theorem fPower_mono {T : Nat → Nat} (hb : Bd T) (hm : Mono T) (n : Nat) : Mono (fPower T n) := fun p q hp hq h => by
  induction n with
  | zero => exact h
  | succ n ih => exact hm _ _ (iter_bd hb hp n) (iter_bd hb hq n) ih
section
variable {T : Nat → Nat} {n m a : Nat} (hb : Bd T) (hm : Mono T) (hn : n < 16) (ha : a < 16)
include hb hm hn ha
theorem while_fix : turn n (T (fWhile n T a)) a = fWhile n T a := lfp_fix (eqW_bd hn ha) (eqW_mono hm n a)
theorem while_part : fWhile (n &&& m) T (fWhile n T a) = fWhile n T a := by
  have hL : fWhile n T a < 16 := fWhile_bd hn a ha
  have hnm : n &&& m < 16 := and_lt hn
  have hLf := while_fix hb hm hn ha
  obtain ⟨L, hLd⟩ : ∃ L, L = fWhile n T a := ⟨_, rfl⟩
  rw [← hLd] at hL hLf ⊢
  have hW : fWhile (n &&& m) T L < 16 := fWhile_bd hnm L hL
  have hWf : turn (n &&& m) (T (fWhile (n &&& m) T L)) L = fWhile (n &&& m) T L := lfp_fix (eqW_bd hnm hL) (eqW_mono hm _ _)
  have h1 : imp (fWhile (n &&& m) T L) L := by
    refine lfp_least (eqW_bd hnm hL) (eqW_mono hm _ _) hL ?_
    show imp (turn (n &&& m) (T L) L) L
    rw [imp_iff]
    intro i hi
    rw [bit_turn, Nat.testBit_and] at hi
    have := congrArg (fun x => x.testBit i) hLf
    simp only [bit_turn] at this
    rw [← this]
    cases hni : n.testBit i <;> cases hmi : m.testBit i <;> cases hti : (T L).testBit i <;> cases hai : a.testBit i <;> cases hli : L.testBit i <;> simp_all
  apply imp_antisymm h1
  obtain ⟨W, hWd⟩ : ∃ W, W = fWhile (n &&& m) T L := ⟨_, rfl⟩
  rw [← hWd] at hW hWf h1 ⊢
  rw [hLd]
  refine lfp_least (eqW_bd hn ha) (eqW_mono hm _ _) hW ?_
  show imp (turn n (T W) a) W
  have h2 := hm _ _ hW hL h1
  rw [imp_iff]
  intro i hi
  rw [bit_turn] at hi
  have k1 := congrArg (fun x => x.testBit i) hLf
  have k2 := congrArg (fun x => x.testBit i) hWf
  simp only [bit_turn, Nat.testBit_and] at k1 k2
  have k3 := (imp_iff _ _).1 h2 i
  rw [← k2]
  cases hni : n.testBit i <;> cases hmi : m.testBit i <;> cases hti : (T W).testBit i <;> cases hai : a.testBit i <;> cases hli : L.testBit i <;> cases htl : (T L).testBit i <;> simp_all
theorem while_split : fSplit n m T a = fWhile n T a := by
  have hL : fWhile n T a < 16 := fWhile_bd hn a ha
  have hnm : n &&& m < 16 := and_lt hn
  have hB := fSplitB_bd (q := m) hn hb
  have hBm := fSplitB_mono (q := m) hn hb hm
  have hM : fWhile n (fSplitB n m T) a < 16 := fWhile_bd hn a ha
  have hMf : turn n (fSplitB n m T (fWhile n (fSplitB n m T) a)) a = fWhile n (fSplitB n m T) a := lfp_fix (eqW_bd hn ha) (eqW_mono hBm n a)
  have hLf := while_fix hb hm hn ha
  have hpart := while_part (m := m) hb hm hn ha
  have hML : imp (fWhile n (fSplitB n m T) a) (fWhile n T a) := by
    refine lfp_least (eqW_bd hn ha) (eqW_mono hBm n a) hL ?_
    show imp (turn n (T (fWhile (n &&& m) T (fWhile n T a))) a) _
    rw [hpart, hLf]
    exact imp_refl _
  show fWhile (n &&& m) T (fWhile n (fSplitB n m T) a) = _
  apply imp_antisymm
  · have := fWhile_mono hnm hm _ _ hM hL hML
    rw [hpart] at this
    exact this
  · obtain ⟨M, hMd⟩ : ∃ M, M = fWhile n (fSplitB n m T) a := ⟨_, rfl⟩
    rw [← hMd] at hM hMf ⊢
    have hK : fWhile (n &&& m) T M < 16 := fWhile_bd hnm M hM
    have hKf : turn (n &&& m) (T (fWhile (n &&& m) T M)) M = fWhile (n &&& m) T M := lfp_fix (eqW_bd hnm hM) (eqW_mono hm _ _)
    have hMf' : turn n (T (fWhile (n &&& m) T M)) a = M := hMf
    refine lfp_least (eqW_bd hn ha) (eqW_mono hm _ _) hK ?_
    show imp (turn n (T (fWhile (n &&& m) T M)) a) _
    obtain ⟨K, hKd⟩ : ∃ K, K = fWhile (n &&& m) T M := ⟨_, rfl⟩
    rw [← hKd] at hKf hMf' ⊢
    rw [imp_iff]
    intro i hi
    rw [hMf'] at hi
    have k2 := congrArg (fun x => x.testBit i) hKf
    have k1 := congrArg (fun x => x.testBit i) hMf'
    simp only [bit_turn, Nat.testBit_and] at k1 k2
    rw [← k2]
    cases hni : n.testBit i <;> cases hmi : m.testBit i <;> cases hti : (T K).testBit i <;> simp_all
end
section
variable {T U : Nat → Nat} (hT : Bd T) (hmT : Mono T) (hU : Bd U) (hmU : Mono U)
include hT hmT hU hmU
theorem roll_lfp : lfp (fun p => T (U p)) = T (lfp (fun p => U (T p))) := by
  have b1 : Bd (fun p => T (U p)) := fun p hp => hT _ (hU p hp)
  have b2 : Bd (fun p => U (T p)) := fun p hp => hU _ (hT p hp)
  have m1 : Mono (fun p => T (U p)) := fun p q hp hq h => hmT _ _ (hU p hp) (hU q hq) (hmU p q hp hq h)
  have m2 : Mono (fun p => U (T p)) := fun p q hp hq h => hmU _ _ (hT p hp) (hT q hq) (hmT p q hp hq h)
  have f1 : T (U (lfp (fun p => T (U p)))) = lfp (fun p => T (U p)) := lfp_fix b1 m1
  have f2 : U (T (lfp (fun p => U (T p)))) = lfp (fun p => U (T p)) := lfp_fix b2 m2
  apply imp_antisymm
  · refine lfp_least b1 m1 (hT _ (lfp_lt b2)) ?_
    show imp (T (U (T (lfp (fun p => U (T p)))))) _
    rw [f2]; exact imp_refl _
  · have : imp (lfp (fun p => U (T p))) (U (lfp (fun p => T (U p)))) := by
      refine lfp_least b2 m2 (hU _ (lfp_lt b1)) ?_
      show imp (U (T (U (lfp (fun p => T (U p)))))) _
      rw [f1]; exact imp_refl _
    have h := hmT _ _ (lfp_lt b2) (hU _ (lfp_lt b1)) this
    rw [f1] at h
    exact h
theorem roll_gfp : gfp (fun p => T (U p)) = T (gfp (fun p => U (T p))) := by
  have b1 : Bd (fun p => T (U p)) := fun p hp => hT _ (hU p hp)
  have b2 : Bd (fun p => U (T p)) := fun p hp => hU _ (hT p hp)
  have m1 : Mono (fun p => T (U p)) := fun p q hp hq h => hmT _ _ (hU p hp) (hU q hq) (hmU p q hp hq h)
  have m2 : Mono (fun p => U (T p)) := fun p q hp hq h => hmU _ _ (hT p hp) (hT q hq) (hmT p q hp hq h)
  have f1 : T (U (gfp (fun p => T (U p)))) = gfp (fun p => T (U p)) := gfp_fix b1 m1
  have f2 : U (T (gfp (fun p => U (T p)))) = gfp (fun p => U (T p)) := gfp_fix b2 m2
  apply imp_antisymm
  · have : imp (U (gfp (fun p => T (U p)))) (gfp (fun p => U (T p))) := by
      refine gfp_greatest b2 m2 (hU _ (gfp_lt b1)) ?_
      show imp _ (U (T (U (gfp (fun p => T (U p))))))
      rw [f1]; exact imp_refl _
    have h := hmT _ _ (hU _ (gfp_lt b1)) (gfp_lt b2) this
    rw [f1] at h
    exact h
  · refine gfp_greatest b1 m1 (hT _ (gfp_lt b2)) ?_
    show imp _ (T (U (T (gfp (fun p => U (T p))))))
    rw [f2]; exact imp_refl _
end
theorem lfp_gfp {T : Nat → Nat} (hb : Bd T) (hm : Mono T) : imp (lfp T) (gfp T) := lfp_least hb hm (gfp_lt hb) (by rw [gfp_fix hb hm]; exact imp_refl _)
end Go.Proofs.Ytiaeakpgldpaiaa
namespace Go.Proofs.Ytiaeakpgldpaiaa
set_option linter.unusedSimpArgs false
set_option linter.unusedVariables false
set_option maxRecDepth 4000
open Go.RowKit
set_option linter.unusedSectionVars false

theorem rkTo_spec (T : Nat → Nat) (p s : Nat) : ∀ n, (rkTo T p s n = -1 ∧ ∀ j, j < n → (iter (eqO T p) p j).testBit s = false) ∨ ∃ k, k < n ∧ rkTo T p s n = (k : Int) ∧ (iter (eqO T p) p k).testBit s = true ∧ ∀ j, j < k → (iter (eqO T p) p j).testBit s = false
  | 0 => .inl ⟨rfl, fun j hj => by omega⟩
  | n + 1 => by
    rcases rkTo_spec T p s n with ⟨h1, h2⟩ | ⟨k, h1, h2, h3, h4⟩
    · cases hb : (iter (eqO T p) p n).testBit s
      · refine .inl ⟨by rw [rkTo_no (.inr hb), h1], fun j hj => ?_⟩
        by_cases e : j = n
        · rw [e, hb]
        · exact h2 j (by omega)
      · exact .inr ⟨n, by omega, rkTo_yes (by omega) hb, hb, h2⟩
    · exact .inr ⟨k, by omega, by rw [rkTo_no (.inl (by omega)), h2], h3, h4⟩
/-- The states that a condition and lesser ranks give. -/
def lessTo (n : Nat) (R : Nat → Int) (s : Nat) : Nat → Nat
  | 0 => n
  | u + 1 => if 0 ≤ R u ∧ R u < R s then lessTo n R s u ||| one u else lessTo n R s u
theorem lessTo_lt {n : Nat} (hn : n < 16) (R : Nat → Int) (s : Nat) : ∀ u, u ≤ 4 → lessTo n R s u < 16
  | 0, _ => hn
  | u + 1, h => by
    unfold lessTo
    split
    · exact or_lt (lessTo_lt hn R s u (by omega)) (one_lt (by omega))
    · exact lessTo_lt hn R s u (by omega)
theorem lessTo_bit {n : Nat} {R : Nat → Int} {s i : Nat} : ∀ u, (n.testBit i = true ∨ (i < u ∧ 0 ≤ R i ∧ R i < R s)) → (lessTo n R s u).testBit i = true
  | 0, h => by
    rcases h with h | h
    · exact h
    · omega
  | u + 1, h => by
    unfold lessTo
    split
    · rename_i hc
      rw [Nat.testBit_or, testBit_one]
      by_cases e : u = i
      · simp [e]
      · rw [lessTo_bit u (by rcases h with h | h; exact .inl h; exact .inr ⟨by omega, h.2⟩)]; rfl
    · rename_i hc
      refine lessTo_bit u ?_
      rcases h with h | h
      · exact .inl h
      · by_cases e : u = i
        · subst e; exact absurd h.2 hc
        · exact .inr ⟨by omega, h.2⟩
section
variable {T : Nat → Nat} {n : Nat} (hb : Bd T) (hm : Mono T) (hn : n < 16)
include hb hm hn
theorem rank_zero (s : Nat) : (rank T n s == 0) = n.testBit s := by
  rcases rkTo_spec T n s 5 with ⟨h1, h2⟩ | ⟨k, h1, h2, h3, h4⟩
  · have := h2 0 (by omega)
    rw [show n.testBit s = false from this, beq_eq_false_iff_ne]
    show rkTo T n s 5 ≠ 0
    omega
  · by_cases e : k = 0
    · subst e
      rw [show n.testBit s = true from h3]
      show (rkTo T n s 5 == 0) = true
      rw [h2]; rfl
    · rw [show n.testBit s = false from h4 0 (by omega), beq_eq_false_iff_ne]
      show rkTo T n s 5 ≠ 0
      omega
theorem rank_less (s : Nat) (h : 0 < rank T n s) : (T (lessTo n (rank T n) s 4)).testBit s = true := by
  rcases rkTo_spec T n s 5 with ⟨h1, h2⟩ | ⟨k, h1, h2, h3, h4⟩
  · have h1' : rank T n s = -1 := h1
    omega
  · have h2' : rank T n s = (k : Int) := h2
    cases k with
    | zero => rw [h2'] at h; simp at h
    | succ m =>
      have hY : (T (iter (eqO T n) n m) ||| n).testBit s = true := h3
      have hns : n.testBit s = false := h4 0 (by omega)
      rw [Nat.testBit_or, hns, Bool.or_false] at hY
      have hsub : imp (iter (eqO T n) n m) (lessTo n (rank T n) s 4) := (imp_iff _ _).2 fun i hi => by
        refine lessTo_bit 4 ?_
        have hi4 : i < 4 := by
          rcases Nat.lt_or_ge i 4 with h | h
          · exact h
          · rw [testBit_ge (iter_bd (eqO_bd hb hn) hn m) h] at hi; cases hi
        by_cases hni : n.testBit i = true
        · exact .inl hni
        · right
          refine ⟨hi4, ?_⟩
          rcases rkTo_spec T n i 5 with ⟨k1, k2⟩ | ⟨k, k1, k2, k3, k4⟩
          · rw [k2 m (by omega)] at hi; cases hi
          · have k2' : rank T n i = (k : Int) := k2
            have : k ≤ m := by
              rcases Nat.lt_or_ge m k with h | h
              · rw [k4 m h] at hi; cases hi
              · exact h
            rw [k2', h2']
            exact ⟨by omega, by omega⟩
      exact (imp_iff _ _).1 (hm _ _ (iter_bd (eqO_bd hb hn) hn m) (lessTo_lt hn _ _ 4 (by omega)) hsub) s hY
theorem lfp_from : lfp (eqO T n) = iter (eqO T n) n 4 := by
  have hB := eqO_bd hb hn
  have hM := eqO_mono hm n
  apply imp_antisymm
  · refine lfp_least hB hM (iter_bd hB hn 4) ?_
    have h5 := iter_stays hB hM hn (imp_or_r _ _) 1
    have h5' : eqO T n (iter (eqO T n) n 4) = iter (eqO T n) n 4 := h5
    rw [h5']
    exact imp_refl _
  · have hL := lfp_lt hB
    have hF := lfp_fix hB hM
    have : ∀ k, imp (iter (eqO T n) n k) (lfp (eqO T n)) := fun k => by
      induction k with
      | zero =>
        have h0 : imp n (eqO T n (lfp (eqO T n))) := imp_or_r _ _
        rw [hF] at h0
        exact h0
      | succ k ih =>
        have h1 := hM _ _ (iter_bd hB hn k) hL ih
        rw [hF] at h1
        exact h1
    exact this 4
theorem rank_all : mkC (fun s => decide (0 ≤ rank T n s)) 4 = lfp (eqO T n) := by
  rw [lfp_from hb hm hn]
  refine eq_of_bits (n := 4) (mkC_lt16 _) (iter_bd (eqO_bd hb hn) hn 4) fun i hi => ?_
  rw [testBit_mkC, decide_eq_true hi, Bool.true_and]
  have hup : ∀ k d, imp (iter (eqO T n) n k) (iter (eqO T n) n (k + d)) := fun k d => by
    induction d with
    | zero => exact imp_refl _
    | succ d ih => exact imp_trans ih (iter_upA (eqO_bd hb hn) (eqO_mono hm n) hn (imp_or_r _ _) (k + d))
  rcases rkTo_spec T n i 5 with ⟨h1, h2⟩ | ⟨k, h1, h2, h3, h4⟩
  · have h1' : rank T n i = -1 := h1
    rw [h2 4 (by omega), h1']; rfl
  · have h2' : rank T n i = (k : Int) := h2
    have hk := (imp_iff _ _).1 (hup k (4 - k)) i h3
    rw [show k + (4 - k) = 4 from by omega] at hk
    rw [hk, h2']
    exact decide_eq_true (by omega)
end
end Go.Proofs.Ytiaeakpgldpaiaa
