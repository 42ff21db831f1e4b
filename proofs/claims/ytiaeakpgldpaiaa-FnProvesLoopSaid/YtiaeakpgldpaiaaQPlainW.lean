/- Loops, and loops of tables that go through and: what the laws say of them. -/
import Derived.Test.YtiaeakpgldpaiaaQJ7
import Derived.Test.YtiaeakpgldpaiaaQJ0
import Derived.Test.YtiaeakpgldpaiaaQJ1
namespace Go.Proofs.Ytiaeakpgldpaiaa
set_option linter.unusedSimpArgs false
set_option linter.unusedVariables false
set_option maxRecDepth 4000
open Go.RowKit
set_option linter.unusedSectionVars false

def Conj (T : Nat → Nat) : Prop := ∀ p q, p < 16 → q < 16 → T (p &&& q) = (T p &&& T q)
theorem conj_of {T : Nat → Nat} (h : conjB T = true) : Conj T := (conjB_iff T).1 h
theorem turn_and (n a b x y : Nat) : (turn n a x &&& turn n b y) = turn n (a &&& b) (x &&& y) := by
  apply Nat.eq_of_testBit_eq
  intro i
  simp only [bit_turn, Nat.testBit_and]
  cases n.testBit i <;> cases a.testBit i <;> cases b.testBit i <;> cases x.testBit i <;> cases y.testBit i <;> rfl
theorem bit_15 {q i : Nat} (hq : q < 16) (h : q.testBit i = true) : Nat.testBit 15 i = true := (imp_iff _ _).1 (imp_all hq) i h
theorem turn_not {n b q : Nat} (hq : q < 16) : turn n b (andn 15 n &&& q) = turn n b q := by
  apply Nat.eq_of_testBit_eq
  intro i
  simp only [bit_turn, Nat.testBit_and, testBit_andn]
  cases hqi : q.testBit i
  · simp
  · rw [bit_15 hq hqi]
    cases n.testBit i <;> rfl
theorem turn_or (n b q : Nat) : turn n b (q ||| n) = turn n b q := by
  apply Nat.eq_of_testBit_eq
  intro i
  simp only [bit_turn, Nat.testBit_or]
  cases n.testBit i <;> cases b.testBit i <;> cases q.testBit i <;> rfl
section
variable {T : Nat → Nat} {n : Nat} (hb : Bd T) (hm : Mono T) (hn : n < 16)
include hb hm hn
theorem free_fix {a : Nat} (ha : a < 16) : turn n (T (fFree n T a)) a = fFree n T a := gfp_fix (eqW_bd hn ha) (eqW_mono hm n a)
theorem while_step {q : Nat} (hq : q < 16) : ((n &&& T (fWhile n T q)) ||| (andn 15 n &&& q)) = fWhile n T q := by
  rw [ite_turn hq, while_fix hb hm hn hq]
theorem free_step {q : Nat} (hq : q < 16) : ((n &&& T (fFree n T q)) ||| (andn 15 n &&& q)) = fFree n T q := by
  rw [ite_turn hq, free_fix hb hm hn hq]
theorem while_or {q : Nat} (hq : q < 16) : fWhile n T (q ||| n) = fWhile n T q := lfp_congr (eqW_bd hn (or_lt hq hn)) fun y _ => turn_or _ _ _
theorem while_not {q : Nat} (hq : q < 16) : fWhile n T (andn 15 n &&& q) = fWhile n T q := lfp_congr (eqW_bd hn (and_lt' hq)) fun y _ => turn_not hq
theorem while_free {q : Nat} (hq : q < 16) : imp (fWhile n T q) (fFree n T q) := lfp_gfp (eqW_bd hn hq) (eqW_mono hm n q)
variable (hc : Conj T)
include hc
theorem free_and {a b : Nat} (ha : a < 16) (hb' : b < 16) : (fFree n T a &&& fFree n T b) = fFree n T (a &&& b) := by
  have hab : a &&& b < 16 := and_lt ha
  have h1 := fFree_bd (T := T) hn a ha
  have h2 := fFree_bd (T := T) hn b hb'
  apply imp_antisymm
  · refine gfp_greatest (eqW_bd hn hab) (eqW_mono hm n _) (and_lt h1) ?_
    show imp _ (turn n (T (fFree n T a &&& fFree n T b)) (a &&& b))
    rw [hc _ _ h1 h2, ← turn_and, free_fix hb hm hn ha, free_fix hb hm hn hb']
    exact imp_refl _
  · exact imp_and_of (fFree_mono hn hm _ _ hab ha (imp_and_left a b)) (fFree_mono hn hm _ _ hab hb' (imp_and_right a b))
theorem free_ends {q : Nat} (hq : q < 16) : (fFree n T q &&& fWhile n T 15) = fWhile n T q := by
  have hG := fFree_bd (T := T) hn q hq
  have hW := fWhile_bd (T := T) hn q hq
  apply imp_antisymm
  · have key : ∀ k, imp (fFree n T q &&& iter (eqW n T 15) 0 k) (fWhile n T q) := fun k => by
      induction k with
      | zero => show imp (fFree n T q &&& 0) _; rw [Nat.and_zero]; exact zero_imp _
      | succ k ih =>
        have hI := iter_bd (eqW_bd (T := T) hn (q := 15) (by omega)) (a := 0) (by omega) k
        show imp (fFree n T q &&& turn n (T (iter (eqW n T 15) 0 k)) 15) _
        have h1 := free_fix hb hm hn hq
        have h2 := while_fix hb hm hn hq
        have h3 : imp (turn n (T (fFree n T q)) q &&& turn n (T (iter (eqW n T 15) 0 k)) 15) (turn n (T (fWhile n T q)) q) := by
          rw [turn_and, ← hc _ _ hG hI]
          exact imp_turn (hm _ _ (and_lt hG) hW ih) (imp_and_left _ _)
        rw [h1, h2] at h3
        exact h3
    exact key 4
  · exact imp_and_of (while_free hb hm hn hq) (fWhile_mono hn hm _ _ hq (by omega) (imp_all hq))
theorem while_conj : Conj (fWhile n T) := fun a b ha hb' => by
  rw [← free_ends hb hm hn hc ha, ← free_ends hb hm hn hc hb', ← free_ends hb hm hn hc (and_lt ha), ← free_and hb hm hn hc ha hb']
  apply Nat.eq_of_testBit_eq
  intro i
  simp only [Nat.testBit_and]
  cases (fFree n T a).testBit i <;> cases (fFree n T b).testBit i <;> cases (fWhile n T 15).testBit i <;> rfl
end
theorem conj_to {T : Nat → Nat} (h : Conj T) : conjB T = true := (conjB_iff T).2 h
/-- What holds before the loop that need not end, of an invariant. -/
theorem keeps_free {T : Nat → Nat} {n k : Nat} (hb : Bd T) (hm : Mono T) (hn : n < 16) (hk : k < 16) (h : imp (n &&& k) (T k)) : imp k (fFree n T (k &&& andn 15 n)) :=
  gfp_greatest (eqW_bd hn (and_lt hk)) (eqW_mono hm n _) hk (keeps_turn hk h (imp_refl _))
theorem keeps_while {T : Nat → Nat} {n k : Nat} (hb : Bd T) (hm : Mono T) (hn : n < 16) (hk : k < 16) (hc : Conj T) (h : imp (n &&& k) (T k)) : imp (k &&& fWhile n T 15) (fWhile n T (k &&& andn 15 n)) := by
  rw [← free_ends hb hm hn hc (and_lt hk)]
  exact imp_and (keeps_free hb hm hn hk h) (imp_refl _)
/-- What ranks prove. -/
theorem proves_all {T : Nat → Nat} {n k m : Nat} {r : Nat → Int} (hb : Bd T) (hm : Mono T) (hn : n < 16) (hk : k < 16) (hm2 : m < 16) (h0 : andn (andn k n) m = 0) (h : plTo T n k r 4 = true) : imp k (fWhile n T m) ∧ imp (n &&& k) (T k) := by
  have hat : ∀ s, s < 4 → plAt T n k r s = true := fun s hs => by
    unfold plTo at h
    rw [List.all_eq_true] at h
    exact h s (by simpa using hs)
  have hless : ∀ s, imp (plLess k r s 4) k := fun s => (imp_iff _ _).2 fun i hi => by
    unfold plLess at hi
    rw [testBit_mkC, Bool.and_eq_true] at hi
    have := hi.2
    unfold plIs at this
    rw [Bool.and_eq_true] at this
    exact this.1
  have hW := fWhile_bd (T := T) hn m hm2
  have hlt4 : ∀ i, k.testBit i = true → i < 4 := fun i hi => by
    rcases Nat.lt_or_ge i 4 with h1 | h1
    · exact h1
    · rw [testBit_ge hk h1] at hi; cases hi
  have hgo : ∀ s, k.testBit s = true → n.testBit s = true → (T (plLess k r s 4)).testBit s = true := fun s h1 h2 => by
    have := hat s (hlt4 s h1)
    unfold plAt at this
    rw [h1, h2] at this
    simpa using this
  constructor
  · have key : ∀ (N : Nat) (s : Nat), k.testBit s = true → r s < (N : Int) → (fWhile n T m).testBit s = true := fun N => by
      induction N with
      | zero =>
        intro s h1 h2
        rw [← while_fix hb hm hn hm2, bit_turn]
        cases hns : n.testBit s
        · have h3 := (imp_iff _ _).1 h0 s (by rw [testBit_andn, h1, hns]; rfl)
          rw [h3]; rfl
        · have h3 := hgo s h1 hns
          have hz : imp (plLess k r s 4) (fWhile n T m) := (imp_iff _ _).2 fun i hi => by
            exfalso
            unfold plLess at hi
            rw [testBit_mkC, Bool.and_eq_true] at hi
            have h4 := hi.2
            unfold plIs at h4
            simp only [Bool.and_eq_true, decide_eq_true_iff] at h4
            omega
          have h4 := (imp_iff _ _).1 (hm _ _ (plLess_lt k r s) hW hz) s h3
          rw [h4]; rfl
      | succ N ih =>
        intro s h1 h2
        rw [← while_fix hb hm hn hm2, bit_turn]
        cases hns : n.testBit s
        · have h3 := (imp_iff _ _).1 h0 s (by rw [testBit_andn, h1, hns]; rfl)
          rw [h3]; rfl
        · have h3 := hgo s h1 hns
          have hz : imp (plLess k r s 4) (fWhile n T m) := (imp_iff _ _).2 fun i hi => by
            unfold plLess at hi
            rw [testBit_mkC, Bool.and_eq_true] at hi
            have h4 := hi.2
            unfold plIs at h4
            simp only [Bool.and_eq_true, decide_eq_true_iff] at h4
            exact ih i h4.1 (by omega)
          have h4 := (imp_iff _ _).1 (hm _ _ (plLess_lt k r s) hW hz) s h3
          rw [h4]; rfl
    exact (imp_iff _ _).2 fun s hs => key ((r s).toNat + 1) s hs (by omega)
  · refine (imp_iff _ _).2 fun s hs => ?_
    rw [Nat.testBit_and, Bool.and_eq_true] at hs
    exact (imp_iff _ _).1 (hm _ _ (plLess_lt k r s) hk (hless s)) s (hgo s hs.2 hs.1)
/-- The body of a loop as a table, and its ranks: what FindProof finds. -/
theorem body_while {T : Nat → Nat} {n m : Nat} (hb : Bd T) (hm : Mono T) (hn : n < 16) (hm2 : m < 16) : lfp (eqO (fun q => n &&& T q) (andn m n)) = fWhile n T m := lfp_congr (eqO_bd (fun q _ => and_lt hn) (andn_lt hm2)) fun y _ => rfl
end Go.Proofs.Ytiaeakpgldpaiaa
