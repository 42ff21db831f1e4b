/- Mathematics of refinement, of conjunctive tables, and of a table's own relation. -/
import Derived.Test.YtiaeakpgldpaiaaPlain7
namespace Go.Proofs.Ytiaeakpgldpaiaa
set_option linter.unusedSimpArgs false
set_option linter.unusedVariables false
set_option maxRecDepth 4000

/-- What a text tells, if it is a contract. -/
def ctT (c : ByteArray) : Nat → Nat := match ctOf c with
  | some x => x.tr
  | none => fun _ => 0
theorem ctOk_some {c : ByteArray} (h : ctOk c = true) : ∃ x, ctOf c = some x ∧ ctT c = x.tr ∧ Reads c x := by
  unfold ctOk at h
  obtain ⟨x, hx⟩ := Option.isSome_iff_exists.1 h
  exact ⟨x, hx, by unfold ctT; rw [hx], (ctOf_iff c x).1 hx⟩
theorem ctOk_none {c : ByteArray} (h : ctOk c = false) : ctOf c = none := by
  unfold ctOk at h
  cases hc : ctOf c with
  | none => rfl
  | some x => rw [hc] at h; cases h
theorem ctT_lt (c : ByteArray) (q : Nat) (hq : q < 16) : ctT c q < 16 := by
  unfold ctT
  cases hc : ctOf c with
  | none => exact Nat.zero_lt_of_lt hq
  | some x => exact Ct.tr_lt ((ctOf_iff c x).1 hc).wf q hq
theorem ctT_bd (c : ByteArray) : Bd (ctT c) := fun q hq => ctT_lt c q hq
theorem ctT_mono (c : ByteArray) : Mono (ctT c) := by
  unfold ctT
  cases hc : ctOf c with
  | none => exact fun _ _ _ _ _ => imp_refl _
  | some x => exact Ct.tr_mono ((ctOf_iff c x).1 hc).wf
theorem ctOk_size {c : ByteArray} (h : ctOk c = true) : c.size ≤ 200 := by obtain ⟨x, _, _, h⟩ := ctOk_some h; exact h.1
/-- Is a table refined by another one, at the first n conditions? -/
def refB (T U : Nat → Nat) (n : Nat) : Bool := (List.range n).all fun i => decide (andn (T i) (U i) = 0)
theorem refB_iff (T U : Nat → Nat) (n : Nat) : refB T U n = true ↔ ∀ i, i < n → imp (T i) (U i) := by simp [refB, imp]
theorem refB_succ {T U : Nat → Nat} {n : Nat} (h : refB T U n = true) (h' : andn (T n) (U n) = 0) : refB T U (n + 1) = true :=
  (refB_iff _ _ _).2 fun i hi => by
    rcases Nat.lt_or_ge i n with h1 | h1
    · exact (refB_iff _ _ _).1 h i h1
    · obtain rfl : i = n := by omega
      exact h'
theorem refB_no {T U : Nat → Nat} {n k : Nat} (hk : k < n) (h : andn (T k) (U k) ≠ 0) : refB T U n = false := by
  cases e : refB T U n
  · rfl
  · exact absurd ((refB_iff _ _ _).1 e k hk) h
theorem refB_congr {T U T' U' : Nat → Nat} {n : Nat} (h : ∀ i, i < n → T i = T' i) (h' : ∀ i, i < n → U i = U' i) : refB T U n = refB T' U' n := by
  rw [Bool.eq_iff_iff, refB_iff, refB_iff]
  constructor
  · intro hh i hi; rw [← h i hi, ← h' i hi]; exact hh i hi
  · intro hh i hi; rw [h i hi, h' i hi]; exact hh i hi
theorem or_eq_iff (a b : Nat) : a ||| b = b ↔ imp a b := by
  rw [imp_iff]
  constructor
  · intro h i hi
    rw [← h, Nat.testBit_or, hi, Bool.true_or]
  · intro h
    apply Nat.eq_of_testBit_eq
    intro i
    rw [Nat.testBit_or]
    cases ha : a.testBit i
    · rw [Bool.false_or]
    · rw [h i ha]; rfl
/-- Does a table go through and, at the pairs looked at so far? -/
def conjRow (T : Nat → Nat) (p n : Nat) : Bool := (List.range n).all fun q => decide (T (p &&& q) = (T p &&& T q))
def conjTo (T : Nat → Nat) (n : Nat) : Bool := (List.range n).all fun p => conjRow T p 16
def conjB (T : Nat → Nat) : Bool := conjTo T 16
theorem conjRow_iff (T : Nat → Nat) (p n : Nat) : conjRow T p n = true ↔ ∀ q, q < n → T (p &&& q) = (T p &&& T q) := by simp [conjRow]
theorem conjTo_iff (T : Nat → Nat) (n : Nat) : conjTo T n = true ↔ ∀ p, p < n → conjRow T p 16 = true := by simp [conjTo]
theorem conjB_iff (T : Nat → Nat) : conjB T = true ↔ ∀ p q, p < 16 → q < 16 → T (p &&& q) = (T p &&& T q) := by
  unfold conjB
  rw [conjTo_iff]
  constructor
  · intro h p q hp hq; exact (conjRow_iff _ _ _).1 (h p hp) q hq
  · intro h p hp; exact (conjRow_iff _ _ _).2 fun q hq => h p q hp hq
theorem conjRow_succ {T : Nat → Nat} {p n : Nat} (h : conjRow T p n = true) (h' : T (p &&& n) = (T p &&& T n)) : conjRow T p (n + 1) = true :=
  (conjRow_iff _ _ _).2 fun i hi => by
    rcases Nat.lt_or_ge i n with h1 | h1
    · exact (conjRow_iff _ _ _).1 h i h1
    · obtain rfl : i = n := by omega
      exact h'
theorem conjTo_succ {T : Nat → Nat} {n : Nat} (h : conjTo T n = true) (h' : conjRow T n 16 = true) : conjTo T (n + 1) = true :=
  (conjTo_iff _ _).2 fun i hi => by
    rcases Nat.lt_or_ge i n with h1 | h1
    · exact (conjTo_iff _ _).1 h i h1
    · obtain rfl : i = n := by omega
      exact h'
theorem conjB_no {T : Nat → Nat} {p q : Nat} (hp : p < 16) (hq : q < 16) (h : T (p &&& q) ≠ (T p &&& T q)) : conjB T = false := by
  cases e : conjB T
  · rfl
  · exact absurd ((conjB_iff _).1 e p q hp hq) h
theorem conjB_congr {T U : Nat → Nat} (h : ∀ i, i < 16 → T i = U i) : conjB T = conjB U := by
  rw [Bool.eq_iff_iff, conjB_iff, conjB_iff]
  constructor
  · intro hh p q hp hq; rw [← h p hp, ← h q hq, ← h _ (and_lt hp)]; exact hh p q hp hq
  · intro hh p q hp hq; rw [h p hp, h q hq, h _ (and_lt hp)]; exact hh p q hp hq
/-- The states that meet all conditions of a state's family. -/
def fLead (T : Nat → Nat) (s : Nat) : Nat → Nat
  | 0 => 15
  | k + 1 => if (T k).testBit s then fLead T s k &&& k else fLead T s k
theorem fLead_lt (T : Nat → Nat) (s : Nat) : ∀ k, fLead T s k < 16
  | 0 => by unfold fLead; omega
  | k + 1 => by
    have := fLead_lt T s k
    unfold fLead; split
    · exact and_lt this
    · exact this
theorem fLead_congr {T U : Nat → Nat} (s : Nat) : ∀ k, (∀ i, i < k → T i = U i) → fLead T s k = fLead U s k
  | 0, _ => rfl
  | k + 1, h => by unfold fLead; rw [fLead_congr s k fun i hi => h i (by omega), h k (by omega)]
theorem fLead_yes {T : Nat → Nat} {s k : Nat} (h : (T k).testBit s = true) : fLead T s (k + 1) = fLead T s k &&& k := by rw [fLead, if_pos h]
theorem fLead_no {T : Nat → Nat} {s k : Nat} (h : (T k).testBit s = false) : fLead T s (k + 1) = fLead T s k := by rw [fLead, h, if_neg (by simp)]
/-- The transformer of a condition and a relation. -/
def fSpec (p : Nat) (R : Nat → Nat) : Nat → Nat := fun q => p &&& fBox R q
theorem fSpec_lt {p : Nat} {R : Nat → Nat} (hp : p < 16) (q : Nat) : fSpec p R q < 16 := and_lt hp
theorem fSpec_mono (p : Nat) (R : Nat → Nat) : Mono (fSpec p R) := fun a b ha hb h => imp_and (imp_refl _) (fBox_mono R a b ha hb h)
end Go.Proofs.Ytiaeakpgldpaiaa
