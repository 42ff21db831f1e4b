/- Mathematics of relations: images, boxes, turns, compositions. -/
import Derived.Test.YtiaeakpgldpaiaaPlain
namespace Go.Proofs.Ytiaeakpgldpaiaa
set_option linter.unusedSimpArgs false
set_option linter.unusedVariables false
set_option maxRecDepth 4000

/-- The states related to some state of p; those related to states of p alone. -/
def fDia (R : Nat → Nat) (p : Nat) (n : Nat) : Nat := mkC (fun s => decide (R s &&& p ≠ 0)) n
def fBox (R : Nat → Nat) (p : Nat) : Nat := mkC (fun s => decide (andn (R s) p = 0)) 4
def fTurn (R : Nat → Nat) (s : Nat) : Nat := mkC (fun t => (R t).testBit s) 4
def fImg (R : Nat → Nat) (p : Nat) : Nat → Nat
  | 0 => 0
  | k + 1 => if p.testBit k then fImg R p k ||| R k else fImg R p k
def fComp (R Q : Nat → Nat) : Nat → Nat := fun s => fImg Q (R s) 4
theorem fDia_yes {R : Nat → Nat} {p k : Nat} (h : R k &&& p ≠ 0) : fDia R p (k + 1) = fDia R p k ||| one k := by
  show (if decide (R k &&& p ≠ 0) = true then _ else _) = _
  rw [if_pos (decide_eq_true h)]; rfl
theorem fDia_no {R : Nat → Nat} {p k : Nat} (h : R k &&& p = 0) : fDia R p (k + 1) = fDia R p k := by
  show (if decide (R k &&& p ≠ 0) = true then _ else _) = _
  rw [if_neg (by simpa using h)]; rfl
theorem fDia_lt (R : Nat → Nat) (p : Nat) : fDia R p 4 < 16 := mkC_lt _ 4
theorem fBox_lt (R : Nat → Nat) (p : Nat) : fBox R p < 16 := mkC_lt _ 4
theorem fTurn_lt (R : Nat → Nat) (s : Nat) : fTurn R s < 16 := mkC_lt _ 4
theorem fImg_lt {R : Nat → Nat} (h : ∀ k, k < 4 → R k < 16) (p : Nat) : ∀ k, k ≤ 4 → fImg R p k < 16
  | 0, _ => by simp [fImg]
  | k + 1, hk => by
    have ih := fImg_lt h p k (by omega)
    unfold fImg; split
    · exact or_lt ih (h k (by omega))
    · exact ih
theorem mkC_bit (f : Nat → Bool) {i : Nat} (h : i < 4) : (mkC f 4).testBit i = f i := by rw [testBit_mkC]; simp [h]
theorem and_one_iff (p s : Nat) : (p &&& one s ≠ 0) ↔ p.testBit s = true := by
  constructor
  · intro h
    cases e : p.testBit s with
    | true => rfl
    | false =>
      exfalso
      apply h
      apply Nat.eq_of_testBit_eq
      intro i
      rw [Nat.testBit_and, testBit_one, Nat.zero_testBit]
      by_cases hi : s = i
      · subst hi; simp [e]
      · simp [hi]
  · intro h e
    have : (p &&& one s).testBit s = true := by rw [Nat.testBit_and, testBit_one, h]; simp
    rw [e, Nat.zero_testBit] at this
    cases this
theorem turn_dia (R : Nat → Nat) (s : Nat) : fDia R (one s) 4 = fTurn R s :=
  mkC_congr fun t _ => by
    by_cases h : (R t).testBit s = true
    · rw [h]; exact decide_eq_true ((and_one_iff _ _).2 h)
    · rw [Bool.not_eq_true _ |>.mp h]; exact decide_eq_false fun h' => h ((and_one_iff _ _).1 h')
theorem and_andn {a p : Nat} (ha : a < 16) : (a &&& andn 15 p) = andn a p := by
  apply Nat.eq_of_testBit_eq
  intro i
  rw [Nat.testBit_and, testBit_andn, testBit_andn]
  have h15 := (imp_iff a 15).1 (imp_all ha) i
  cases ha' : a.testBit i
  · simp
  · rw [h15 ha']; simp
theorem box_dia {R : Nat → Nat} (hR : ∀ s, s < 4 → R s < 16) (p : Nat) : andn 15 (fDia R (andn 15 p) 4) = fBox R p := by
  apply eq_of_bits (n := 4) (andn_lt (by omega)) (mkC_lt _ 4)
  intro i hi
  have h15 : (15 : Nat).testBit i = true := by
    have key : ∀ i, i < 4 → (15 : Nat).testBit i = true := by decide
    exact key i hi
  rw [testBit_andn, h15, mkC_bit _ hi]
  rw [show (fDia R (andn 15 p) 4).testBit i = decide (R i &&& andn 15 p ≠ 0) from mkC_bit _ hi, and_andn (hR i hi)]
  by_cases h : andn (R i) p = 0 <;> simp [h]
theorem fImg_bit (R : Nat → Nat) (p i : Nat) : ∀ k, (fImg R p k).testBit i = true ↔ ∃ s, s < k ∧ p.testBit s = true ∧ (R s).testBit i = true
  | 0 => by simp [fImg]
  | k + 1 => by
    have ih := fImg_bit R p i k
    unfold fImg
    constructor
    · intro h
      split at h
      · rename_i hp
        rw [Nat.testBit_or, Bool.or_eq_true] at h
        rcases h with h | h
        · obtain ⟨s, h1, h2⟩ := ih.1 h; exact ⟨s, by omega, h2⟩
        · exact ⟨k, by omega, hp, h⟩
      · obtain ⟨s, h1, h2⟩ := ih.1 h; exact ⟨s, by omega, h2⟩
    · rintro ⟨s, h1, h2, h3⟩
      by_cases hs : s = k
      · subst hs
        rw [if_pos h2, Nat.testBit_or, h3, Bool.or_true]
      · have := ih.2 ⟨s, by omega, h2, h3⟩
        split
        · rw [Nat.testBit_or, this, Bool.true_or]
        · exact this
/-- The pairs of a relation that begin in p. -/
def fFrom (p : Nat) (C : Nat → Nat) : Nat → Nat := fun a => mkC (fun b => p.testBit a && (C a).testBit b) 4
theorem fFrom_eq {C : Nat → Nat} (hC : ∀ s, s < 4 → C s < 16) (p a : Nat) (ha : a < 4) : fImg C (p &&& one a) 4 = fFrom p C a := by
  apply eq_of_bits (n := 4) (fImg_lt hC _ 4 (by omega)) (mkC_lt _ 4)
  intro i hi
  rw [Bool.eq_iff_iff, fImg_bit, mkC_bit _ hi, Bool.and_eq_true]
  constructor
  · rintro ⟨s, _, h2, h3⟩
    rw [Nat.testBit_and, testBit_one, Bool.and_eq_true, decide_eq_true_iff] at h2
    obtain ⟨h4, rfl⟩ := h2
    exact ⟨h4, h3⟩
  · rintro ⟨h1, h2⟩
    exact ⟨a, ha, by rw [Nat.testBit_and, testBit_one, h1]; simp, h2⟩
theorem fImg_congr {R Q : Nat → Nat} (p : Nat) : ∀ k, (∀ s, s < k → R s = Q s) → fImg R p k = fImg Q p k
  | 0, _ => rfl
  | k + 1, h => by unfold fImg; rw [fImg_congr p k fun s hs => h s (by omega), h k (by omega)]
theorem fDia_congr {R Q : Nat → Nat} (p : Nat) (h : ∀ s, s < 4 → R s = Q s) : fDia R p 4 = fDia Q p 4 := mkC_congr fun s hs => by rw [h s hs]
theorem fBox_congr {R Q : Nat → Nat} (p : Nat) (h : ∀ s, s < 4 → R s = Q s) : fBox R p = fBox Q p := mkC_congr fun s hs => by rw [h s hs]
theorem fDia_bd (R : Nat → Nat) : Bd (fun p => fDia R p 4) := fun p _ => fDia_lt R p
theorem fBox_bd (R : Nat → Nat) : Bd (fun p => fBox R p) := fun p _ => fBox_lt R p
end Go.Proofs.Ytiaeakpgldpaiaa
