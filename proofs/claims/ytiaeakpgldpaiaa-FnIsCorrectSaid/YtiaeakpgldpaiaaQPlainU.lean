/- Specifications: what the laws say of them. -/
import Derived.Test.YtiaeakpgldpaiaaQJ7
import Derived.Test.YtiaeakpgldpaiaaQJ0
namespace Go.Proofs.Ytiaeakpgldpaiaa
set_option linter.unusedSimpArgs false
set_option linter.unusedVariables false
set_option maxRecDepth 4000
open Go.RowKit
set_option linter.unusedSectionVars false

theorem lt_four {p i : Nat} (hp : p < 16) (h : p.testBit i = true) : i < 4 := by
  rcases Nat.lt_or_ge i 4 with h1 | h1
  · exact h1
  · rw [testBit_ge hp h1] at h; cases h
theorem box_bit (R : Nat → Nat) (p : Nat) {i : Nat} (hi : i < 4) : (fBox R p).testBit i = decide (imp (R i) p) := mkC_bit _ hi
theorem spec_bit {p : Nat} (hp : p < 16) (R : Nat → Nat) (q i : Nat) : (fSpec p R q).testBit i = true ↔ p.testBit i = true ∧ imp (R i) q := by
  unfold fSpec
  rw [Nat.testBit_and, Bool.and_eq_true]
  constructor
  · rintro ⟨h1, h2⟩
    rw [box_bit R q (lt_four hp h1), decide_eq_true_iff] at h2
    exact ⟨h1, h2⟩
  · rintro ⟨h1, h2⟩
    rw [box_bit R q (lt_four hp h1), decide_eq_true_iff]
    exact ⟨h1, h2⟩
theorem fWithin_iff (q : Nat) (R S : Nat → Nat) : fWithin q R S 4 = true ↔ ∀ i, i < 4 → q.testBit i = true → imp (R i) (S i) := by
  unfold fWithin
  rw [List.all_eq_true]
  constructor
  · intro h i hi hq
    have := h i (by simpa using hi)
    rw [hq] at this
    simpa [imp] using this
  · intro h i hi
    have hi4 : i < 4 := by simpa using hi
    cases hq : q.testBit i
    · rfl
    · have := h i hi4 hq
      unfold imp at this
      simp [this]
/-- Is the first specification weaker than the second? -/
def weakB (p : Nat) (R : Nat → Nat) (q : Nat) (S : Nat → Nat) : Bool := decide (andn q p = 0) && fWithin q R S 4
theorem weak_iff {p q : Nat} {R S : Nat → Nat} (hq : q < 16) : weakB p R q S = true ↔ ∀ i, q.testBit i = true → p.testBit i = true ∧ imp (R i) (S i) := by
  unfold weakB
  rw [Bool.and_eq_true, decide_eq_true_iff, fWithin_iff, show (andn q p = 0) = imp q p from rfl, imp_iff]
  constructor
  · rintro ⟨h1, h2⟩ i hi; exact ⟨h1 i hi, h2 i (lt_four hq hi) hi⟩
  · intro h; exact ⟨fun i hi => (h i hi).1, fun i _ hi => (h i hi).2⟩
theorem meets_iff {p : Nat} {R T : Nat → Nat} (hp : p < 16) (hR : ∀ s, R s < 16) (hm : Mono T) : refB (fSpec p R) T 16 = true ↔ ∀ s, p.testBit s = true → (T (R s)).testBit s = true := by
  rw [refB_iff]
  constructor
  · intro h s hs
    exact (imp_iff _ _).1 (h (R s) (hR s)) s ((spec_bit hp R _ s).2 ⟨hs, imp_refl _⟩)
  · intro h i hi
    refine (imp_iff _ _).2 fun s hs => ?_
    obtain ⟨h1, h2⟩ := (spec_bit hp R i s).1 hs
    exact (imp_iff _ _).1 (hm _ _ (hR s) hi h2) s (h s h1)
theorem spec_ref {p q : Nat} {R S : Nat → Nat} (hp : p < 16) (hq : q < 16) (hS : ∀ s, S s < 16) : refB (fSpec q S) (fSpec p R) 16 = weakB p R q S := by
  rw [Bool.eq_iff_iff, meets_iff hq hS (fSpec_mono p R), weak_iff hq]
  constructor
  · intro h i hi; exact (spec_bit hp R _ i).1 (h i hi)
  · intro h i hi; exact (spec_bit hp R _ i).2 (h i hi)
theorem weak_refl {p : Nat} (R : Nat → Nat) (hp : p < 16) : weakB p R p R = true := (weak_iff hp).2 fun _ hi => ⟨hi, imp_refl _⟩
theorem fSpec_congr {p : Nat} {R S : Nat → Nat} (h : ∀ s, s < 4 → R s = S s) (x : Nat) : fSpec p R x = fSpec p S x := by
  unfold fSpec; rw [fBox_congr x h]
theorem bits_eq {a b : Nat} (h : ∀ i, a.testBit i = true ↔ b.testBit i = true) : a = b := by
  apply Nat.eq_of_testBit_eq
  intro i
  rw [Bool.eq_iff_iff]
  exact h i
/-- Two specifications in sequence. -/
theorem seq_spec {p q : Nat} {R S : Nat → Nat} (hp : p < 16) (hq : q < 16) (hR : ∀ s, R s < 16) (hS : ∀ s, S s < 16) (x : Nat) : fSpec p R (fSpec q S x) = fSpec (p &&& fBox R q) (fFrom (p &&& fBox R q) (fComp R S)) x := by
  have hk : p &&& fBox R q < 16 := and_lt hp
  refine bits_eq fun i => ?_
  rw [spec_bit hp, spec_bit hk, Nat.testBit_and, Bool.and_eq_true]
  have hfrom : p.testBit i = true → (fBox R q).testBit i = true → i < 4 → (imp (fFrom (p &&& fBox R q) (fComp R S) i) x ↔ ∀ j, (R i).testBit j = true → imp (S j) x) := fun h1 h2 hi => by
    rw [imp_iff]
    have hb : ∀ b, b < 4 → (fFrom (p &&& fBox R q) (fComp R S) i).testBit b = (fComp R S i).testBit b := fun b hb => by
      unfold fFrom
      rw [mkC_bit _ hb, Nat.testBit_and, h1, h2]; rfl
    constructor
    · intro h j hj
      refine (imp_iff _ _).2 fun b hSb => h b ?_
      have hb4 := lt_four (hS j) hSb
      rw [hb b hb4]
      exact (fImg_bit S (R i) b 4).2 ⟨j, lt_four (hR i) hj, hj, hSb⟩
    · intro h b hbb
      have hb4 : b < 4 := lt_four (mkC_lt _ 4) hbb
      rw [hb b hb4] at hbb
      obtain ⟨s, _, h4, h5⟩ := (fImg_bit S (R i) b 4).1 hbb
      exact (imp_iff _ _).1 (h s h4) b h5
  constructor
  · rintro ⟨h1, h2⟩
    have hi := lt_four hp h1
    have h3 : (fBox R q).testBit i = true := by
      rw [box_bit R q hi, decide_eq_true_iff]
      exact (imp_iff _ _).2 fun j hj => ((spec_bit hq S x j).1 ((imp_iff _ _).1 h2 j hj)).1
    exact ⟨⟨h1, h3⟩, (hfrom h1 h3 hi).2 fun j hj => ((spec_bit hq S x j).1 ((imp_iff _ _).1 h2 j hj)).2⟩
  · rintro ⟨⟨h1, h3⟩, h2⟩
    have hi := lt_four hp h1
    have h4 := (hfrom h1 h3 hi).1 h2
    rw [box_bit R q hi, decide_eq_true_iff] at h3
    exact ⟨h1, (imp_iff _ _).2 fun j hj => (spec_bit hq S x j).2 ⟨(imp_iff _ _).1 h3 j hj, h4 j hj⟩⟩
theorem seq_dom {k : Nat} (C : Nat → Nat) : imp (fDia (fFrom k C) 15 4) k := (imp_iff _ _).2 fun i hi => by
  have hi4 := lt_four (fDia_lt _ _) hi
  unfold fDia at hi
  rw [mkC_bit _ hi4, decide_eq_true_iff] at hi
  cases hk : k.testBit i
  · exfalso
    apply hi
    have : fFrom k C i = 0 := by
      unfold fFrom
      refine bits_eq fun b => ?_
      rw [testBit_mkC, hk, Nat.zero_testBit]
      simp
    rw [this, Nat.zero_and]
  · rfl
/-- The relation of a table. -/
theorem fLead_bit {T : Nat → Nat} {s b : Nat} (hb : b < 4) : ∀ n, (fLead T s n).testBit b = true ↔ ∀ x, x < n → (T x).testBit s = true → x.testBit b = true
  | 0 => by
    have h15 : (15 : Nat).testBit b = true := by
      have key : ∀ i, i < 4 → (15 : Nat).testBit i = true := by decide
      exact key b hb
    unfold fLead
    rw [h15]
    simp
  | n + 1 => by
    have ih := fLead_bit (T := T) (s := s) hb n
    unfold fLead
    constructor
    · intro h x hx hT
      split at h
      · rw [Nat.testBit_and, Bool.and_eq_true] at h
        by_cases e : x = n
        · rw [e]; exact h.2
        · exact ih.1 h.1 x (by omega) hT
      · rename_i hn
        by_cases e : x = n
        · rw [e] at hT; exact absurd hT hn
        · exact ih.1 h x (by omega) hT
    · intro h
      split
      · rename_i hn
        rw [Nat.testBit_and, Bool.and_eq_true]
        exact ⟨ih.2 fun x hx => h x (by omega), h n (by omega) hn⟩
      · exact ih.2 fun x hx => h x (by omega)
theorem lead_le {T : Nat → Nat} {s x : Nat} (hx : x < 16) (h : (T x).testBit s = true) : imp (fLead T s 16) x := (imp_iff _ _).2 fun b hb =>
  (fLead_bit (lt_four (fLead_lt T s 16) hb) 16).1 hb x hx h
theorem lead_ge {T : Nat → Nat} {s y : Nat} (hy : y < 16) (h : ∀ x, x < 16 → (T x).testBit s = true → imp y x) : imp y (fLead T s 16) := (imp_iff _ _).2 fun b hb =>
  (fLead_bit (lt_four hy hb) 16).2 fun x hx hT => (imp_iff _ _).1 (h x hx hT) b hb
theorem lead_in {T : Nat → Nat} (hc : ∀ p q, p < 16 → q < 16 → T (p &&& q) = (T p &&& T q)) {s : Nat} (h : (T 15).testBit s = true) : ∀ n, n ≤ 16 → (T (fLead T s n)).testBit s = true
  | 0, _ => h
  | n + 1, hn => by
    have ih := lead_in hc h n (by omega)
    unfold fLead
    split
    · rename_i hT
      rw [hc _ _ (fLead_lt T s n) (by omega), Nat.testBit_and, ih, hT]; rfl
    · exact ih
section
variable {T : Nat → Nat} (hb : Bd T) (hm : Mono T) (hc : ∀ p q, p < 16 → q < 16 → T (p &&& q) = (T p &&& T q))
include hb hm hc
/-- The weakest specification of a conjunctive table is met, and is weaker than exactly those that are. -/
theorem weakest_met : refB (fSpec (T 15) (fun s => fLead T s 16)) T 16 = true := (meets_iff (hb 15 (by omega)) (fun s => fLead_lt T s 16) hm).2 fun s hs => lead_in hc hs 16 (by omega)
theorem weakest_weak {q : Nat} {S : Nat → Nat} (hq : q < 16) (hS : ∀ s, S s < 16) : refB (fSpec q S) T 16 = weakB (T 15) (fun s => fLead T s 16) q S := by
  rw [Bool.eq_iff_iff, meets_iff hq hS hm, weak_iff hq]
  constructor
  · intro h i hi
    have h1 := h i hi
    exact ⟨(imp_iff _ _).1 (hm _ _ (hS i) (by omega) (imp_all (hS i))) i h1, lead_le (hS i) h1⟩
  · intro h i hi
    obtain ⟨h1, h2⟩ := h i hi
    exact (imp_iff _ _).1 (hm _ _ (fLead_lt T i 16) (hS i) h2) i (lead_in hc h1 16 (by omega))
/-- What meets two specifications meets their meeting. -/
theorem meet_both {p q : Nat} {R S : Nat → Nat} (hp : p < 16) (hq : q < 16) (hR : ∀ s, R s < 16) (hS : ∀ s, S s < 16) : refB (fSpec (p ||| q) (fMeetRel p q R S)) T 16 = (refB (fSpec p R) T 16 && refB (fSpec q S) T 16) := by
  have hA : ∀ s, fMeetRel p q R S s < 16 := fun s => by
    unfold fMeetRel
    split
    · exact and_lt (hR s)
    · split
      · exact hR s
      · split
        · exact hS s
        · omega
  rw [Bool.eq_iff_iff, Bool.and_eq_true, meets_iff (or_lt hp hq) hA hm, meets_iff hp hR hm, meets_iff hq hS hm]
  constructor
  · intro h
    refine ⟨fun s hs => ?_, fun s hs => ?_⟩
    · have h1 := h s (by rw [Nat.testBit_or, hs]; rfl)
      refine (imp_iff _ _).1 (hm _ _ (hA s) (hR s) ?_) s h1
      unfold fMeetRel
      rw [hs]
      cases q.testBit s
      · exact imp_refl _
      · exact imp_and_left _ _
    · have h1 := h s (by rw [Nat.testBit_or, hs, Bool.or_true])
      refine (imp_iff _ _).1 (hm _ _ (hA s) (hS s) ?_) s h1
      unfold fMeetRel
      rw [hs]
      cases p.testBit s
      · exact imp_refl _
      · exact imp_and_right _ _
  · rintro ⟨h1, h2⟩ s hs
    rw [Nat.testBit_or, Bool.or_eq_true] at hs
    unfold fMeetRel
    cases hps : p.testBit s
    · cases hqs : q.testBit s
      · rw [hps, hqs] at hs; simp at hs
      · exact h2 s hqs
    · cases hqs : q.testBit s
      · exact h1 s hps
      · show (T (R s &&& S s)).testBit s = true
        rw [hc _ _ (hR s) (hS s), Nat.testBit_and, h1 s hps, h2 s hqs]; rfl
end
section
variable {p q : Nat} {R S : Nat → Nat} (hp : p < 16) (hq : q < 16) (hR : ∀ s, R s < 16) (hS : ∀ s, S s < 16)
include hp hq hR hS
theorem meet_left : weakB (p ||| q) (fMeetRel p q R S) p R = true := (weak_iff hp).2 fun i hi => ⟨by rw [Nat.testBit_or, hi]; rfl, by
  unfold fMeetRel
  rw [hi]
  cases q.testBit i
  · exact imp_refl _
  · exact imp_and_left _ _⟩
theorem meet_right : weakB (p ||| q) (fMeetRel p q R S) q S = true := (weak_iff hq).2 fun i hi => ⟨by rw [Nat.testBit_or, hi, Bool.or_true], by
  unfold fMeetRel
  rw [hi]
  cases p.testBit i
  · exact imp_refl _
  · exact imp_and_right _ _⟩
/-- The least conjunctive table above both. -/
theorem meet_above {J : Nat → Nat} (hJ : ∀ x, x < 16 → J x = (fSpec p R x ||| fSpec q S x)) (x : Nat) (hx : x < 16) : fSpec (J 15) (fun s => fLead J s 16) x = fSpec (p ||| q) (fMeetRel p q R S) x := by
  have hpq : p ||| q < 16 := or_lt hp hq
  have jb : ∀ y i, y < 16 → ((J y).testBit i = true ↔ (p.testBit i = true ∧ imp (R i) y) ∨ (q.testBit i = true ∧ imp (S i) y)) := fun y i hy => by
    rw [hJ y hy, Nat.testBit_or, Bool.or_eq_true, spec_bit hp, spec_bit hq]
  have j15 : J 15 = p ||| q := bits_eq fun i => by
    rw [jb 15 i (by omega), Nat.testBit_or, Bool.or_eq_true]
    constructor
    · rintro (h | h)
      · exact .inl h.1
      · exact .inr h.1
    · rintro (h | h)
      · exact .inl ⟨h, imp_all (hR i)⟩
      · exact .inr ⟨h, imp_all (hS i)⟩
  rw [j15]
  refine bits_eq fun i => ?_
  rw [spec_bit hpq, spec_bit hpq]
  have key : (p ||| q).testBit i = true → fLead J i 16 = fMeetRel p q R S i := fun hi => by
    rw [Nat.testBit_or, Bool.or_eq_true] at hi
    apply imp_antisymm
    · unfold fMeetRel
      cases hpi : p.testBit i
      · cases hqi : q.testBit i
        · rw [hpi, hqi] at hi; simp at hi
        · exact lead_le (hS i) ((jb _ _ (hS i)).2 (.inr ⟨hqi, imp_refl _⟩))
      · cases hqi : q.testBit i
        · exact lead_le (hR i) ((jb _ _ (hR i)).2 (.inl ⟨hpi, imp_refl _⟩))
        · exact imp_and_of (lead_le (hR i) ((jb _ _ (hR i)).2 (.inl ⟨hpi, imp_refl _⟩))) (lead_le (hS i) ((jb _ _ (hS i)).2 (.inr ⟨hqi, imp_refl _⟩)))
    · unfold fMeetRel
      cases hpi : p.testBit i
      · cases hqi : q.testBit i
        · exact zero_imp _
        · refine lead_ge (hS i) fun y hy hT => ?_
          rcases (jb y i hy).1 hT with h | h
          · rw [hpi] at h; cases h.1
          · exact h.2
      · cases hqi : q.testBit i
        · refine lead_ge (hR i) fun y hy hT => ?_
          rcases (jb y i hy).1 hT with h | h
          · exact h.2
          · rw [hqi] at h; cases h.1
        · refine lead_ge (and_lt (hR i)) fun y hy hT => ?_
          rcases (jb y i hy).1 hT with h | h
          · exact imp_trans (imp_and_left _ _) h.2
          · exact imp_trans (imp_and_right _ _) h.2
  constructor
  · rintro ⟨h1, h2⟩; exact ⟨h1, by rw [← key h1]; exact h2⟩
  · rintro ⟨h1, h2⟩; exact ⟨h1, by rw [key h1]; exact h2⟩
end
end Go.Proofs.Ytiaeakpgldpaiaa
