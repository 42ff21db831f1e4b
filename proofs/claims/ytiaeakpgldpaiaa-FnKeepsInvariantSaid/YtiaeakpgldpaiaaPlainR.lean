/- Ranks: what the law says of them. -/
import Derived.Test.YtiaeakpgldpaiaaPlainB
import Derived.Test.YtiaeakpgldpaiaaPlain6
namespace Go.Proofs.Ytiaeakpgldpaiaa
set_option linter.unusedSimpArgs false
set_option linter.unusedVariables false
set_option maxRecDepth 4000
open Go.RowKit
set_option linter.unusedSectionVars false

theorem rkTo_spec (T : Nat → Nat) (p s : Nat) : ∀ n, (rkTo T p s n = -1 ∧ ∀ j, j < n → (iter (eqO T p) p j).testBit s = false) ∨ ∃ k, k < n ∧ rkTo T p s n = (k : Int) ∧ (iter (eqO T p) p k).testBit s = true ∧ ∀ j, j < k → (iter (eqO T p) p j).testBit s = false
  | 0 => .inl ⟨rfl, fun j hj => by omega⟩
  | n + 1 => by
    rcases rkTo_spec T p s n with ⟨h1, h2⟩ | ⟨k, h1, h2, h3, h4⟩
    · cases hb : (iter (eqO T p) p n).testBit s
      · refine .inl ⟨by rw [rkTo_no (.inr hb), h1], fun j hj => ?_⟩
        by_cases e : j = n
        · rw [e, hb]
        · exact h2 j (by omega)
      · exact .inr ⟨n, by omega, rkTo_yes (by omega) hb, hb, h2⟩
    · exact .inr ⟨k, by omega, by rw [rkTo_no (.inl (by omega)), h2], h3, h4⟩
/-- The states that a condition and lesser ranks give. -/
def lessTo (n : Nat) (R : Nat → Int) (s : Nat) : Nat → Nat
  | 0 => n
  | u + 1 => if 0 ≤ R u ∧ R u < R s then lessTo n R s u ||| one u else lessTo n R s u
theorem lessTo_lt {n : Nat} (hn : n < 16) (R : Nat → Int) (s : Nat) : ∀ u, u ≤ 4 → lessTo n R s u < 16
  | 0, _ => hn
  | u + 1, h => by
    unfold lessTo
    split
    · exact or_lt (lessTo_lt hn R s u (by omega)) (one_lt (by omega))
    · exact lessTo_lt hn R s u (by omega)
theorem lessTo_bit {n : Nat} {R : Nat → Int} {s i : Nat} : ∀ u, (n.testBit i = true ∨ (i < u ∧ 0 ≤ R i ∧ R i < R s)) → (lessTo n R s u).testBit i = true
  | 0, h => by
    rcases h with h | h
    · exact h
    · omega
  | u + 1, h => by
    unfold lessTo
    split
    · rename_i hc
      rw [Nat.testBit_or, testBit_one]
      by_cases e : u = i
      · simp [e]
      · rw [lessTo_bit u (by rcases h with h | h; exact .inl h; exact .inr ⟨by omega, h.2⟩)]; rfl
    · rename_i hc
      refine lessTo_bit u ?_
      rcases h with h | h
      · exact .inl h
      · by_cases e : u = i
        · subst e; exact absurd h.2 hc
        · exact .inr ⟨by omega, h.2⟩
section
variable {T : Nat → Nat} {n : Nat} (hb : Bd T) (hm : Mono T) (hn : n < 16)
include hb hm hn
theorem rank_zero (s : Nat) : (rank T n s == 0) = n.testBit s := by
  rcases rkTo_spec T n s 5 with ⟨h1, h2⟩ | ⟨k, h1, h2, h3, h4⟩
  · have := h2 0 (by omega)
    rw [show n.testBit s = false from this, beq_eq_false_iff_ne]
    show rkTo T n s 5 ≠ 0
    omega
  · by_cases e : k = 0
    · subst e
      rw [show n.testBit s = true from h3]
      show (rkTo T n s 5 == 0) = true
      rw [h2]; rfl
    · rw [show n.testBit s = false from h4 0 (by omega), beq_eq_false_iff_ne]
      show rkTo T n s 5 ≠ 0
      omega
theorem rank_less (s : Nat) (h : 0 < rank T n s) : (T (lessTo n (rank T n) s 4)).testBit s = true := by
  rcases rkTo_spec T n s 5 with ⟨h1, h2⟩ | ⟨k, h1, h2, h3, h4⟩
  · have h1' : rank T n s = -1 := h1
    omega
  · have h2' : rank T n s = (k : Int) := h2
    cases k with
    | zero => rw [h2'] at h; simp at h
    | succ m =>
      have hY : (T (iter (eqO T n) n m) ||| n).testBit s = true := h3
      have hns : n.testBit s = false := h4 0 (by omega)
      rw [Nat.testBit_or, hns, Bool.or_false] at hY
      have hsub : imp (iter (eqO T n) n m) (lessTo n (rank T n) s 4) := (imp_iff _ _).2 fun i hi => by
        refine lessTo_bit 4 ?_
        have hi4 : i < 4 := by
          rcases Nat.lt_or_ge i 4 with h | h
          · exact h
          · rw [testBit_ge (iter_bd (eqO_bd hb hn) hn m) h] at hi; cases hi
        by_cases hni : n.testBit i = true
        · exact .inl hni
        · right
          refine ⟨hi4, ?_⟩
          rcases rkTo_spec T n i 5 with ⟨k1, k2⟩ | ⟨k, k1, k2, k3, k4⟩
          · rw [k2 m (by omega)] at hi; cases hi
          · have k2' : rank T n i = (k : Int) := k2
            have : k ≤ m := by
              rcases Nat.lt_or_ge m k with h | h
              · rw [k4 m h] at hi; cases hi
              · exact h
            rw [k2', h2']
            exact ⟨by omega, by omega⟩
      exact (imp_iff _ _).1 (hm _ _ (iter_bd (eqO_bd hb hn) hn m) (lessTo_lt hn _ _ 4 (by omega)) hsub) s hY
theorem lfp_from : lfp (eqO T n) = iter (eqO T n) n 4 := by
  have hB := eqO_bd hb hn
  have hM := eqO_mono hm n
  apply imp_antisymm
  · refine lfp_least hB hM (iter_bd hB hn 4) ?_
    have h5 := iter_stays hB hM hn (imp_or_r _ _) 1
    have h5' : eqO T n (iter (eqO T n) n 4) = iter (eqO T n) n 4 := h5
    rw [h5']
    exact imp_refl _
  · have hL := lfp_lt hB
    have hF := lfp_fix hB hM
    have : ∀ k, imp (iter (eqO T n) n k) (lfp (eqO T n)) := fun k => by
      induction k with
      | zero =>
        have h0 : imp n (eqO T n (lfp (eqO T n))) := imp_or_r _ _
        rw [hF] at h0
        exact h0
      | succ k ih =>
        have h1 := hM _ _ (iter_bd hB hn k) hL ih
        rw [hF] at h1
        exact h1
    exact this 4
theorem rank_all : mkC (fun s => decide (0 ≤ rank T n s)) 4 = lfp (eqO T n) := by
  rw [lfp_from hb hm hn]
  refine eq_of_bits (n := 4) (mkC_lt16 _) (iter_bd (eqO_bd hb hn) hn 4) fun i hi => ?_
  rw [testBit_mkC, decide_eq_true hi, Bool.true_and]
  have hup : ∀ k d, imp (iter (eqO T n) n k) (iter (eqO T n) n (k + d)) := fun k d => by
    induction d with
    | zero => exact imp_refl _
    | succ d ih => exact imp_trans ih (iter_upA (eqO_bd hb hn) (eqO_mono hm n) hn (imp_or_r _ _) (k + d))
  rcases rkTo_spec T n i 5 with ⟨h1, h2⟩ | ⟨k, h1, h2, h3, h4⟩
  · have h1' : rank T n i = -1 := h1
    rw [h2 4 (by omega), h1']; rfl
  · have h2' : rank T n i = (k : Int) := h2
    have hk := (imp_iff _ _).1 (hup k (4 - k)) i h3
    rw [show k + (4 - k) = 4 from by omega] at hk
    rw [hk, h2']
    exact decide_eq_true (by omega)
end
end Go.Proofs.Ytiaeakpgldpaiaa
