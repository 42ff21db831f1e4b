/- Proofs of loops by ranks, found: what the law says of them. -/
import Derived.Test.YtiaeakpgldpaiaaQPlainW
import Derived.Test.YtiaeakpgldpaiaaQSpecPl
namespace Go.Proofs.Ytiaeakpgldpaiaa
set_option linter.unusedSimpArgs false
set_option linter.unusedVariables false
set_option maxRecDepth 4000
open Go.RowKit
set_option linter.unusedSectionVars false

theorem lessTo_out {n : Nat} {R : Nat → Int} {s i : Nat} : ∀ u, (lessTo n R s u).testBit i = true → n.testBit i = true ∨ (i < u ∧ 0 ≤ R i ∧ R i < R s)
  | 0, h => .inl h
  | u + 1, h => by
    unfold lessTo at h
    split at h
    · rename_i hc
      rw [Nat.testBit_or, testBit_one, Bool.or_eq_true, decide_eq_true_iff] at h
      rcases h with h | h
      · rcases lessTo_out u h with h | h
        · exact .inl h
        · exact .inr ⟨by omega, h.2⟩
      · subst h; exact .inr ⟨by omega, hc⟩
    · rcases lessTo_out u h with h | h
      · exact .inl h
      · exact .inr ⟨by omega, h.2⟩
theorem plIs_congr {v s u : Nat} {r r' : Nat → Int} (h : ∀ i, i < 4 → r i = r' i) (hs : s < 4) (hu : u < 4) : plIs v r s u = plIs v r' s u := by
  unfold plIs; rw [h s hs, h u hu]
theorem plTo_congr {T : Nat → Nat} {p v : Nat} {r r' : Nat → Int} (h : ∀ i, i < 4 → r i = r' i) : plTo T p v r 4 = plTo T p v r' 4 := by
  unfold plTo
  rw [Bool.eq_iff_iff, List.all_eq_true, List.all_eq_true]
  have key : ∀ s, s ∈ List.range 4 → plAt T p v r s = plAt T p v r' s := fun s hs => by
    have hs4 : s < 4 := by simpa using hs
    unfold plAt
    rw [show plLess v r s 4 = plLess v r' s 4 from mkC_congr fun u hu => plIs_congr h hs4 hu]
  constructor
  · intro hh s hs; rw [← key s hs]; exact hh s hs
  · intro hh s hs; rw [key s hs]; exact hh s hs
section
variable {T : Nat → Nat} {n m : Nat} (hb : Bd T) (hm : Mono T) (hn : n < 16) (hm2 : m < 16)
include hb hm hn hm2
theorem found_has {s : Nat} (hs : s < 4) : decide (0 ≤ rank (fBody n T) (andn m n) s) = (fWhile n T m).testBit s := by
  have h := rank_all (T := fBody n T) (fun x _ => fBody_lt T hn x) (fBody_mono n hm) (andn_lt (b := n) hm2)
  rw [show lfp (eqO (fBody n T) (andn m n)) = fWhile n T m from body_while hb hm hn hm2] at h
  rw [← h, mkC_bit _ hs]
theorem found_head : andn (andn (fWhile n T m) n) m = 0 := by
  have h := turn_ends (n := n) (b := T (fWhile n T m)) (m := m)
  rw [while_fix hb hm hn hm2] at h
  rw [← and_andn (fWhile_bd hn m hm2) (p := n)]
  exact h
theorem found_steps : plTo T n (fWhile n T m) (rank (fBody n T) (andn m n)) 4 = true := by
  have hB : Bd (fBody n T) := fun x _ => fBody_lt T hn x
  have hM := fBody_mono n hm
  have hz := andn_lt (b := n) hm2
  unfold plTo
  rw [List.all_eq_true]
  intro s hs
  have hs4 : s < 4 := by simpa using hs
  unfold plAt
  cases hv : (fWhile n T m).testBit s
  · rfl
  cases hp : n.testBit s
  · rfl
  have h1 := found_has hb hm hn hm2 hs4
  rw [hv, decide_eq_true_iff] at h1
  have h2 := rank_zero hB hM hz s
  rw [testBit_andn, hp, Bool.not_true, Bool.and_false, beq_eq_false_iff_ne] at h2
  have h3 := rank_less hB hM hz s (by omega)
  have h4 : (T (lessTo (andn m n) (rank (fBody n T) (andn m n)) s 4)).testBit s = true := by
    unfold fBody at h3
    rw [Nat.testBit_and, Bool.and_eq_true] at h3
    exact h3.2
  have h5 : imp (lessTo (andn m n) (rank (fBody n T) (andn m n)) s 4) (plLess (fWhile n T m) (rank (fBody n T) (andn m n)) s 4) := (imp_iff _ _).2 fun i hi => by
    have hi4 : i < 4 := by
      rcases Nat.lt_or_ge i 4 with h | h
      · exact h
      · rw [testBit_ge (lessTo_lt hz _ _ 4 (by omega)) h] at hi; cases hi
    unfold plLess
    rw [mkC_bit _ hi4]
    unfold plIs
    have hr : 0 ≤ rank (fBody n T) (andn m n) i ∧ rank (fBody n T) (andn m n) i < rank (fBody n T) (andn m n) s := by
      rcases lessTo_out 4 hi with h | h
      · have h6 := rank_zero hB hM hz i
        rw [h, beq_iff_eq] at h6
        omega
      · exact h.2
    rw [← found_has hb hm hn hm2 hi4, decide_eq_true hr.1, decide_eq_true hr.2]
    rfl
  rw [(imp_iff _ _).1 (hm _ _ (lessTo_lt hz _ _ 4 (by omega)) (plLess_lt _ _ _) h5) s h4]
  rfl
theorem found_all : plB true T n (fWhile n T m : Int) (zrow 4 (rank (fBody n T) (andn m n))) (m : Int) = true := by
  have h1 := found_head hb hm hn hm2
  have h2 := found_steps hb hm hn hm2
  have h3 : plTo T n (fWhile n T m) (fun i => (zrow 4 (rank (fBody n T) (andn m n))).getD i 0) 4 = true := by
    rw [← h2]
    refine plTo_congr fun i hi => ?_
    rw [List.getD_eq_getElem?_getD, zrow_get 4 _ i hi]; rfl
  unfold plB plHead
  rw [zrow_len, cvB_nat _ (fWhile_bd hn m hm2), cvB_nat _ hm2]
  show ((((true && true) && true) && decide (4 = 4)) && decide (andn (andn (fWhile n T m) n) m = 0) && plTo T n (fWhile n T m) (fun i => (zrow 4 (rank (fBody n T) (andn m n))).getD i 0) 4) = true
  rw [h1, h3]
  rfl
end
theorem plB_out {a : Bool} {T : Nat → Nat} {p : Nat} {v : Int} {zs : List Int} {q : Int} (h : plB a T p v zs q = true) : a = true ∧ cvB v = true ∧ cvB q = true ∧ andn (andn v.toNat p) q.toNat = 0 ∧ plTo T p v.toNat (fun i => zs.getD i 0) 4 = true := by
  unfold plB plHead at h
  simp only [Bool.and_eq_true, decide_eq_true_iff] at h
  exact ⟨h.1.1.1.1.1, h.1.1.1.1.2, h.1.1.1.2, h.1.2, h.2⟩
end Go.Proofs.Ytiaeakpgldpaiaa
