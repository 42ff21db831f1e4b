/- Mathematics of proofs of loops by ranks. -/
import Derived.Test.YtiaeakpgldpaiaaPlain6
namespace Go.Proofs.Ytiaeakpgldpaiaa
set_option linter.unusedSimpArgs false
set_option linter.unusedVariables false
set_option maxRecDepth 4000

/-- The states of an invariant with a rank, and a lesser one. -/
def plIs (v : Nat) (r : Nat → Int) (s u : Nat) : Bool := v.testBit u && (decide (r u < r s) && decide (0 ≤ r u))
def plLess (v : Nat) (r : Nat → Int) (s n : Nat) : Nat := mkC (plIs v r s) n
theorem plLess_lt (v : Nat) (r : Nat → Int) (s : Nat) : plLess v r s 4 < 16 := mkC_lt _ 4
theorem plLess_le (v : Nat) (r : Nat → Int) (s n : Nat) (hn : n ≤ 4) : plLess v r s n < 16 := Nat.lt_of_lt_of_le (mkC_lt _ n) (Nat.pow_le_pow_right (n := 2) (j := 4) (by decide) hn)
theorem plLess_yes {v : Nat} {r : Nat → Int} {s n : Nat} (h : plIs v r s n = true) : plLess v r s (n + 1) = plLess v r s n ||| one n := by unfold plLess; rw [mkC, h]; rfl
theorem plLess_no {v : Nat} {r : Nat → Int} {s n : Nat} (h : plIs v r s n = false) : plLess v r s (n + 1) = plLess v r s n := by unfold plLess; rw [mkC, h]; rfl
/-- Does each of the first n states of the condition go on? -/
def plAt (T : Nat → Nat) (p v : Nat) (r : Nat → Int) (s : Nat) : Bool := !(v.testBit s && p.testBit s) || (T (plLess v r s 4)).testBit s
def plTo (T : Nat → Nat) (p v : Nat) (r : Nat → Int) (n : Nat) : Bool := (List.range n).all fun s => plAt T p v r s
theorem plTo_succ {T : Nat → Nat} {p v : Nat} {r : Nat → Int} {n : Nat} (h : plTo T p v r n = true) (h' : plAt T p v r n = true) : plTo T p v r (n + 1) = true := by
  unfold plTo at h ⊢
  rw [List.all_eq_true] at h ⊢
  intro i hi
  rcases Nat.lt_or_ge i n with h1 | h1
  · exact h i (by simpa using h1)
  · have : i < n + 1 := by simpa using hi
    obtain rfl : i = n := by omega
    exact h'
theorem plTo_no {T : Nat → Nat} {p v : Nat} {r : Nat → Int} {n k : Nat} (hk : k < n) (h : plAt T p v r k = false) : plTo T p v r n = false := by
  cases e : plTo T p v r n
  · rfl
  · unfold plTo at e
    rw [List.all_eq_true] at e
    have := e k (by simpa using hk)
    rw [h] at this; cases this
/-- The head of the test, and the whole. -/
def plHead (a : Bool) (v q : Int) (n : Nat) (p : Nat) : Bool := (((a && cvB v) && cvB q) && decide (n = 4)) && decide (andn (andn v.toNat p) q.toNat = 0)
def plB (a : Bool) (T : Nat → Nat) (p : Nat) (v : Int) (zs : List Int) (q : Int) : Bool := plHead a v q zs.length p && plTo T p v.toNat (fun i => zs.getD i 0) 4
theorem rkTo_congr {T U : Nat → Nat} {p : Nat} (hp : p < 16) (hb : Bd T) (h : ∀ i, i < 16 → T i = U i) (s : Nat) : ∀ n, rkTo T p s n = rkTo U p s n
  | 0 => rfl
  | n + 1 => by
    unfold rkTo
    rw [rkTo_congr hp hb h s n, iter_congr (eqO_bd hb hp) (g := eqO U p) (fun i hi => by unfold eqO; rw [h i hi]) hp n]
theorem rank_congr {T U : Nat → Nat} {p : Nat} (hp : p < 16) (hb : Bd T) (h : ∀ i, i < 16 → T i = U i) (s : Nat) : rank T p s = rank U p s := rkTo_congr hp hb h s 5
end Go.Proofs.Ytiaeakpgldpaiaa
