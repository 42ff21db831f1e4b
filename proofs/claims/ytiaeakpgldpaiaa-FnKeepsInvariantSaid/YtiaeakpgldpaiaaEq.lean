/- Two arrays of integers compared. -/
import Derived.Test.YtiaeakpgldpaiaaBase2
import Derived.Laws.StructEq
namespace Go.Proofs.Ytiaeakpgldpaiaa
set_option linter.unusedSimpArgs false
set_option linter.unusedVariables false
set_option maxRecDepth 4000
open Go.RowKit

/-- All equal from i on. -/
def eqFrom (F G : Nat → Nat) : Nat → Nat → Bool
  | _, 0 => true
  | i, k + 1 => decide (F i = G i) && eqFrom F G (i + 1) k
theorem eqFrom_iff (F G : Nat → Nat) : ∀ k i, eqFrom F G i k = true ↔ ∀ j, i ≤ j → j < i + k → F j = G j
  | 0, i => by simp [eqFrom]; intro j h1 h2; omega
  | k + 1, i => by
    rw [eqFrom, Bool.and_eq_true, decide_eq_true_iff, eqFrom_iff F G k (i + 1)]
    constructor
    · rintro ⟨h0, h⟩ j h1 h2
      rcases Nat.lt_or_ge i j with h3 | h3
      · exact h j h3 (by omega)
      · obtain rfl : j = i := by omega
        exact h0
    · intro h
      exact ⟨h i (Nat.le_refl _) (by omega), fun j h1 h2 => h j (by omega) (by omega)⟩
theorem run_equalIn_row {P : Program} {T e n d : Nat} {F G : Nat → Nat} (hu : P.underlying T = some (.array n e)) (he : P.underlying e = some (.int .i64)) (hs : (P.info? e).map (·.size) = some 1) (w : World) :
    (Op.equalIn (d + 2) T (.agg (row n F)) (.agg (row n G))).run P w = .ok (eqFrom F G 0 n) w := by
  have hq : ∃ i, P.info? e = some i ∧ i.size = 1 := by
    cases h : P.info? e with
    | none => simp [h] at hs
    | some i => exact ⟨i, rfl, by simpa [h] using hs⟩
  obtain ⟨inf, hi, h1⟩ := hq
  have hpart : ∀ (F : Nat → Nat) (j : Nat), j < n → (part e (row n F) (j * inf.size)).run P w = .ok (.int .i64 (F j : Int)) w := by
    intro F j hj
    simp [part, isAgg, run_underlying he, h1, row_get n F j hj, Sem.run_bind, Result.andThen]
  have hsz : (sizeOf e).run P w = .ok inf.size w := by simp [sizeOf, typeInfo, hi]
  have key : ∀ (k i : Nat), i + k = n → (forIn (m := Sem) (List.range' i k) ((none : Option Bool), ()) (fun i __s => do
      let a ← part e (row n F) (i * inf.size)
      let b ← part e (row n G) (i * inf.size)
      let r ← Op.equalIn (d + 1) e a b
      if (!r) = true then pure (ForInStep.done (some false, ())) else pure (ForInStep.yield (none, ())))).run P w = .ok (if eqFrom F G i k then (none, ()) else (some false, ())) w := by
    intro k
    induction k with
    | zero => intro i _; simp [eqFrom]
    | succ k ih =>
      intro i hi'
      have hin : i < n := by omega
      simp only [List.range'_succ, List.forIn_cons, Sem.run_bind, hpart _ _ hin, Result.andThen_ok, run_equalIn_int w d e .i64 .i64 _ _ he]
      by_cases h : F i = G i
      · have hb : ((F i : Int) == (G i : Int)) = true := by simp [h]
        have := ih (i + 1) (by omega)
        simp only [hb, Bool.not_true, Bool.false_eq_true, if_false, Sem.run_pure, Result.andThen_ok, this]
        simp only [eqFrom, h, decide_true, Bool.true_and]
      · have hb : ((F i : Int) == (G i : Int)) = false := by rw [beq_eq_false_iff_ne]; omega
        simp [hb, eqFrom, h]
  unfold Op.equalIn
  simp only [Sem.run_bind, run_underlying hu, Result.andThen_ok, hsz]
  rw [Std.Legacy.Range.forIn_eq_forIn_range']
  simp only [Std.Legacy.Range.size, Nat.sub_zero, Nat.add_sub_cancel, Nat.div_one]
  have := key n 0 (by omega)
  rw [this]
  cases eqFrom F G 0 n <;> simp
theorem run_eql_row {P : Program} {T e n : Nat} {F G : Nat → Nat} (hu : P.underlying T = some (.array n e)) (he : P.underlying e = some (.int .i64)) (hs : (P.info? e).map (·.size) = some 1) (w : World) :
    (binOp .eql T (.agg (row n F)) (.agg (row n G))).run P w = .ok (.bool (eqFrom F G 0 n)) w := by
  rw [run_eql_struct, show (10000 : Nat) = 9998 + 2 from rfl, run_equalIn_row hu he hs w]
  rfl
end Go.Proofs.Ytiaeakpgldpaiaa
