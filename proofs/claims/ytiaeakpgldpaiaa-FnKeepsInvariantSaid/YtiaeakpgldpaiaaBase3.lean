/- A whole array read under a guard that says yes; rows that are filled from the left. -/
import Derived.Test.YtiaeakpgldpaiaaBase2
namespace Go.Proofs.Ytiaeakpgldpaiaa
set_option linter.unusedSimpArgs false
set_option linter.unusedVariables false
set_option maxRecDepth 4000
open Go.RowKit

theorem wpList_load_rowG {P : Program} {ops : Array Oper} {rest : List Oper} {o : Oper} {a : Act} {w : World} {Q : Exit → Act → World → Prop} (hw : Region.wanted o (yielded ops a.tmps) = true) (ty : TypeId) (x : Operand) (ho : o.op = .load ty x)
    (g : Nat) (hx : a.eval x = .pointer (some ⟨g, 0, none⟩)) (t : TypeId) (cs : Array Value) (fr : Nat × Nat) (d : TypeDesc) (hg : w.heap[g]? = some (.cells cs t fr))
    (hu : P.underlying ty = some d) (hd : (match d with | .struct _ | .array _ _ => true | _ => false) = true) (hi : (P.info? ty).map (·.size) = some cs.size)
    (h : wpList P ops Q rest (a.put o.dst (.agg cs)) w) : wpList P ops Q (o :: rest) a w :=
  BigFrame.wpList_want hw fun _ hK => wp_load_row ty x ho g hx t cs fr d hg hu hd hi (hK _ _ h)
/-- A row that is filled up to k, and in work at k. -/
def midF (F : Nat → Nat) (k a : Nat) : Nat → Nat := fun i => if i < k then F i else if i = k then a else 0
theorem midF_start (F : Nat → Nat) (k : Nat) : ∀ i, midF F k 0 i = if i < k then F i else 0 := fun i => by unfold midF; split; rfl; split <;> rfl
theorem midF_upd (F : Nat → Nat) (k a b : Nat) : ∀ i, upd (midF F k a) k b i = midF F k b i := fun i => by
  unfold upd midF
  by_cases h : i = k
  · subst h; simp
  · simp [h]
theorem midF_first (F : Nat → Nat) (k b : Nat) : ∀ i, upd (fun i => if i < k then F i else 0) k b i = midF F k b i := fun i => by
  unfold upd midF
  by_cases h : i = k
  · subst h; simp
  · simp [h]
theorem midF_at (F : Nat → Nat) (k a : Nat) : midF F k a k = a := by unfold midF; simp
theorem midF_end (F : Nat → Nat) (k : Nat) : ∀ i, midF F k (F k) i = if i < k + 1 then F i else 0 := fun i => by
  unfold midF
  by_cases h : i < k
  · rw [if_pos h, if_pos (by omega)]
  · rw [if_neg h]
    by_cases h2 : i = k
    · subst h2; rw [if_pos rfl, if_pos (by omega)]
    · rw [if_neg h2, if_neg (by omega)]
end Go.Proofs.Ytiaeakpgldpaiaa
