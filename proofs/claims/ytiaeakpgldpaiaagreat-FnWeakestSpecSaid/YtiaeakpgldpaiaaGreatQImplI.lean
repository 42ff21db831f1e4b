/- The program's functions that take functions: loops, repetitions, residuals. -/
import Derived.Test.YtiaeakpgldpaiaaGreatQJ3
namespace Go.Proofs.YtiaeakpgldpaiaaGreat
set_option linter.unusedSimpArgs false
set_option linter.unusedVariables false
set_option maxRecDepth 4000
open Go.RowKit

theorem RowAt.fresh3 (w : World) (o o' o'' : Obj) (t : TypeId) (cs : Array Value) : RowAt ((((w.alloc o).alloc o').alloc o'').alloc (.cells cs t)) (w.heap.size + 3) t cs := by
  have h := RowAt.fresh (((w.alloc o).alloc o').alloc o'') t cs
  simpa using h
theorem bel_4 (w : World) (a b c d : Obj) : Below w.heap.size w ((((w.alloc a).alloc b).alloc c).alloc d) := (bel_3 w a b c).alloc (by simp; omega) _

/-- A function value that makes a table of a table, or of two. -/
def TrIs (P : Program) (fv : Value) (w : World) (T G : Nat → Nat) : Prop :=
  ∃ g lb, fv = .func (.func g) #[] lb ∧ (∀ args w, (callFunc g args).run P w = .ok (.enter g args) w) ∧
    ∀ (W : World), Below w.heap.size w W → Calls P g (#[.agg (row 16 T)] ++ lb) W fun e W' => e = .returned (.agg (row 16 G)) ∧ Below W.heap.size W W'
def Tr2Is (P : Program) (fv : Value) (w : World) (T U G : Nat → Nat) : Prop :=
  ∃ g lb, fv = .func (.func g) #[] lb ∧ (∀ args w, (callFunc g args).run P w = .ok (.enter g args) w) ∧
    ∀ (W : World), Below w.heap.size w W → Calls P g (#[.agg (row 16 T), .agg (row 16 U)] ++ lb) W fun e W' => e = .returned (.agg (row 16 G)) ∧ Below W.heap.size W W'
/-- A function value that finds a fixed point. -/
def PtIs (P : Program) (fv : Value) (pt : (Nat → Nat) → Nat) : Prop :=
  ∃ g, fv = .func (.func g) #[] #[] ∧ (∀ args w, (callFunc g args).run P w = .ok (.enter g args) w) ∧
    ∀ (W : World) (gv : Value) (f : Nat → Nat), FnIs P gv W f 16 → Bd f → Mono f → Calls P g #[gv] W fun e W' => e = .returned (.int .i64 (pt f : Int)) ∧ Below W.heap.size W W'

theorem pt_least : PtIs Tryz.prog (.func (.func 66) #[] #[]) lfp := ⟨_, rfl, enters_of Tryz.func66 (by kernel_rfl) rfl, fun W gv f hf hb hm => i_leastPoint gv f W hf hb hm⟩
end Go.Proofs.YtiaeakpgldpaiaaGreat
