/- The program's residuals behind relations, and the sequence of two specifications. -/
import Derived.Test.YtiaeakpgldpaiaaQImplL
namespace Go.Proofs.Ytiaeakpgldpaiaa
set_option linter.unusedSimpArgs false
set_option linter.unusedVariables false
set_option maxRecDepth 4000
open Go.RowKit

/-- A function value that makes a table of a relation and a table. -/
def RtIs (P : Program) (fv : Value) (w : World) (R T G : Nat → Nat) : Prop :=
  ∃ g lb, fv = .func (.func g) #[] lb ∧ (∀ args w, (callFunc g args).run P w = .ok (.enter g args) w) ∧
    ∀ (W : World), Below w.heap.size w W → Calls P g (#[.agg (row 4 R), .agg (row 16 T)] ++ lb) W fun e W' => e = .returned (.agg (row 16 G)) ∧ Below W.heap.size W W'

end Go.Proofs.Ytiaeakpgldpaiaa
