/- Repetitions for ever: what the law says of them. -/
import Derived.Test.YtiaeakpgldpaiaaPlainC
import Derived.Test.YtiaeakpgldpaiaaPlain9
import Derived.Test.YtiaeakpgldpaiaaApp3
namespace Go.Proofs.Ytiaeakpgldpaiaa
set_option linter.unusedSimpArgs false
set_option linter.unusedVariables false
set_option maxRecDepth 4000
open Go.RowKit
set_option linter.unusedSectionVars false

section
variable {T : Nat → Nat} (hb : Bd T) (hm : Mono T)
include hb hm
theorem dO_mono : Mono (fun q => lfp (eqA T q)) := fun p q hp hq h => lfp_imp (eqA_bd hp) (eqA_bd hq) (eqA_mono hm q) (fun y _ => imp_and (imp_refl _) h) 4
theorem dS_mono : Mono (fun q => gfp (eqA T q)) := fun p q hp hq h => gfp_imp (eqA_bd hp) (eqA_bd hq) (eqA_mono hm q) (fun y _ => imp_and (imp_refl _) h) 4
theorem aO_mono : Mono (fun q => gfp (eqO T q)) := fun p q hp hq h => gfp_imp (eqO_bd hb hp) (eqO_bd hb hq) (eqO_mono hm q) (fun y _ => imp_or (imp_refl _) h) 4
theorem aS_mono : Mono (fun q => lfp (eqO T q)) := fun p q hp hq h => lfp_imp (eqO_bd hb hp) (eqO_bd hb hq) (eqO_mono hm q) (fun y _ => imp_or (imp_refl _) h) 4
end
theorem dO_bd (T : Nat → Nat) : Bd (fun q => lfp (eqA T q)) := fun q hq => lfp_lt (eqA_bd hq)
theorem dS_bd (T : Nat → Nat) : Bd (fun q => gfp (eqA T q)) := fun q hq => gfp_lt (eqA_bd hq)
theorem aO_bd {T : Nat → Nat} (hb : Bd T) : Bd (fun q => gfp (eqO T q)) := fun q hq => gfp_lt (eqO_bd hb hq)
theorem aS_bd {T : Nat → Nat} (hb : Bd T) : Bd (fun q => lfp (eqO T q)) := fun q hq => lfp_lt (eqO_bd hb hq)
theorem ref_txt {F G : Nat → Nat} (hF : Bd F) (hG : Bd G) (h : ∀ q, q < 16 → imp (F q) (G q)) : refB (dig (txt 16 F)) (dig (txt 16 G)) 16 = true :=
  (refB_iff _ _ _).2 fun i hi => by rw [dig_txt hF i hi, dig_txt hG i hi]; exact h i hi
/-- The dual of a solution for the dual. -/
theorem aO_dual {T D : Nat → Nat} (hb : Bd T) (hD : ∀ p, p < 16 → D p = fDual T p) {q : Nat} (hq : q < 16) : andn 15 (gfp (eqO D (andn 15 q))) = lfp (eqA T q) := by
  have hn : andn 15 q < 16 := andn_lt (by omega)
  have hDb : Bd D := fun p hp => by rw [hD p hp]; exact fDual_bd T p hp
  rw [← lfp_dual (eqO_bd hDb hn)]
  refine lfp_congr (fDual_bd _) fun y hy => ?_
  show andn 15 (D (andn 15 y) ||| andn 15 q) = T y &&& q
  rw [hD _ (andn_lt (by omega))]
  show andn 15 (andn 15 (T (andn 15 (andn 15 y))) ||| andn 15 q) = _
  rw [not_not16 y hy, not_and16, not_not16 _ (and_lt (hb y hy))]
theorem starts_dO {T : Nat → Nat} (hb : Bd T) : lfp (eqA T 15) = lfp T := lfp_congr (eqA_bd (by omega)) fun p hp => and_all (hb p hp)
theorem miracles_aO {T : Nat → Nat} (hb : Bd T) : gfp (eqO T 0) = gfp T := gfp_congr (eqO_bd hb (by omega)) fun p _ => or_zero _
end Go.Proofs.Ytiaeakpgldpaiaa
