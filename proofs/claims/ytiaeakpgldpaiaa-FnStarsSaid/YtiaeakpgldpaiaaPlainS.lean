/- Stars: what the law says of them. -/
import Derived.Test.YtiaeakpgldpaiaaPlainO
import Derived.Test.YtiaeakpgldpaiaaPlainR
namespace Go.Proofs.Ytiaeakpgldpaiaa
set_option linter.unusedSimpArgs false
set_option linter.unusedVariables false
set_option maxRecDepth 4000
open Go.RowKit
set_option linter.unusedSectionVars false

theorem andn_zero15 : andn 15 0 = 15 := rfl
section
variable {T : Nat → Nat} (hb : Bd T) (hm : Mono T)
include hb hm
theorem star_six {q : Nat} (hq : q < 16) : iter (eqO T q) q 6 = lfp (eqO T q) := by
  rw [lfp_from hb hm hq]
  exact iter_stays (eqO_bd hb hq) (eqO_mono hm q) hq (imp_or_r _ _) 2
/-- The other repetition, by the dual. -/
theorem each_six {q : Nat} (hq : q < 16) : iter (eqA T q) q 6 = gfp (eqA T q) := by
  have hn : andn 15 q < 16 := andn_lt (by omega)
  have hDb := fDual_bd T
  have hDm := fDual_mono hm
  have e1 : ∀ y, y < 16 → fDual (eqA T q) y = eqO (fDual T) (andn 15 q) y := fun y hy => by
    show andn 15 (T (andn 15 y) &&& q) = andn 15 (T (andn 15 y)) ||| andn 15 q
    rw [not_and16]
  have h1 := star_six hDb hDm hn
  have h2 := iter_dual (eqA_bd (T := T) hq) hq 6
  have h3 : iter (fDual (eqA T q)) (andn 15 q) 6 = iter (eqO (fDual T) (andn 15 q)) (andn 15 q) 6 := iter_congr (fDual_bd _) e1 hn 6
  have h4 : lfp (fDual (eqA T q)) = lfp (eqO (fDual T) (andn 15 q)) := lfp_congr (fDual_bd _) e1
  rw [h3, h1, ← h4, lfp_dual (eqA_bd hq)] at h2
  have h5 := congrArg (andn 15) h2
  rw [not_not16 _ (gfp_lt (eqA_bd hq)), not_not16 _ (iter_bd (eqA_bd hq) hq 6)] at h5
  exact h5.symm
theorem aS_above {q : Nat} (hq : q < 16) : imp q (lfp (eqO T q)) := by
  have h : T (lfp (eqO T q)) ||| q = lfp (eqO T q) := lfp_fix (eqO_bd hb hq) (eqO_mono hm q)
  have := imp_or_right (T (lfp (eqO T q))) q
  rw [h] at this
  exact this
theorem aS_step {q : Nat} (hq : q < 16) : imp (T q) (lfp (eqO T q)) := by
  have h : T (lfp (eqO T q)) ||| q = lfp (eqO T q) := lfp_fix (eqO_bd hb hq) (eqO_mono hm q)
  have h1 := imp_or_left (T (lfp (eqO T q))) q
  rw [h] at h1
  exact imp_trans (hm _ _ hq (lfp_lt (eqO_bd hb hq)) (aS_above hb hm hq)) h1
theorem dS_below {q : Nat} (hq : q < 16) : imp (gfp (eqA T q)) q := by
  have h : T (gfp (eqA T q)) &&& q = gfp (eqA T q) := gfp_fix (eqA_bd hq) (eqA_mono hm q)
  have := imp_and_right (T (gfp (eqA T q))) q
  rw [h] at this
  exact this
theorem dS_step {q : Nat} (hq : q < 16) : imp (gfp (eqA T q)) (T q) := by
  have h : T (gfp (eqA T q)) &&& q = gfp (eqA T q) := gfp_fix (eqA_bd hq) (eqA_mono hm q)
  have h1 := imp_and_left (T (gfp (eqA T q))) q
  rw [h] at h1
  exact imp_trans h1 (hm _ _ (gfp_lt (eqA_bd hq)) hq (dS_below hb hm hq))
theorem dS_dual {D : Nat → Nat} (hD : ∀ p, p < 16 → D p = fDual T p) {q : Nat} (hq : q < 16) : andn 15 (gfp (eqA D (andn 15 q))) = lfp (eqO T q) := by
  rw [gfp_dual_or hb hD hq, not_not16 _ (lfp_lt (eqO_bd hb hq))]
end
/-- Choices of powers. -/
def pwO (T : Nat → Nat) (j : Nat) : Nat → Nat := fun q => iter (eqO T q) q j
def pwA (T : Nat → Nat) (j : Nat) : Nat → Nat := fun q => iter (eqA T q) q j
theorem pwO_bd {T : Nat → Nat} (hb : Bd T) (j : Nat) : Bd (pwO T j) := fun q hq => iter_bd (eqO_bd hb hq) hq j
theorem pwA_bd (T : Nat → Nat) (j : Nat) : Bd (pwA T j) := fun q hq => iter_bd (eqA_bd hq) hq j
theorem pwO_mono {T : Nat → Nat} (hb : Bd T) (hm : Mono T) (j : Nat) : Mono (pwO T j) := fun p q hp hq h => by
  induction j with
  | zero => exact h
  | succ j ih => exact imp_or (hm _ _ (pwO_bd hb j p hp) (pwO_bd hb j q hq) ih) h
theorem pwA_mono {T : Nat → Nat} (hb : Bd T) (hm : Mono T) (j : Nat) : Mono (pwA T j) := fun p q hp hq h => by
  induction j with
  | zero => exact h
  | succ j ih => exact imp_and (hm _ _ (pwA_bd T j p hp) (pwA_bd T j q hq) ih) h
theorem skip_txtO (T : Nat → Nat) : (⟨#[48, 49, 50, 51, 52, 53, 54, 55, 56, 57, 97, 98, 99, 100, 101, 102]⟩ : ByteArray) = txt 16 (pwO T 0) := by
  show _ = txt 16 (fun q => q)
  decide
theorem skip_txtA (T : Nat → Nat) : (⟨#[48, 49, 50, 51, 52, 53, 54, 55, 56, 57, 97, 98, 99, 100, 101, 102]⟩ : ByteArray) = txt 16 (pwA T 0) := by
  show _ = txt 16 (fun q => q)
  decide
theorem pwO_ok {t : ByteArray} (h : trOk t = true) (j : Nat) : trOk (txt 16 (pwO (dig t) j)) = true := trOk_txt (pwO_bd (dig_bd t) j) (pwO_mono (dig_bd t) (dig_mono h) j)
theorem pwA_ok {t : ByteArray} (h : trOk t = true) (j : Nat) : trOk (txt 16 (pwA (dig t) j)) = true := trOk_txt (pwA_bd _ j) (pwA_mono (dig_bd t) (dig_mono h) j)
theorem then_ok {t u : ByteArray} (h : trOk t = true) (k : trOk u = true) : trOk (txt 16 (fun p => dig t (dig u p))) = true := trOk_txt (fun p _ => dig_lt _ _) (fun p q hp hq i => dig_mono h _ _ (dig_lt _ _) (dig_lt _ _) (dig_mono k p q hp hq i))
theorem pwO_step (t : ByteArray) (j : Nat) : txt 16 (fun p => dig ⟨#[48, 49, 50, 51, 52, 53, 54, 55, 56, 57, 97, 98, 99, 100, 101, 102]⟩ p ||| dig (txt 16 (fun p => dig t (dig (txt 16 (pwO (dig t) j)) p))) p) = txt 16 (pwO (dig t) (j + 1)) := txt_congr fun p hp => by
  rw [skip_dig p hp, dig_txt (F := fun p => dig t (dig (txt 16 (pwO (dig t) j)) p)) (fun p _ => dig_lt _ _) p hp, dig_txt (pwO_bd (dig_bd t) j) p hp, Nat.or_comm]
  rfl
theorem pwA_step (t : ByteArray) (j : Nat) : txt 16 (fun p => dig ⟨#[48, 49, 50, 51, 52, 53, 54, 55, 56, 57, 97, 98, 99, 100, 101, 102]⟩ p &&& dig (txt 16 (fun p => dig t (dig (txt 16 (pwA (dig t) j)) p))) p) = txt 16 (pwA (dig t) (j + 1)) := txt_congr fun p hp => by
  rw [skip_dig p hp, dig_txt (F := fun p => dig t (dig (txt 16 (pwA (dig t) j)) p)) (fun p _ => dig_lt _ _) p hp, dig_txt (pwA_bd _ j) p hp, Nat.and_comm]
  rfl
end Go.Proofs.Ytiaeakpgldpaiaa
