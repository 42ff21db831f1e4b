/- Mathematics of split loops and of residuals of tables that agree. -/
import Derived.Test.YtiaeakpgldpaiaaPlain2
namespace Go.Proofs.Ytiaeakpgldpaiaa
set_option linter.unusedSimpArgs false
set_option linter.unusedVariables false
set_option maxRecDepth 4000

theorem fMost_congr {T U V : Nat → Nat} (p : Nat) : ∀ n, (∀ k, k < n → U k = V k) → fMost T U p n = fMost T V p n
  | 0, _ => rfl
  | n + 1, h => by unfold fMost; rw [fMost_congr p n fun k hk => h k (by omega), h n (by omega)]
theorem Mono.txt {F : Nat → Nat} (hb : Bd F) (hm : Mono F) : Mono (dig (txt 16 F)) := dig_mono (trOk_txt hb hm)
/-- The body of the outer loop of a split one; the whole. -/
def fSplitB (p q : Nat) (T : Nat → Nat) : Nat → Nat := fun a => T (fWhile (p &&& q) T a)
def fSplit (p q : Nat) (T : Nat → Nat) : Nat → Nat := fun a => fWhile (p &&& q) T (fWhile p (fSplitB p q T) a)
theorem fSplitB_bd {p q : Nat} {T : Nat → Nat} (hp : p < 16) (hb : Bd T) : Bd (fSplitB p q T) := fun a ha => hb _ (fWhile_bd (and_lt hp) a ha)
theorem fSplitB_mono {p q : Nat} {T : Nat → Nat} (hp : p < 16) (hb : Bd T) (hm : Mono T) : Mono (fSplitB p q T) := fun a b ha hb' h =>
  hm _ _ (fWhile_bd (and_lt hp) a ha) (fWhile_bd (and_lt hp) b hb') (fWhile_mono (and_lt hp) hm a b ha hb' h)
theorem fWhile_congr {p q : Nat} {T U : Nat → Nat} (hp : p < 16) (hq : q < 16) (h : ∀ x, x < 16 → T x = U x) : fWhile p T q = fWhile p U q :=
  lfp_congr (eqW_bd hp hq) fun y hy => by unfold eqW; rw [h y hy]
end Go.Proofs.Ytiaeakpgldpaiaa
