/- Powers, split loops and rolled fixed points: what the laws say of them. -/
import Derived.Test.YtiaeakpgldpaiaaPlainB
import Derived.Test.YtiaeakpgldpaiaaPlain4
namespace Go.Proofs.Ytiaeakpgldpaiaa
set_option linter.unusedSimpArgs false
set_option linter.unusedVariables false
set_option maxRecDepth 4000
open Go.RowKit
set_option linter.unusedSectionVars false

theorem iter_more (f : Nat → Nat) (a m : Nat) : ∀ n, iter f (iter f a m) n = iter f a (m + n)
  | 0 => rfl
  | n + 1 => by
    show f (iter f (iter f a m) n) = f (iter f a (m + n))
    rw [iter_more f a m n]
theorem power_dual {T : Nat → Nat} (hb : Bd T) (n p : Nat) (hp : p < 16) : fPower (fDual T) n p = fDual (fPower T n) p := by
  have h := iter_dual hb (a := andn 15 p) (andn_lt (by omega)) n
  rw [not_not16 p hp] at h
  exact h
theorem txt_fun {F G : Nat → Nat} (h : ∀ p, p < 16 → F p = G p) : txt 16 F = txt 16 G := txt_congr h
/-- The text of one table behind another. -/
theorem then_txt {F G : Nat → Nat} (hF : Bd F) (hG : Bd G) : txt 16 (fun p => dig (txt 16 F) (dig (txt 16 G) p)) = txt 16 (fun p => F (G p)) := txt_congr fun p hp => by
  rw [dig_txt hG p hp, dig_txt hF _ (hG p hp)]
theorem dual_txt {F : Nat → Nat} (hF : Bd F) : txt 16 (fDual (dig (txt 16 F))) = txt 16 (fDual F) := txt_congr fun p hp => by
  show andn 15 (dig (txt 16 F) (andn 15 p)) = andn 15 (F (andn 15 p))
  rw [dig_txt hF _ (andn_lt (by omega))]
theorem fPower_congr {T U : Nat → Nat} (hT : Bd T) (h : ∀ p, p < 16 → T p = U p) (n p : Nat) (hp : p < 16) : fPower T n p = fPower U n p := iter_congr hT h hp n
theorem fPower_mono {T : Nat → Nat} (hb : Bd T) (hm : Mono T) (n : Nat) : Mono (fPower T n) := fun p q hp hq h => by
  induction n with
  | zero => exact h
  | succ n ih => exact hm _ _ (iter_bd hb hp n) (iter_bd hb hq n) ih
section
variable {T : Nat → Nat} {n m a : Nat} (hb : Bd T) (hm : Mono T) (hn : n < 16) (ha : a < 16)
include hb hm hn ha
theorem while_fix : turn n (T (fWhile n T a)) a = fWhile n T a := lfp_fix (eqW_bd hn ha) (eqW_mono hm n a)
theorem while_part : fWhile (n &&& m) T (fWhile n T a) = fWhile n T a := by
  have hL : fWhile n T a < 16 := fWhile_bd hn a ha
  have hnm : n &&& m < 16 := and_lt hn
  have hLf := while_fix hb hm hn ha
  obtain ⟨L, hLd⟩ : ∃ L, L = fWhile n T a := ⟨_, rfl⟩
  rw [← hLd] at hL hLf ⊢
  have hW : fWhile (n &&& m) T L < 16 := fWhile_bd hnm L hL
  have hWf : turn (n &&& m) (T (fWhile (n &&& m) T L)) L = fWhile (n &&& m) T L := lfp_fix (eqW_bd hnm hL) (eqW_mono hm _ _)
  have h1 : imp (fWhile (n &&& m) T L) L := by
    refine lfp_least (eqW_bd hnm hL) (eqW_mono hm _ _) hL ?_
    show imp (turn (n &&& m) (T L) L) L
    rw [imp_iff]
    intro i hi
    rw [bit_turn, Nat.testBit_and] at hi
    have := congrArg (fun x => x.testBit i) hLf
    simp only [bit_turn] at this
    rw [← this]
    cases hni : n.testBit i <;> cases hmi : m.testBit i <;> cases hti : (T L).testBit i <;> cases hai : a.testBit i <;> cases hli : L.testBit i <;> simp_all
  apply imp_antisymm h1
  obtain ⟨W, hWd⟩ : ∃ W, W = fWhile (n &&& m) T L := ⟨_, rfl⟩
  rw [← hWd] at hW hWf h1 ⊢
  rw [hLd]
  refine lfp_least (eqW_bd hn ha) (eqW_mono hm _ _) hW ?_
  show imp (turn n (T W) a) W
  have h2 := hm _ _ hW hL h1
  rw [imp_iff]
  intro i hi
  rw [bit_turn] at hi
  have k1 := congrArg (fun x => x.testBit i) hLf
  have k2 := congrArg (fun x => x.testBit i) hWf
  simp only [bit_turn, Nat.testBit_and] at k1 k2
  have k3 := (imp_iff _ _).1 h2 i
  rw [← k2]
  cases hni : n.testBit i <;> cases hmi : m.testBit i <;> cases hti : (T W).testBit i <;> cases hai : a.testBit i <;> cases hli : L.testBit i <;> cases htl : (T L).testBit i <;> simp_all
theorem while_split : fSplit n m T a = fWhile n T a := by
  have hL : fWhile n T a < 16 := fWhile_bd hn a ha
  have hnm : n &&& m < 16 := and_lt hn
  have hB := fSplitB_bd (q := m) hn hb
  have hBm := fSplitB_mono (q := m) hn hb hm
  have hM : fWhile n (fSplitB n m T) a < 16 := fWhile_bd hn a ha
  have hMf : turn n (fSplitB n m T (fWhile n (fSplitB n m T) a)) a = fWhile n (fSplitB n m T) a := lfp_fix (eqW_bd hn ha) (eqW_mono hBm n a)
  have hLf := while_fix hb hm hn ha
  have hpart := while_part (m := m) hb hm hn ha
  have hML : imp (fWhile n (fSplitB n m T) a) (fWhile n T a) := by
    refine lfp_least (eqW_bd hn ha) (eqW_mono hBm n a) hL ?_
    show imp (turn n (T (fWhile (n &&& m) T (fWhile n T a))) a) _
    rw [hpart, hLf]
    exact imp_refl _
  show fWhile (n &&& m) T (fWhile n (fSplitB n m T) a) = _
  apply imp_antisymm
  · have := fWhile_mono hnm hm _ _ hM hL hML
    rw [hpart] at this
    exact this
  · obtain ⟨M, hMd⟩ : ∃ M, M = fWhile n (fSplitB n m T) a := ⟨_, rfl⟩
    rw [← hMd] at hM hMf ⊢
    have hK : fWhile (n &&& m) T M < 16 := fWhile_bd hnm M hM
    have hKf : turn (n &&& m) (T (fWhile (n &&& m) T M)) M = fWhile (n &&& m) T M := lfp_fix (eqW_bd hnm hM) (eqW_mono hm _ _)
    have hMf' : turn n (T (fWhile (n &&& m) T M)) a = M := hMf
    refine lfp_least (eqW_bd hn ha) (eqW_mono hm _ _) hK ?_
    show imp (turn n (T (fWhile (n &&& m) T M)) a) _
    obtain ⟨K, hKd⟩ : ∃ K, K = fWhile (n &&& m) T M := ⟨_, rfl⟩
    rw [← hKd] at hKf hMf' ⊢
    rw [imp_iff]
    intro i hi
    rw [hMf'] at hi
    have k2 := congrArg (fun x => x.testBit i) hKf
    have k1 := congrArg (fun x => x.testBit i) hMf'
    simp only [bit_turn, Nat.testBit_and] at k1 k2
    rw [← k2]
    cases hni : n.testBit i <;> cases hmi : m.testBit i <;> cases hti : (T K).testBit i <;> simp_all
end
section
variable {T U : Nat → Nat} (hT : Bd T) (hmT : Mono T) (hU : Bd U) (hmU : Mono U)
include hT hmT hU hmU
theorem roll_lfp : lfp (fun p => T (U p)) = T (lfp (fun p => U (T p))) := by
  have b1 : Bd (fun p => T (U p)) := fun p hp => hT _ (hU p hp)
  have b2 : Bd (fun p => U (T p)) := fun p hp => hU _ (hT p hp)
  have m1 : Mono (fun p => T (U p)) := fun p q hp hq h => hmT _ _ (hU p hp) (hU q hq) (hmU p q hp hq h)
  have m2 : Mono (fun p => U (T p)) := fun p q hp hq h => hmU _ _ (hT p hp) (hT q hq) (hmT p q hp hq h)
  have f1 : T (U (lfp (fun p => T (U p)))) = lfp (fun p => T (U p)) := lfp_fix b1 m1
  have f2 : U (T (lfp (fun p => U (T p)))) = lfp (fun p => U (T p)) := lfp_fix b2 m2
  apply imp_antisymm
  · refine lfp_least b1 m1 (hT _ (lfp_lt b2)) ?_
    show imp (T (U (T (lfp (fun p => U (T p)))))) _
    rw [f2]; exact imp_refl _
  · have : imp (lfp (fun p => U (T p))) (U (lfp (fun p => T (U p)))) := by
      refine lfp_least b2 m2 (hU _ (lfp_lt b1)) ?_
      show imp (U (T (U (lfp (fun p => T (U p)))))) _
      rw [f1]; exact imp_refl _
    have h := hmT _ _ (lfp_lt b2) (hU _ (lfp_lt b1)) this
    rw [f1] at h
    exact h
theorem roll_gfp : gfp (fun p => T (U p)) = T (gfp (fun p => U (T p))) := by
  have b1 : Bd (fun p => T (U p)) := fun p hp => hT _ (hU p hp)
  have b2 : Bd (fun p => U (T p)) := fun p hp => hU _ (hT p hp)
  have m1 : Mono (fun p => T (U p)) := fun p q hp hq h => hmT _ _ (hU p hp) (hU q hq) (hmU p q hp hq h)
  have m2 : Mono (fun p => U (T p)) := fun p q hp hq h => hmU _ _ (hT p hp) (hT q hq) (hmT p q hp hq h)
  have f1 : T (U (gfp (fun p => T (U p)))) = gfp (fun p => T (U p)) := gfp_fix b1 m1
  have f2 : U (T (gfp (fun p => U (T p)))) = gfp (fun p => U (T p)) := gfp_fix b2 m2
  apply imp_antisymm
  · have : imp (U (gfp (fun p => T (U p)))) (gfp (fun p => U (T p))) := by
      refine gfp_greatest b2 m2 (hU _ (gfp_lt b1)) ?_
      show imp _ (U (T (U (gfp (fun p => T (U p))))))
      rw [f1]; exact imp_refl _
    have h := hmT _ _ (hU _ (gfp_lt b1)) (gfp_lt b2) this
    rw [f1] at h
    exact h
  · refine gfp_greatest b1 m1 (hT _ (gfp_lt b2)) ?_
    show imp _ (T (U (T (gfp (fun p => U (T p))))))
    rw [f2]; exact imp_refl _
end
theorem lfp_gfp {T : Nat → Nat} (hb : Bd T) (hm : Mono T) : imp (lfp T) (gfp T) := lfp_least hb hm (gfp_lt hb) (by rw [gfp_fix hb hm]; exact imp_refl _)
end Go.Proofs.Ytiaeakpgldpaiaa
