/- Mathematics of ranks and of the code without choices. -/
import Derived.Test.YtiaeakpgldpaiaaPlain3
namespace Go.Proofs.Ytiaeakpgldpaiaa
set_option linter.unusedSimpArgs false
set_option linter.unusedVariables false
set_option maxRecDepth 4000

/-- The first of n rounds from p on whose condition a state meets, or -1. -/
def rkTo (T : Nat → Nat) (p s : Nat) : Nat → Int
  | 0 => -1
  | n + 1 => if decide (rkTo T p s n < 0) && (iter (eqO T p) p n).testBit s then (n : Int) else rkTo T p s n
theorem rkTo_range (T : Nat → Nat) (p s : Nat) : ∀ n, -1 ≤ rkTo T p s n ∧ rkTo T p s n < (n : Int) ∨ (n = 0 ∧ rkTo T p s n = -1)
  | 0 => .inr ⟨rfl, rfl⟩
  | n + 1 => by
    left
    have ih := rkTo_range T p s n
    unfold rkTo
    split <;> omega
theorem rkTo_ge (T : Nat → Nat) (p s n : Nat) : -1 ≤ rkTo T p s n := by have := rkTo_range T p s n; omega
theorem rkTo_lt (T : Nat → Nat) (p s n : Nat) (h : 0 < n) : rkTo T p s n < (n : Int) := by have := rkTo_range T p s n; omega
theorem rkTo_yes {T : Nat → Nat} {p s n : Nat} (h : rkTo T p s n < 0) (h' : (iter (eqO T p) p n).testBit s = true) : rkTo T p s (n + 1) = (n : Int) := by
  unfold rkTo; rw [if_pos (by simp [h, h'])]
theorem rkTo_no {T : Nat → Nat} {p s n : Nat} (h : 0 ≤ rkTo T p s n ∨ (iter (eqO T p) p n).testBit s = false) : rkTo T p s (n + 1) = rkTo T p s n := by
  rw [rkTo, if_neg]
  rw [Bool.and_eq_true, decide_eq_true_iff]
  rintro ⟨h1, h2⟩
  rcases h with h | h
  · omega
  · rw [h] at h2; cases h2
theorem rkTo_neg {T : Nat → Nat} {p s : Nat} : ∀ {n : Nat}, rkTo T p s n < 0 → ∀ k, k < n → (iter (eqO T p) p k).testBit s = false
  | 0, _, k, hk => by omega
  | n + 1, h, k, hk => by
    have hn : rkTo T p s n < 0 ∧ (iter (eqO T p) p n).testBit s = false := by
      rw [rkTo] at h
      split at h
      · omega
      · rename_i hc
        refine ⟨h, ?_⟩
        cases hb : (iter (eqO T p) p n).testBit s
        · rfl
        · exact absurd (by simp [h, hb]) hc
    rcases Nat.lt_or_ge k n with h1 | h1
    · exact rkTo_neg hn.1 k h1
    · obtain rfl : k = n := by omega
      exact hn.2
theorem iter_upA {f : Nat → Nat} (hb : Bd f) (hm : Mono f) {a : Nat} (ha : a < 16) (h : imp a (f a)) : ∀ n, imp (iter f a n) (iter f a (n + 1))
  | 0 => h
  | n + 1 => hm _ _ (iter_bd hb ha n) (iter_bd hb ha (n + 1)) (iter_upA hb hm ha h n)
theorem iter_upA_or {f : Nat → Nat} (hb : Bd f) (hm : Mono f) {a : Nat} (ha : a < 16) (h : imp a (f a)) : ∀ n, n ≤ pc (iter f a n) ∨ ∃ k, k < n ∧ iter f a (k + 1) = iter f a k
  | 0 => .inl (Nat.zero_le _)
  | n + 1 => by
    rcases iter_upA_or hb hm ha h n with h1 | ⟨k, h1, h2⟩
    · by_cases e : iter f a (n + 1) = iter f a n
      · exact .inr ⟨n, by omega, e⟩
      · have := pc_lt (iter_bd hb ha n) (iter_bd hb ha (n + 1)) (iter_upA hb hm ha h n) (fun h' => e h'.symm)
        left; omega
    · exact .inr ⟨k, by omega, h2⟩
theorem iter_stays {f : Nat → Nat} (hb : Bd f) (hm : Mono f) {a : Nat} (ha : a < 16) (h : imp a (f a)) : ∀ k, iter f a (4 + k) = iter f a 4 := by
  have h5 : iter f a 5 = iter f a 4 := by
    refine fix_at ?_
    rcases iter_upA_or hb hm ha h 5 with h1 | h1
    · have := pc_le (iter f a 5); omega
    · exact h1
  exact iter_fix h5
theorem imp_or_r (a b : Nat) : imp b (a ||| b) := (imp_iff _ _).2 fun i h => by rw [Nat.testBit_or, h, Bool.or_true]
theorem imp_or_l (a b : Nat) : imp a (a ||| b) := (imp_iff _ _).2 fun i h => by rw [Nat.testBit_or, h, Bool.true_or]
theorem rkTo_stays {T : Nat → Nat} {p : Nat} (hb : Bd T) (hm : Mono T) (hp : p < 16) (s : Nat) : ∀ k, rkTo T p s (5 + k) = rkTo T p s 5
  | 0 => rfl
  | k + 1 => by
    have ih := rkTo_stays hb hm hp s k
    rw [show 5 + (k + 1) = (5 + k) + 1 from rfl, rkTo_no, ih]
    by_cases h : rkTo T p s (5 + k) < 0
    · right
      rw [ih] at h
      rw [show 5 + k = 4 + (k + 1) from by omega, iter_stays (eqO_bd hb hp) (eqO_mono hm p) hp (imp_or_r _ _) (k + 1)]
      exact rkTo_neg h 4 (by omega)
    · left; omega
/-- The rank of a state. -/
def rank (T : Nat → Nat) (p s : Nat) : Int := rkTo T p s 5
theorem rank_16 {T : Nat → Nat} {p : Nat} (hb : Bd T) (hm : Mono T) (hp : p < 16) (s : Nat) : rkTo T p s 16 = rank T p s := rkTo_stays hb hm hp s 11
theorem rank_lt (T : Nat → Nat) (p s : Nat) : rank T p s < 5 := rkTo_lt T p s 5 (by omega)
theorem rank_ge (T : Nat → Nat) (p s : Nat) : -1 ≤ rank T p s := rkTo_ge T p s 5
/-- A row of whole numbers. -/
def zrow (n : Nat) (F : Nat → Int) : List Int := (List.range n).map F
theorem zrow_len (n : Nat) (F : Nat → Int) : (zrow n F).length = n := by simp [zrow]
theorem zrow_get (n : Nat) (F : Nat → Int) (i : Nat) (h : i < n) : (zrow n F)[i]? = some (F i) := by simp [zrow, h]
theorem zrow_snoc (n : Nat) (F : Nat → Int) : zrow n F ++ [F n] = zrow (n + 1) F := by simp [zrow, List.range_succ]
theorem zrow_congr {n : Nat} {F G : Nat → Int} (h : ∀ i, i < n → F i = G i) : zrow n F = zrow n G := List.map_congr_left fun i hi => h i (by simpa using hi)

/-- The least state of a condition, if there is one. -/
def lowS (p : Nat) : Nat := if p.testBit 0 then 0 else if p.testBit 1 then 1 else if p.testBit 2 then 2 else 3
theorem lowS_lt (p : Nat) : lowS p < 4 := by unfold lowS; split; omega; split; omega; split <;> omega
theorem ex_bit {p : Nat} (hp : p < 16) (h : p ≠ 0) : ∃ i, i < 4 ∧ p.testBit i = true := by
  by_cases h0 : ∃ i, i < 4 ∧ p.testBit i = true
  · exact h0
  · exfalso
    apply h
    apply eq_of_bits (n := 4) hp (by omega)
    intro i hi
    rw [Nat.zero_testBit]
    cases hb : p.testBit i
    · rfl
    · exact absurd ⟨i, hi, hb⟩ h0
theorem lowS_bit {p : Nat} (hp : p < 16) (h : p ≠ 0) : p.testBit (lowS p) = true := by
  obtain ⟨i, hi, hb⟩ := ex_bit hp h
  unfold lowS
  split
  · assumption
  · split
    · assumption
    · split
      · assumption
      · have : i = 3 := by
          have h3 : i = 0 ∨ i = 1 ∨ i = 2 ∨ i = 3 := by omega
          rcases h3 with rfl | rfl | rfl | rfl
          · contradiction
          · contradiction
          · contradiction
          · rfl
        subst this; exact hb
theorem lowS_below (p k : Nat) (h : k < lowS p) : p.testBit k = false := by
  unfold lowS at h
  split at h
  · omega
  · rename_i h0
    split at h
    · obtain rfl : k = 0 := by omega
      simpa using h0
    · rename_i h1
      split at h
      · have : k = 0 ∨ k = 1 := by omega
        rcases this with rfl | rfl
        · simpa using h0
        · simpa using h1
      · rename_i h2
        have : k = 0 ∨ k = 1 ∨ k = 2 := by omega
        rcases this with rfl | rfl | rfl
        · simpa using h0
        · simpa using h1
        · simpa using h2
/-- One test of the code without choices. -/
def fIf (s : Nat) (R : Nat → Nat) : ByteArray := ((⟨#[105]⟩ : ByteArray) ++ ⟨#[hexChr (one s)]⟩) ++ fAssign s (lowS (R s))
/-- The code without choices, of the states from 4 - k on. -/
def fCF (p : Nat) (R : Nat → Nat) : Nat → ByteArray
  | 0 => ⟨#[115]⟩
  | k + 1 => if p.testBit (3 - k) then fIf (3 - k) R ++ fCF p R k else fCF p R k
/-- Is there such code? -/
def cfTo (p : Nat) (R : Nat → Nat) : Nat → Bool
  | 0 => true
  | k + 1 => cfTo p R k && !(p.testBit (3 - k) && decide (R (3 - k) = 0))
theorem cfTo_iff (p : Nat) (R : Nat → Nat) : ∀ k, k ≤ 4 → (cfTo p R k = true ↔ ∀ s, 4 - k ≤ s → s < 4 → p.testBit s = true → R s ≠ 0)
  | 0, _ => by simp [cfTo]; intro s h1 h2; omega
  | k + 1, hk => by
    have ih := cfTo_iff p R k (by omega)
    unfold cfTo
    rw [Bool.and_eq_true, ih]
    constructor
    · rintro ⟨h1, h2⟩ s h3 h4 h5 h6
      by_cases e : s = 3 - k
      · subst e; rw [h5, h6] at h2; simp at h2
      · exact h1 s (by omega) h4 h5 h6
    · intro h
      refine ⟨fun s h1 h2 => h s (by omega) h2, ?_⟩
      have := h (3 - k) (by omega) (by omega)
      cases hb : p.testBit (3 - k)
      · rfl
      · have := this hb
        simp [this]
def cfOk (p : Nat) (R : Nat → Nat) : Bool := cfTo p R 4
theorem cfOk_iff {p : Nat} {R : Nat → Nat} (hp : p < 16) (hR : ∀ s, R s < 16) : cfOk p R = decide (andn p (fDia R 15 4) = 0) := by
  rw [Bool.eq_iff_iff, decide_eq_true_iff]
  unfold cfOk
  rw [cfTo_iff _ _ 4 (by omega), show (andn p (fDia R 15 4) = 0) = imp p (fDia R 15 4) from rfl, imp_iff]
  constructor
  · intro h i hi
    have hi4 : i < 4 := by
      rcases Nat.lt_or_ge i 4 with h1 | h1
      · exact h1
      · rw [testBit_ge hp h1] at hi; cases hi
    show (mkC _ 4).testBit i = true
    rw [mkC_bit _ hi4, decide_eq_true_iff, and_all (hR i)]
    exact h i (by omega) hi4 hi
  · intro h s _ hs hb e
    have := h s hb
    rw [show (fDia R 15 4).testBit s = decide (R s &&& 15 ≠ 0) from mkC_bit _ hs, e] at this
    simp at this
theorem fCF_zero (R : Nat → Nat) : ∀ k, fCF 0 R k = ⟨#[115]⟩
  | 0 => rfl
  | k + 1 => by unfold fCF; rw [Nat.zero_testBit, if_neg (by simp), fCF_zero R k]
theorem fCF_congr {p q : Nat} (R : Nat → Nat) : ∀ k, k ≤ 4 → (∀ s, 4 - k ≤ s → s < 4 → p.testBit s = q.testBit s) → fCF p R k = fCF q R k
  | 0, _, _ => rfl
  | k + 1, hk, h => by
    unfold fCF
    rw [h (3 - k) (by omega) (by omega), fCF_congr R k (by omega) fun s h1 h2 => h s (by omega) h2]
theorem andn_bit (p s i : Nat) : (andn p (one s)).testBit i = (p.testBit i && !decide (s = i)) := by rw [testBit_andn, testBit_one]
theorem fCF_up {p : Nat} (R : Nat → Nat) : ∀ (d k : Nat), k + d ≤ 4 → (∀ s, 4 - (k + d) ≤ s → s < 4 - k → p.testBit s = false) → fCF p R (k + d) = fCF p R k
  | 0, _, _, _ => rfl
  | d + 1, k, hk, h => by
    rw [show k + (d + 1) = (k + d) + 1 from rfl, fCF, h (3 - (k + d)) (by omega) (by omega), if_neg (by simp)]
    exact fCF_up R d k (by omega) fun s h1 h2 => h s (by omega) h2
theorem fCF_step {p : Nat} (R : Nat → Nat) (hp : p < 16) (h : p ≠ 0) : fCF p R 4 = fIf (lowS p) R ++ fCF (andn p (one (lowS p))) R 4 := by
  have hs := lowS_lt p
  have hb := lowS_bit hp h
  obtain ⟨k, hk⟩ : ∃ k, 3 - k = lowS p ∧ k ≤ 3 := ⟨3 - lowS p, by omega⟩
  have e1 : fCF p R 4 = fCF p R (k + 1) := by
    have := fCF_up (p := p) R (3 - k) (k + 1) (by omega) (fun s h1 h2 => lowS_below p s (by omega))
    rw [show k + 1 + (3 - k) = 4 from by omega] at this
    exact this
  have e2 : fCF (andn p (one (lowS p))) R 4 = fCF (andn p (one (lowS p))) R k := by
    have := fCF_up (p := andn p (one (lowS p))) R (4 - k) k (by omega) (fun s h1 h2 => by
      rw [andn_bit]
      by_cases e : lowS p = s
      · simp [e]
      · rw [lowS_below p s (by omega)]; rfl)
    rw [show k + (4 - k) = 4 from by omega] at this
    exact this
  rw [e1, e2, fCF, hk.1, if_pos hb]
  congr 1
  refine fCF_congr R k (by omega) fun s h1 h2 => ?_
  rw [andn_bit]
  have : ¬ lowS p = s := by omega
  simp [this]
theorem andn_low_pc {p : Nat} (hp : p < 16) (h : p ≠ 0) : pc (andn p (one (lowS p))) < pc p := by
  refine pc_lt (andn_lt hp) hp ((imp_iff _ _).2 fun i hi => ?_) fun e => ?_
  · rw [andn_bit, Bool.and_eq_true] at hi; exact hi.1
  · have h1 := lowS_bit hp h
    rw [← e, andn_bit] at h1
    rw [e] at h1
    simp at h1
theorem fAssign_size (s t : Nat) : (fAssign s t).size = 5 := by
  unfold fAssign sA
  rw [ByteArray.size_append, txt_size]
  rfl
theorem fIf_size (s : Nat) (R : Nat → Nat) : (fIf s R).size = 7 := by
  unfold fIf
  rw [ByteArray.size_append, ByteArray.size_append, fAssign_size]
  rfl
theorem fCF_size (p : Nat) (R : Nat → Nat) : ∀ k, (fCF p R k).size ≤ 1 + 7 * k
  | 0 => Nat.le_refl _
  | k + 1 => by
    have ih := fCF_size p R k
    unfold fCF
    split
    · rw [ByteArray.size_append, fIf_size]; omega
    · omega
theorem fCF_yes {p : Nat} (R : Nat → Nat) {t : Nat} (ht : t < 4) (h : p.testBit t = true) : fCF p R (3 - t + 1) = fIf t R ++ fCF p R (3 - t) := by
  rw [fCF, show 3 - (3 - t) = t from by omega, if_pos h]
theorem fCF_no {p : Nat} (R : Nat → Nat) {t : Nat} (ht : t < 4) (h : p.testBit t = false) : fCF p R (3 - t + 1) = fCF p R (3 - t) := by
  rw [fCF, show 3 - (3 - t) = t from by omega, h, if_neg (by simp)]
theorem cfTo_step {p : Nat} {R : Nat → Nat} {t : Nat} (ht : t < 4) (h : cfTo p R (3 - t) = true) (h' : p.testBit t = false ∨ R t ≠ 0) : cfTo p R (3 - t + 1) = true := by
  rw [cfTo, show 3 - (3 - t) = t from by omega, h]
  rcases h' with h' | h'
  · rw [h']; rfl
  · simp [h']
theorem cfOk_no {p : Nat} {R : Nat → Nat} {t : Nat} (ht : t < 4) (h : p.testBit t = true) (h' : R t = 0) : cfOk p R = false := by
  cases e : cfOk p R
  · rfl
  · exact absurd h' ((cfTo_iff p R 4 (by omega)).1 e t (by omega) ht h)
theorem cfOk_sub {p q : Nat} {R : Nat → Nat} (h : imp q p) (e : cfOk p R = true) : cfOk q R = true :=
  (cfTo_iff q R 4 (by omega)).2 fun s h1 h2 h3 => (cfTo_iff p R 4 (by omega)).1 e s h1 h2 ((imp_iff _ _).1 h s h3)
theorem andn_imp (p q : Nat) : imp (andn p q) p := (imp_iff _ _).2 fun i h => by rw [testBit_andn, Bool.and_eq_true] at h; exact h.1
end Go.Proofs.Ytiaeakpgldpaiaa
