/- Mathematics of contracts: their trees, their texts, how a text is read, and what a tree tells. -/
import Derived.Test.YtiaeakpgldpaiaaPlain3
import Derived.Test.YtiaeakpgldpaiaaPlain4
namespace Go.Proofs.Ytiaeakpgldpaiaa
set_option linter.unusedSimpArgs false
set_option linter.unusedVariables false
set_option maxRecDepth 4000

/-- A contract: a letter with digits, and none, one or two parts. -/
inductive Ct where
  | leaf (op : UInt8) (F : Nat → Nat)
  | un (op : UInt8) (p : Nat) (x : Ct)
  | bin (op : UInt8) (p : Nat) (x y : Ct)
/-- How many digits stand behind a letter that begins none, one or two parts. -/
def leafD (op : UInt8) : Option Nat := if op = 115 ∨ op = 97 ∨ op = 109 then some 0 else if op = 33 ∨ op = 63 then some 1 else if op = 65 ∨ op = 68 then some 4 else none
def unD (op : UInt8) : Option Nat := if op = 119 then some 1 else if op = 42 ∨ op = 43 then some 0 else none
def binD (op : UInt8) : Option Nat := if op = 105 then some 1 else if op = 59 ∨ op = 38 ∨ op = 124 then some 0 else none
/-- Are there n digits at a place? -/
def digs (c : ByteArray) (at_ n : Nat) : Bool := decide (at_ + n ≤ c.size) && (List.range n).all fun i => decide (0 ≤ hexVal (byt c (at_ + i)))
theorem digs_iff (c : ByteArray) (a n : Nat) : digs c a n = true ↔ a + n ≤ c.size ∧ ∀ i, i < n → 0 ≤ hexVal (byt c (a + i)) := by simp [digs]
/-- The digits from a place on. -/
def digF (c : ByteArray) (a n : Nat) : Nat → Nat := fun i => if i < n then dig c (a + i) else 0
/-- The contract that begins at a place, and the place behind it. -/
def rd (c : ByteArray) : Nat → Nat → Option (Ct × Nat)
  | 0, _ => none
  | f + 1, a =>
    if c.size ≤ a then none else
    match leafD (byt c a) with
    | some n => if digs c (a + 1) n then some (.leaf (byt c a) (digF c (a + 1) n), a + 1 + n) else none
    | none =>
      match unD (byt c a) with
      | some n => if digs c (a + 1) n then
          (match rd c f (a + 1 + n) with
           | some (x, e) => some (.un (byt c a) (digF c (a + 1) n 0) x, e)
           | none => none) else none
      | none =>
        match binD (byt c a) with
        | some n => if digs c (a + 1) n then
            (match rd c f (a + 1 + n) with
             | some (x, e) =>
               (match rd c f e with
                | some (y, e') => some (.bin (byt c a) (digF c (a + 1) n 0) x y, e')
                | none => none)
             | none => none) else none
        | none => none
theorem rd_gt {c : ByteArray} : ∀ {f a : Nat} {x : Ct} {e : Nat}, rd c f a = some (x, e) → a < e ∧ e ≤ c.size
  | 0, _, _, _, h => by cases h
  | f + 1, a, x, e, h => by
    unfold rd at h
    split at h
    · cases h
    · rename_i ha
      split at h
      · split at h
        · rename_i hd
          have := ((digs_iff _ _ _).1 hd).1
          cases h; omega
        · cases h
      · split at h
        · split at h
          · rename_i hd
            split at h
            · rename_i x' e' hr
              cases h
              have := rd_gt hr
              omega
            · cases h
          · cases h
        · split at h
          · split at h
            · rename_i hd
              split at h
              · rename_i x' e1 hr
                split at h
                · rename_i y' e2 hr2
                  cases h
                  have := rd_gt hr
                  have := rd_gt hr2
                  omega
                · cases h
              · cases h
            · cases h
          · cases h
/-- What a contract tells for a condition. -/
def Ct.tr : Ct → Nat → Nat
  | .leaf op F => fun q =>
    if op = 115 then 15 &&& q else if op = 97 then 0 &&& q else if op = 109 then q ||| andn 15 0
    else if op = 33 then F 0 &&& q else if op = 63 then q ||| andn 15 (F 0)
    else if op = 65 then fDia F q 4 else fBox F q
  | .un op p x => fun q => if op = 119 then lfp (eqW p x.tr q) else if op = 42 then lfp (eqA x.tr q) else lfp (eqO x.tr q)
  | .bin op p x y => fun q => if op = 59 then x.tr (y.tr q) else if op = 38 then x.tr q &&& y.tr q else if op = 124 then x.tr q ||| y.tr q else turn p (x.tr q) (y.tr q)
/-- A contract as it can be read: its letters are letters, its digits digits. -/
def Ct.wf : Ct → Prop
  | .leaf op F => ∃ n, leafD op = some n ∧ (∀ i, F i < 16) ∧ ∀ i, n ≤ i → F i = 0
  | .un op p x => ∃ n, leafD op = none ∧ unD op = some n ∧ p < 16 ∧ (n = 0 → p = 0) ∧ x.wf
  | .bin op p x y => ∃ n, leafD op = none ∧ unD op = none ∧ binD op = some n ∧ p < 16 ∧ (n = 0 → p = 0) ∧ x.wf ∧ y.wf
theorem digF_lt (c : ByteArray) (a n i : Nat) : digF c a n i < 16 := by unfold digF; split; exact dig_lt _ _; omega
theorem rd_wf {c : ByteArray} : ∀ {f a : Nat} {x : Ct} {e : Nat}, rd c f a = some (x, e) → x.wf
  | 0, _, _, _, h => by cases h
  | f + 1, a, x, e, h => by
    unfold rd at h
    split at h
    · cases h
    · split at h
      · rename_i n hn
        split at h
        · cases h
          exact ⟨n, hn, digF_lt _ _ _, fun i hi => by unfold digF; rw [if_neg (by omega)]⟩
        · cases h
      · rename_i hl
        split at h
        · rename_i n hn
          split at h
          · split at h
            · rename_i x' e' hr
              cases h
              exact ⟨n, hl, hn, digF_lt _ _ _ _, fun h0 => by subst h0; rfl, rd_wf hr⟩
            · cases h
          · cases h
        · rename_i hu
          split at h
          · rename_i n hn
            split at h
            · split at h
              · rename_i x' e1 hr
                split at h
                · rename_i y' e2 hr2
                  cases h
                  exact ⟨n, hl, hu, hn, digF_lt _ _ _ _, fun h0 => by subst h0; rfl, rd_wf hr, rd_wf hr2⟩
                · cases h
              · cases h
            · cases h
          · cases h
theorem Ct.tr_lt : ∀ {x : Ct}, x.wf → ∀ q, q < 16 → x.tr q < 16
  | .leaf op F, h, q, hq => by
    obtain ⟨n, _, hF, _⟩ := h
    unfold Ct.tr
    repeat' split
    · exact and_lt (by omega)
    · exact and_lt (by omega)
    · exact or_lt hq (andn_lt (by omega))
    · exact and_lt (hF 0)
    · exact or_lt hq (andn_lt (by omega))
    · exact fDia_lt _ _
    · exact fBox_lt _ _
  | .un op p x, h, q, hq => by
    obtain ⟨n, _, _, hp, _, hx⟩ := h
    unfold Ct.tr
    repeat' split
    · exact lfp_lt (eqW_bd hp hq)
    · exact lfp_lt (eqA_bd hq)
    · exact lfp_lt (eqO_bd (fun k hk => Ct.tr_lt hx k hk) hq)
  | .bin op p x y, h, q, hq => by
    obtain ⟨n, _, _, _, hp, _, hx, hy⟩ := h
    have h1 := Ct.tr_lt hx q hq
    have h2 := Ct.tr_lt hy q hq
    unfold Ct.tr
    repeat' split
    · exact Ct.tr_lt hx _ h2
    · exact and_lt h1
    · exact or_lt h1 h2
    · exact turn_lt hp h2
theorem Ct.tr_bd {x : Ct} (h : x.wf) : Bd x.tr := fun q hq => Ct.tr_lt h q hq
theorem lfp_mono {f g : Nat → Nat} (hf : Bd f) (hg : Bd g) (hm : Mono g) (h : ∀ y, y < 16 → imp (f y) (g y)) : imp (lfp f) (lfp g) := lfp_imp hf hg hm h 4
theorem fDia_mono (R : Nat → Nat) : Mono (fun q => fDia R q 4) := fun p q _ _ h => by
  refine (imp_iff _ _).2 fun i hi => ?_
  show (fDia R q 4).testBit i = true
  unfold fDia at hi ⊢
  rw [testBit_mkC, Bool.and_eq_true, decide_eq_true_iff, decide_eq_true_iff] at hi ⊢
  refine ⟨hi.1, fun e => hi.2 ?_⟩
  apply Nat.eq_of_testBit_eq
  intro j
  have ej : (R i &&& q).testBit j = false := by rw [e]; simp
  rw [Nat.testBit_and] at ej ⊢
  rw [Nat.zero_testBit]
  cases h1 : (R i).testBit j
  · rfl
  · rw [h1] at ej
    cases h2 : p.testBit j
    · rfl
    · have := (imp_iff _ _).1 h j h2
      rw [this] at ej; cases ej
theorem imp_andn_l {a p q : Nat} (h : imp p q) (e : andn a p = 0) : andn a q = 0 := imp_trans (p := a) (q := p) (r := q) e h
theorem fBox_mono (R : Nat → Nat) : Mono (fun q => fBox R q) := fun p q _ _ h => by
  refine (imp_iff _ _).2 fun i hi => ?_
  show (fBox R q).testBit i = true
  unfold fBox at hi ⊢
  rw [testBit_mkC, Bool.and_eq_true, decide_eq_true_iff, decide_eq_true_iff] at hi ⊢
  exact ⟨hi.1, imp_andn_l h hi.2⟩
theorem Ct.tr_mono : ∀ {x : Ct}, x.wf → Mono x.tr
  | .leaf op F, h => fun p q hp hq hi => by
    unfold Ct.tr
    repeat' split
    · exact imp_and (imp_refl _) hi
    · exact imp_and (imp_refl _) hi
    · exact imp_or hi (imp_refl _)
    · exact imp_and (imp_refl _) hi
    · exact imp_or hi (imp_refl _)
    · exact fDia_mono F p q hp hq hi
    · exact fBox_mono F p q hp hq hi
  | .un op b x, h => fun p q hp hq hi => by
    obtain ⟨n, _, _, hb, _, hx⟩ := h
    have hm := Ct.tr_mono hx
    have hd := Ct.tr_bd hx
    unfold Ct.tr
    repeat' split
    · exact fWhile_mono hb hm p q hp hq hi
    · exact lfp_mono (eqA_bd hp) (eqA_bd hq) (eqA_mono hm q) fun y _ => imp_and (imp_refl _) hi
    · exact lfp_mono (eqO_bd hd hp) (eqO_bd hd hq) (eqO_mono hm q) fun y _ => imp_or (imp_refl _) hi
  | .bin op b x y, h => fun p q hp hq hi => by
    obtain ⟨n, _, _, _, hb, _, hx, hy⟩ := h
    have h1 := Ct.tr_mono hx p q hp hq hi
    have h2 := Ct.tr_mono hy p q hp hq hi
    unfold Ct.tr
    repeat' split
    · exact Ct.tr_mono hx _ _ (Ct.tr_lt hy p hp) (Ct.tr_lt hy q hq) h2
    · exact imp_and h1 h2
    · exact imp_or h1 h2
    · exact imp_turn h1 h2
/-- The text of a contract. -/
def Ct.str : Ct → ByteArray
  | .leaf op F => (⟨#[op]⟩ : ByteArray) ++ txt ((leafD op).getD 0) F
  | .un op p x => ((⟨#[op]⟩ : ByteArray) ++ txt ((unD op).getD 0) (fun _ => p)) ++ x.str
  | .bin op p x y => (((⟨#[op]⟩ : ByteArray) ++ txt ((binD op).getD 0) (fun _ => p)) ++ x.str) ++ y.str
/-- A whole contract: not too long, read to its end. -/
def ctOf (c : ByteArray) : Option Ct :=
  if c.size ≤ 200 then
    (match rd c (c.size + 1) 0 with
     | some (x, e) => if e = c.size then some x else none
     | none => none)
  else none
def ctOk (c : ByteArray) : Bool := (ctOf c).isSome
end Go.Proofs.Ytiaeakpgldpaiaa
