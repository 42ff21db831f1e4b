/- Contracts built of texts, and the code without choices: what the laws say of them. -/
import Derived.Test.YtiaeakpgldpaiaaQJ0
import Derived.Test.YtiaeakpgldpaiaaQJ1
import Derived.Test.YtiaeakpgldpaiaaQPlainU
namespace Go.Proofs.Ytiaeakpgldpaiaa
set_option linter.unusedSimpArgs false
set_option linter.unusedVariables false
set_option maxRecDepth 4000
open Go.RowKit
set_option linter.unusedSectionVars false

theorem byt_app_l {a b : ByteArray} {i : Nat} (h : i < a.size) : byt (a ++ b) i = byt a i := by
  have h1 : i < (a ++ b).size := by rw [ByteArray.size_append]; omega
  rw [← byt_get _ _ h1, ← byt_get _ _ h]
  exact ByteArray.getElem_append_left h
theorem byt_app_r {a b : ByteArray} {i : Nat} (h : i < b.size) : byt (a ++ b) (a.size + i) = byt b i := by
  have h1 : a.size + i < (a ++ b).size := by rw [ByteArray.size_append]; omega
  rw [← byt_get _ _ h1, ← byt_get _ _ h, ByteArray.getElem_append_right (by omega)]
  congr 1
  omega
/-- Reading does not count from where, the other way. -/
theorem rd_lift {c s : ByteArray} {k : Nat} : ∀ {f a : Nat} {x : Ct} {e : Nat}, rd c f a = some (x, e) → ∀ {b f' : Nat}, b = a + k → (∀ i, a ≤ i → i < e → byt s (i + k) = byt c i) → e + k ≤ s.size → s.size ≤ b + f' → rd s f' b = some (x, e + k)
  | 0, _, _, _, h, _, _, _, _, _, _ => by cases h
  | f + 1, a, x, e, h, b, f', hab, hbyt, he, hf => by
    have hgt := rd_gt h
    have hb : b < s.size := by omega
    obtain ⟨g, rfl⟩ : ∃ g, f' = g + 1 := ⟨f' - 1, by omega⟩
    have hop : byt s b = byt c a := by rw [hab]; exact hbyt a (Nat.le_refl _) (by omega)
    have hdig : ∀ n, a + 1 + n ≤ e → digs c (a + 1) n = true → digs s (b + 1) n = true ∧ digF s (b + 1) n = digF c (a + 1) n := by
      intro n hn hd
      obtain ⟨h1, h2⟩ := (digs_iff _ _ _).1 hd
      have hb' : ∀ i, i < n → byt s (b + 1 + i) = byt c (a + 1 + i) := fun i hi => by
        rw [← hbyt (a + 1 + i) (by omega) (by omega), hab]
        congr 1; omega
      refine ⟨(digs_iff _ _ _).2 ⟨by omega, fun i hi => by rw [hb' i hi]; exact h2 i hi⟩, ?_⟩
      funext i
      unfold digF
      by_cases hi : i < n
      · rw [if_pos hi, if_pos hi]; unfold dig; rw [hb' i hi]
      · rw [if_neg hi, if_neg hi]
    cases hl : leafD (byt c a) with
    | some n =>
      rw [rd_leaf (by omega) hl] at h
      split at h
      · rename_i hd
        cases h
        obtain ⟨h1, h2⟩ := hdig n (Nat.le_refl _) hd
        rw [rd_leaf hb (by rw [hop]; exact hl), if_pos h1, h2, hop]
        congr 2; omega
      · cases h
    | none =>
      cases hu : unD (byt c a) with
      | some n =>
        rw [rd_un (by omega) hl hu] at h
        split at h
        · rename_i hd
          split at h
          · rename_i x' e' hr
            cases h
            have hg2 := rd_gt hr
            obtain ⟨h1, h2⟩ := hdig n (by omega) hd
            have h4 := rd_lift hr (b := b + 1 + n) (f' := g) (by omega) (fun i hi hi' => hbyt i (by omega) hi') he (by omega)
            rw [rd_un hb (by rw [hop]; exact hl) (by rw [hop]; exact hu), if_pos h1, h4, h2, hop]
          · cases h
        · cases h
      | none =>
        cases hbn : binD (byt c a) with
        | some n =>
          rw [rd_bin (by omega) hl hu hbn] at h
          split at h
          · rename_i hd
            split at h
            · rename_i x' e1 hr
              split at h
              · rename_i y' e2 hr2
                cases h
                have hg2 := rd_gt hr
                have hg3 := rd_gt hr2
                obtain ⟨h1, h2⟩ := hdig n (by omega) hd
                have h4 := rd_lift hr (b := b + 1 + n) (f' := g) (by omega) (fun i hi hi' => hbyt i (by omega) (by omega)) (by omega) (by omega)
                have h6 := rd_lift hr2 (b := e1 + k) (f' := g) rfl (fun i hi hi' => hbyt i (by omega) hi') he (by omega)
                rw [rd_bin hb (by rw [hop]; exact hl) (by rw [hop]; exact hu) (by rw [hop]; exact hbn), if_pos h1, h4]
                simp only [h6, h2, hop]
              · cases h
            · cases h
          · cases h
        | none => rw [rd_bad hl hu hbn] at h; cases h
/-- A head: a letter and its digits. -/
def hdT (op : UInt8) (n : Nat) (F : Nat → Nat) : ByteArray := (⟨#[op]⟩ : ByteArray) ++ txt n F
theorem hdT_size (op : UInt8) (n : Nat) (F : Nat → Nat) : (hdT op n F).size = 1 + n := by
  unfold hdT; rw [ByteArray.size_append, txt_size]; rfl
theorem hdT_op (op : UInt8) (n : Nat) (F : Nat → Nat) (t : ByteArray) : byt (hdT op n F ++ t) 0 = op := by
  rw [byt_app_l (by rw [hdT_size]; omega)]
  unfold hdT
  rw [byt_app_l (by show 0 < 1; omega)]
  rfl
theorem hdT_dig {op : UInt8} {n : Nat} {F : Nat → Nat} {t : ByteArray} {i : Nat} (hi : i < n) : byt (hdT op n F ++ t) (1 + i) = hexChr (F i) := by
  rw [byt_app_l (by rw [hdT_size]; omega)]
  unfold hdT
  have h := byt_app_r (a := ⟨#[op]⟩) (b := txt n F) (i := i) (by rw [txt_size]; exact hi)
  rw [show (⟨#[op]⟩ : ByteArray).size = 1 from rfl] at h
  rw [h, txt_byt n F i hi]
theorem hdT_digs {op : UInt8} {n : Nat} {F : Nat → Nat} {t : ByteArray} (hF : ∀ i, i < n → F i < 16) : digs (hdT op n F ++ t) 1 n = true ∧ digF (hdT op n F ++ t) 1 n = fun i => if i < n then F i else 0 := by
  constructor
  · refine (digs_iff _ _ _).2 ⟨by rw [ByteArray.size_append, hdT_size]; omega, fun i hi => ?_⟩
    rw [hdT_dig hi, hexVal_chr (hF i hi)]; omega
  · funext i
    unfold digF
    by_cases hi : i < n
    · rw [if_pos hi, if_pos hi]; unfold dig; rw [hdT_dig hi, hexNat_chr (hF i hi)]
    · rw [if_neg hi, if_neg hi]
theorem app_nil (t : ByteArray) : t ++ ⟨#[]⟩ = t := by
  apply ByteArray.ext
  simp
theorem reads_leaf {op : UInt8} {n : Nat} {F : Nat → Nat} (hl : leafD op = some n) (hF : ∀ i, i < n → F i < 16) : Reads (hdT op n F) (.leaf op (fun i => if i < n then F i else 0)) := by
  have hn := leafD_le hl
  refine ⟨by rw [hdT_size]; omega, ?_⟩
  have h0 := hdT_op op n F ⟨#[]⟩
  obtain ⟨h1, h2⟩ := hdT_digs (op := op) (t := ⟨#[]⟩) hF
  rw [app_nil] at h0 h1 h2
  rw [rd_leaf (f := 200) (by rw [hdT_size]; omega) (by rw [h0]; exact hl), h0, if_pos h1, h2, hdT_size]
theorem reads_bin {op : UInt8} {n p : Nat} {c d : ByteArray} {x y : Ct} (h0 : leafD op = none) (h1 : unD op = none) (h2 : binD op = some n) (hp : p < 16) (hc : Reads c x) (hd : Reads d y) (hs : 1 + n + c.size + d.size ≤ 200) : Reads ((hdT op n (fun _ => p) ++ c) ++ d) (.bin op (if 0 < n then p else 0) x y) := by
  have hsz : ((hdT op n (fun _ => p) ++ c) ++ d).size = 1 + n + c.size + d.size := by rw [ByteArray.size_append, ByteArray.size_append, hdT_size]
  refine ⟨by omega, ?_⟩
  have e0 : byt ((hdT op n (fun _ => p) ++ c) ++ d) 0 = op := by rw [ByteArray.append_assoc]; exact hdT_op _ _ _ _
  obtain ⟨e1, e2⟩ := hdT_digs (op := op) (n := n) (F := fun _ => p) (t := c ++ d) (fun _ _ => hp)
  rw [← ByteArray.append_assoc] at e1 e2
  have r1 := rd_lift (s := (hdT op n (fun _ => p) ++ c) ++ d) (k := 1 + n) hc.2 (b := 0 + 1 + n) (f' := 200) (by omega) (fun i _ hi => by
    rw [byt_app_l (by rw [ByteArray.size_append, hdT_size]; omega), Nat.add_comm i (1 + n), ← hdT_size op n (fun _ => p)]
    exact byt_app_r hi) (by omega) (by omega)
  have r2 := rd_lift (s := (hdT op n (fun _ => p) ++ c) ++ d) (k := c.size + (1 + n)) hd.2 (b := c.size + (1 + n)) (f' := 200) (by omega) (fun i _ hi => by
    rw [show i + (c.size + (1 + n)) = (hdT op n (fun _ => p) ++ c).size + i from by rw [ByteArray.size_append, hdT_size]; omega]
    exact byt_app_r hi) (by omega) (by omega)
  rw [rd_bin (f := 200) (by omega) (by rw [e0]; exact h0) (by rw [e0]; exact h1) (by rw [e0]; exact h2), if_pos e1, r1]
  simp only [r2, e0, e2, hsz]
  congr 2
  omega
theorem ctT_reads {s : ByteArray} {x : Ct} (h : Reads s x) : ctOk s = true ∧ ctT s = x.tr := by
  have hx := (ctOf_iff s x).2 h
  unfold ctOk ctT
  rw [hx]
  exact ⟨rfl, rfl⟩
/-- Two contracts in sequence. -/
theorem ct_seq {c d : ByteArray} (hc : ctOk c = true) (hd : ctOk d = true) (hs : c.size + d.size < 190) : ctOk (((⟨#[59]⟩ : ByteArray) ++ c) ++ d) = true ∧ ∀ q, ctT (((⟨#[59]⟩ : ByteArray) ++ c) ++ d) q = ctT c (ctT d q) := by
  obtain ⟨x, _, hx, rx⟩ := ctOk_some hc
  obtain ⟨y, _, hy, ry⟩ := ctOk_some hd
  have h := reads_bin (op := 59) (n := 0) (p := 0) (by decide) (by decide) (by decide) (by omega) rx ry (by omega)
  have e : hdT 59 0 (fun _ => 0) = (⟨#[59]⟩ : ByteArray) := app_nil _
  rw [e] at h
  obtain ⟨h1, h2⟩ := ctT_reads h
  refine ⟨h1, fun q => ?_⟩
  rw [h2, hx, hy]
  rfl
/-- The contract of a specification. -/
theorem ct_code {p : Nat} {r : ByteArray} (hp : p < 16) (hr : relOk r = true) : ctOk (fCode p r) = true ∧ ∀ q, ctT (fCode p r) q = fSpec p (dig r) q := by
  have a1 := reads_leaf (op := 33) (n := 1) (F := fun _ => p) (by decide) (fun _ _ => hp)
  have a2 := reads_leaf (op := 68) (n := 4) (F := dig r) (by decide) (fun i _ => dig_lt r i)
  have h := reads_bin (op := 59) (n := 0) (p := 0) (by decide) (by decide) (by decide) (by omega) a1 a2 (by rw [hdT_size, hdT_size]; omega)
  have e : hdT 59 0 (fun _ => 0) = (⟨#[59]⟩ : ByteArray) := app_nil _
  have e1 : hdT 33 1 (fun _ => p) = (⟨#[33]⟩ : ByteArray) ++ ⟨#[hexChr p]⟩ := rfl
  have e2 : hdT 68 4 (dig r) = (⟨#[68]⟩ : ByteArray) ++ r := by unfold hdT; rw [txt_rel hr]
  rw [e, e1, e2] at h
  have e3 : fCode p r = ((⟨#[59]⟩ : ByteArray) ++ ((⟨#[33]⟩ : ByteArray) ++ ⟨#[hexChr p]⟩)) ++ ((⟨#[68]⟩ : ByteArray) ++ r) := by
    unfold fCode
    rw [show (⟨#[59, 33]⟩ : ByteArray) = (⟨#[59]⟩ : ByteArray) ++ ⟨#[33]⟩ from rfl]
    simp only [ByteArray.append_assoc]
  rw [← e3] at h
  obtain ⟨h1, h2⟩ := ctT_reads h
  refine ⟨h1, fun q => ?_⟩
  rw [h2]
  show p &&& fBox (fun i => if i < 4 then dig r i else 0) q = p &&& fBox (dig r) q
  rw [fBox_congr q fun s hs => if_pos hs]
/-- The code without choices, as a contract. -/
def cfCt (p : Nat) (R : Nat → Nat) : Nat → Ct
  | 0 => .leaf 115 (fun i => if i < 0 then 0 else 0)
  | k + 1 => if p.testBit (3 - k) then .bin 105 (if 0 < 1 then one (3 - k) else 0) (.leaf 65 (fun i => if i < 4 then one (if i = 3 - k then lowS (R (3 - k)) else i) else 0)) (cfCt p R k) else cfCt p R k
theorem asg_lt (s t : Nat) (i : Nat) (hi : i < 4) (ht : t < 4) : one (if i = s then t else i) < 16 := one_lt (by split <;> assumption)
theorem reads_cf (p : Nat) (R : Nat → Nat) : ∀ k, k ≤ 4 → Reads (fCF p R k) (cfCt p R k)
  | 0, _ => reads_leaf (op := 115) (n := 0) (F := fun _ => 0) (by decide) (fun _ h => by omega)
  | k + 1, hk => by
    have ih := reads_cf p R k (by omega)
    have hz := fCF_size p R k
    unfold fCF cfCt
    split
    · have ha := reads_leaf (op := 65) (n := 4) (F := fun i => one (if i = 3 - k then lowS (R (3 - k)) else i)) (by decide) (fun i hi => asg_lt _ _ i hi (lowS_lt _))
      exact reads_bin (op := 105) (n := 1) (p := one (3 - k)) (by decide) (by decide) (by decide) (one_lt (by omega)) ha ih (by have := fAssign_size (3 - k) (lowS (R (3 - k))); show 1 + 1 + (fAssign (3 - k) (lowS (R (3 - k)))).size + _ ≤ 200; omega)
    · exact ih
/-- Where the code goes from a state. -/
def tgt (p : Nat) (R : Nat → Nat) (s : Nat) : Nat := if p.testBit s then lowS (R s) else s
theorem tgt_lt (p : Nat) (R : Nat → Nat) {s : Nat} (hs : s < 4) : tgt p R s < 4 := by
  unfold tgt; split
  · exact lowS_lt _
  · exact hs
theorem cf_bit {p : Nat} {R : Nat → Nat} {q : Nat} (hq : q < 16) {s : Nat} (hs : s < 4) : ∀ k, k ≤ 4 → ((cfCt p R k).tr q).testBit s = if 4 - k ≤ s then q.testBit (tgt p R s) else q.testBit s
  | 0, _ => by
    rw [if_neg (by omega)]
    show (15 &&& q).testBit s = _
    rw [all_and hq]
  | k + 1, hk => by
    have ih := cf_bit (p := p) (R := R) hq hs k (by omega)
    unfold cfCt
    split
    · rename_i hp
      show (turn (one (3 - k)) (fDia (fun i => if i < 4 then one (if i = 3 - k then lowS (R (3 - k)) else i) else 0) q 4) ((cfCt p R k).tr q)).testBit s = _
      rw [bit_turn, testBit_one]
      by_cases e : 3 - k = s
      · subst e
        rw [if_pos (by omega), decide_eq_true rfl]
        have hd : (fDia (fun i => if i < 4 then one (if i = 3 - k then lowS (R (3 - k)) else i) else 0) q 4).testBit (3 - k) = q.testBit (lowS (R (3 - k))) := by
          unfold fDia
          rw [mkC_bit _ hs, Bool.eq_iff_iff, decide_eq_true_iff]
          simp only [if_pos hs, if_true]
          rw [Nat.and_comm, and_one_iff]
        rw [hd]
        unfold tgt
        rw [if_pos hp]
        simp
      · rw [decide_eq_false e, ih]
        by_cases h : 4 - k ≤ s
        · rw [if_pos h, if_pos (by omega)]; simp
        · rw [if_neg h, if_neg (by omega)]; simp
    · rename_i hp
      rw [ih]
      by_cases e : 3 - k = s
      · subst e
        rw [if_neg (by omega), if_pos (by omega)]
        unfold tgt
        rw [if_neg hp]
      · by_cases h : 4 - k ≤ s
        · rw [if_pos h, if_pos (by omega)]
        · rw [if_neg h, if_neg (by omega)]
theorem cf_ok (p : Nat) (R : Nat → Nat) : ctOk (fCF p R 4) = true := (ctT_reads (reads_cf p R 4 (Nat.le_refl _))).1
theorem cf_at {p : Nat} {R : Nat → Nat} {q : Nat} (hq : q < 16) {s : Nat} (hs : s < 4) : (ctT (fCF p R 4) q).testBit s = q.testBit (tgt p R s) := by
  rw [(ctT_reads (reads_cf p R 4 (Nat.le_refl _))).2, cf_bit hq hs 4 (Nat.le_refl _), if_pos (by omega)]
/-- What goes from each state to one state. -/
theorem fn_and {T : Nat → Nat} {g : Nat → Nat} (hb : Bd T) (h : ∀ q s, q < 16 → s < 4 → (T q).testBit s = q.testBit (g s)) (p q : Nat) (hp : p < 16) (hq : q < 16) : T (p &&& q) = (T p &&& T q) :=
  eq_of_bits (n := 4) (hb _ (and_lt hp)) (and_lt (hb p hp)) fun i hi => by rw [h _ i (and_lt hp) hi, Nat.testBit_and, Nat.testBit_and, h p i hp hi, h q i hq hi]
theorem fn_or {T : Nat → Nat} {g : Nat → Nat} (hb : Bd T) (h : ∀ q s, q < 16 → s < 4 → (T q).testBit s = q.testBit (g s)) (p q : Nat) (hp : p < 16) (hq : q < 16) : T (p ||| q) = (T p ||| T q) :=
  eq_of_bits (n := 4) (hb _ (or_lt hp hq)) (or_lt (hb p hp) (hb q hq)) fun i hi => by rw [h _ i (or_lt hp hq) hi, Nat.testBit_or, Nat.testBit_or, h p i hp hi, h q i hq hi]
theorem fn_zero {T : Nat → Nat} {g : Nat → Nat} (hb : Bd T) (h : ∀ q s, q < 16 → s < 4 → (T q).testBit s = q.testBit (g s)) : T 0 = 0 :=
  eq_of_bits (n := 4) (hb 0 (by omega)) (by omega) fun i hi => by rw [h 0 i (by omega) hi, Nat.zero_testBit, Nat.zero_testBit]
theorem fn_all {T : Nat → Nat} {g : Nat → Nat} (hb : Bd T) (hg : ∀ s, s < 4 → g s < 4) (h : ∀ q s, q < 16 → s < 4 → (T q).testBit s = q.testBit (g s)) : T 15 = 15 := by
  have key : ∀ i, i < 4 → (15 : Nat).testBit i = true := by decide
  exact eq_of_bits (n := 4) (hb 15 (by omega)) (by omega) fun i hi => by rw [h 15 i (by omega) hi, key i hi, key _ (hg i hi)]
theorem cf_meets {p : Nat} {R : Nat → Nat} (hp : p < 16) (hR : ∀ s, R s < 16) (hc : cfOk p R = true) : refB (fSpec p R) (ctT (fCF p R 4)) 16 = true := (meets_iff hp hR (ctT_mono _)).2 fun s hs => by
  have hs4 := lt_four hp hs
  rw [cf_at (hR s) hs4]
  unfold tgt
  rw [if_pos hs]
  exact lowS_bit (hR s) ((cfTo_iff p R 4 (by omega)).1 hc s (by omega) hs4 hs)
end Go.Proofs.Ytiaeakpgldpaiaa
