/- Joined texts: Plain7, Plain8, Plain9. -/
import Derived.Test.YtiaeakpgldpaiaaQJ1
namespace Go.Proofs.Ytiaeakpgldpaiaa
set_option linter.unusedSimpArgs false
set_option linter.unusedVariables false
set_option maxRecDepth 4000

theorem rd_leaf {c : ByteArray} {f a n : Nat} (ha : a < c.size) (h : leafD (byt c a) = some n) : rd c (f + 1) a = if digs c (a + 1) n then some (.leaf (byt c a) (digF c (a + 1) n), a + 1 + n) else none := by
  rw [rd, if_neg (by omega), h]
theorem rd_un {c : ByteArray} {f a n : Nat} (ha : a < c.size) (h0 : leafD (byt c a) = none) (h : unD (byt c a) = some n) : rd c (f + 1) a = if digs c (a + 1) n then
    (match rd c f (a + 1 + n) with
     | some (x, e) => some (.un (byt c a) (digF c (a + 1) n 0) x, e)
     | none => none) else none := by
  rw [rd, if_neg (by omega), h0]
  simp only [h]
  rfl
theorem rd_bin {c : ByteArray} {f a n : Nat} (ha : a < c.size) (h0 : leafD (byt c a) = none) (h1 : unD (byt c a) = none) (h : binD (byt c a) = some n) : rd c (f + 1) a = if digs c (a + 1) n then
    (match rd c f (a + 1 + n) with
     | some (x, e) =>
       (match rd c f e with
        | some (y, e') => some (.bin (byt c a) (digF c (a + 1) n 0) x y, e')
        | none => none)
     | none => none) else none := by
  rw [rd, if_neg (by omega), h0]
  simp only [h1, h]
  rfl
theorem rd_bad {c : ByteArray} {f a : Nat} (h0 : leafD (byt c a) = none) (h1 : unD (byt c a) = none) (h : binD (byt c a) = none) : rd c (f + 1) a = none := by
  rw [rd, h0]
  simp only [h1, h]
  split <;> rfl
theorem rd_end {c : ByteArray} {f a : Nat} (ha : c.size ≤ a) : rd c f a = none := by
  cases f with
  | zero => rfl
  | succ f => rw [rd, if_pos ha]
/-- Where a contract ends, or -1. -/
def endI : Option (Ct × Nat) → Int
  | some (_, e) => (e : Int)
  | none => -1
def skipI (c : ByteArray) (a n : Nat) : Int := if digs c a n then ((a + n : Nat) : Int) else -1
theorem digs_zero {c : ByteArray} {a : Nat} (h : a ≤ c.size) : digs c a 0 = true := by simp [digs, h]
theorem byt_ext {c : ByteArray} {a b i : Nat} (h : a + i < b) (hb : b ≤ c.size) : byt (c.extract a b) i = byt c (a + i) := by
  have h1 : i < (c.extract a b).size := by rw [ByteArray.size_extract]; omega
  rw [← byt_get _ _ h1, ← byt_get c (a + i) (by omega)]
  exact ByteArray.getElem_extract h1
theorem ext_size {c : ByteArray} {a b : Nat} (hb : b ≤ c.size) : (c.extract a b).size = b - a := by rw [ByteArray.size_extract]; omega
theorem digs_ext {c : ByteArray} {a n : Nat} (h : a + n ≤ c.size) : (hexAll (c.extract a (a + n)) && decide (((c.extract a (a + n)).size : Int) = (n : Int))) = digs c a n := by
  have hs : (c.extract a (a + n)).size = n := by rw [ext_size h]; omega
  rw [Bool.eq_iff_iff, Bool.and_eq_true, decide_eq_true_iff, digs_iff]
  unfold hexAll
  rw [hs, hexTo_iff]
  constructor
  · rintro ⟨h1, _⟩
    exact ⟨h, fun i hi => by rw [← byt_ext (b := a + n) (by omega) h]; exact h1 i hi⟩
  · rintro ⟨_, h1⟩
    exact ⟨fun i hi => by rw [byt_ext (b := a + n) (by omega) h]; exact h1 i hi, rfl⟩
/-- Reading sees no more than what is read, and does not count from where. -/
theorem rd_move {c s : ByteArray} {k : Nat} : ∀ {f a : Nat} {x : Ct} {e : Nat}, rd c f a = some (x, e) → ∀ {b f' : Nat}, a = b + k → (∀ i, b ≤ i → i + k < e → byt s i = byt c (i + k)) → e ≤ s.size + k → s.size ≤ b + f' → ∃ e', e = e' + k ∧ rd s f' b = some (x, e')
  | 0, _, _, _, h, _, _, _, _, _, _ => by cases h
  | f + 1, a, x, e, h, b, f', hab, hbyt, he, hf => by
    have hgt := rd_gt h
    have hb : b < s.size := by omega
    obtain ⟨g, rfl⟩ : ∃ g, f' = g + 1 := ⟨f' - 1, by omega⟩
    have hop : byt s b = byt c a := by rw [hbyt b (Nat.le_refl _) (by omega), hab]
    have hdig : ∀ n, a + 1 + n ≤ e → digs c (a + 1) n = true → digs s (b + 1) n = true ∧ digF s (b + 1) n = digF c (a + 1) n := by
      intro n hn hd
      obtain ⟨h1, h2⟩ := (digs_iff _ _ _).1 hd
      have hb' : ∀ i, i < n → byt s (b + 1 + i) = byt c (a + 1 + i) := fun i hi => by
        rw [hbyt (b + 1 + i) (by omega) (by omega), hab]
        congr 1; omega
      refine ⟨(digs_iff _ _ _).2 ⟨by omega, fun i hi => by rw [hb' i hi]; exact h2 i hi⟩, ?_⟩
      funext i
      unfold digF
      by_cases hi : i < n
      · rw [if_pos hi, if_pos hi]; unfold dig; rw [hb' i hi]
      · rw [if_neg hi, if_neg hi]
    cases hl : leafD (byt c a) with
    | some n =>
      rw [rd_leaf (by omega) hl] at h
      split at h
      · rename_i hd
        cases h
        obtain ⟨h1, h2⟩ := hdig n (Nat.le_refl _) hd
        refine ⟨b + 1 + n, by omega, ?_⟩
        rw [rd_leaf hb (by rw [hop]; exact hl), if_pos h1, h2, hop]
      · cases h
    | none =>
      cases hu : unD (byt c a) with
      | some n =>
        rw [rd_un (by omega) hl hu] at h
        split at h
        · rename_i hd
          split at h
          · rename_i x' e' hr
            cases h
            have hg2 := rd_gt hr
            obtain ⟨h1, h2⟩ := hdig n (by omega) hd
            obtain ⟨e2, h3, h4⟩ := rd_move hr (b := b + 1 + n) (f' := g) (by omega) (fun i hi hi' => hbyt i (by omega) hi') he (by omega)
            refine ⟨e2, h3, ?_⟩
            rw [rd_un hb (by rw [hop]; exact hl) (by rw [hop]; exact hu), if_pos h1, h4, h2, hop]
          · cases h
        · cases h
      | none =>
        cases hbn : binD (byt c a) with
        | some n =>
          rw [rd_bin (by omega) hl hu hbn] at h
          split at h
          · rename_i hd
            split at h
            · rename_i x' e1 hr
              split at h
              · rename_i y' e2 hr2
                cases h
                have hg2 := rd_gt hr
                have hg3 := rd_gt hr2
                obtain ⟨h1, h2⟩ := hdig n (by omega) hd
                obtain ⟨e3, h3, h4⟩ := rd_move hr (b := b + 1 + n) (f' := g) (by omega) (fun i hi hi' => hbyt i (by omega) (by omega)) (by omega) (by omega)
                obtain ⟨e4, h5, h6⟩ := rd_move hr2 (b := e3) (f' := g) (by omega) (fun i hi hi' => hbyt i (by omega) hi') he (by omega)
                refine ⟨e4, h5, ?_⟩
                rw [rd_bin hb (by rw [hop]; exact hl) (by rw [hop]; exact hu) (by rw [hop]; exact hbn), if_pos h1, h4]
                simp only [h6, h2, hop]
              · cases h
            · cases h
          · cases h
        | none => rw [rd_bad hl hu hbn] at h; cases h
/-- A text of at most 200 bytes that is a contract from its first byte to its last. -/
def Reads (s : ByteArray) (x : Ct) : Prop := s.size ≤ 200 ∧ rd s 201 0 = some (x, s.size)
theorem Reads.part {s : ByteArray} {f a e : Nat} {x : Ct} (hs : s.size ≤ 200) (h : rd s f a = some (x, e)) : Reads (s.extract a e) x := by
  have hg := rd_gt h
  have hz : (s.extract a e).size = e - a := ext_size hg.2
  refine ⟨by omega, ?_⟩
  obtain ⟨e', h1, h2⟩ := rd_move (s := s.extract a e) (k := a) h (b := 0) (f' := 201) (by omega) (fun i _ hi => by rw [byt_ext (by omega) hg.2, Nat.add_comm]) (by omega) (by omega)
  rw [h2, hz]
  congr 2; omega
theorem Reads.fuel {s : ByteArray} {x : Ct} (h : Reads s x) : rd s (s.size + 1) 0 = some (x, s.size) := by
  obtain ⟨e', h1, h2⟩ := rd_move (s := s) (k := 0) h.2 (b := 0) (f' := s.size + 1) rfl (fun i _ _ => rfl) (by omega) (by omega)
  rw [h2, h1]; rfl
theorem Reads.wf {s : ByteArray} {x : Ct} (h : Reads s x) : x.wf := rd_wf h.2
theorem Reads.pos {s : ByteArray} {x : Ct} (h : Reads s x) : 0 < s.size := (rd_gt h.2).1
theorem Reads.leaf {s : ByteArray} {op : UInt8} {F : Nat → Nat} (h : Reads s (.leaf op F)) : ∃ n, byt s 0 = op ∧ leafD op = some n ∧ digs s 1 n = true ∧ F = digF s 1 n ∧ s.size = 1 + n := by
  have hp := h.pos
  have h2 := h.2
  cases hl : leafD (byt s 0) with
  | some n =>
    rw [rd_leaf hp hl] at h2
    split at h2
    · rename_i hd
      simp only [Option.some.injEq, Prod.mk.injEq, Ct.leaf.injEq] at h2
      exact ⟨n, h2.1.1, by rw [← h2.1.1]; exact hl, hd, h2.1.2.symm, by omega⟩
    · cases h2
  | none =>
    cases hu : unD (byt s 0) with
    | some n =>
      rw [rd_un hp hl hu] at h2
      split at h2
      · split at h2
        · simp at h2
        · cases h2
      · cases h2
    | none =>
      cases hb : binD (byt s 0) with
      | some n =>
        rw [rd_bin hp hl hu hb] at h2
        split at h2
        · split at h2
          · split at h2
            · simp at h2
            · cases h2
          · cases h2
        · cases h2
      | none => rw [rd_bad hl hu hb] at h2; cases h2
theorem Reads.un {s : ByteArray} {op : UInt8} {p : Nat} {x : Ct} (h : Reads s (.un op p x)) : ∃ n, byt s 0 = op ∧ leafD op = none ∧ unD op = some n ∧ digs s 1 n = true ∧ p = digF s 1 n 0 ∧ 1 + n < s.size ∧ rd s 200 (1 + n) = some (x, s.size) ∧ Reads (s.extract (1 + n) s.size) x := by
  have hp := h.pos
  have h2 := h.2
  cases hl : leafD (byt s 0) with
  | some n =>
    rw [rd_leaf hp hl] at h2
    split at h2
    · simp at h2
    · cases h2
  | none =>
    cases hu : unD (byt s 0) with
    | some n =>
      rw [rd_un hp hl hu] at h2
      split at h2
      · rename_i hd
        split at h2
        · rename_i x' e' hr
          simp only [Option.some.injEq, Prod.mk.injEq, Ct.un.injEq] at h2
          obtain ⟨⟨h3, h4, rfl⟩, rfl⟩ := h2
          rw [Nat.zero_add] at hr
          have hg := rd_gt hr
          exact ⟨n, h3, by rw [← h3]; exact hl, by rw [← h3]; exact hu, hd, h4.symm, hg.1, hr, Reads.part h.1 hr⟩
        · cases h2
      · cases h2
    | none =>
      cases hb : binD (byt s 0) with
      | some n =>
        rw [rd_bin hp hl hu hb] at h2
        split at h2
        · split at h2
          · split at h2
            · simp at h2
            · cases h2
          · cases h2
        · cases h2
      | none => rw [rd_bad hl hu hb] at h2; cases h2
theorem Reads.bin {s : ByteArray} {op : UInt8} {p : Nat} {x y : Ct} (h : Reads s (.bin op p x y)) : ∃ n m, byt s 0 = op ∧ leafD op = none ∧ unD op = none ∧ binD op = some n ∧ digs s 1 n = true ∧ p = digF s 1 n 0 ∧ 1 + n < m ∧ m < s.size ∧ rd s 200 (1 + n) = some (x, m) ∧ rd s 200 m = some (y, s.size) ∧ Reads (s.extract (1 + n) m) x ∧ Reads (s.extract m s.size) y := by
  have hp := h.pos
  have h2 := h.2
  cases hl : leafD (byt s 0) with
  | some n =>
    rw [rd_leaf hp hl] at h2
    split at h2
    · simp at h2
    · cases h2
  | none =>
    cases hu : unD (byt s 0) with
    | some n =>
      rw [rd_un hp hl hu] at h2
      split at h2
      · split at h2
        · simp at h2
        · cases h2
      · cases h2
    | none =>
      cases hb : binD (byt s 0) with
      | some n =>
        rw [rd_bin hp hl hu hb] at h2
        split at h2
        · rename_i hd
          split at h2
          · rename_i x' e1 hr
            split at h2
            · rename_i y' e2 hr2
              simp only [Option.some.injEq, Prod.mk.injEq, Ct.bin.injEq] at h2
              obtain ⟨⟨h3, h4, rfl, rfl⟩, rfl⟩ := h2
              rw [Nat.zero_add] at hr
              have hg := rd_gt hr
              have hg2 := rd_gt hr2
              exact ⟨n, e1, h3, by rw [← h3]; exact hl, by rw [← h3]; exact hu, by rw [← h3]; exact hb, hd, h4.symm, hg.1, hg2.1, hr, hr2, Reads.part h.1 hr, Reads.part h.1 hr2⟩
            · cases h2
          · cases h2
        · cases h2
      | none => rw [rd_bad hl hu hb] at h2; cases h2
theorem ctOf_iff (c : ByteArray) (x : Ct) : ctOf c = some x ↔ Reads c x := by
  unfold ctOf
  constructor
  · intro h
    split at h
    · rename_i hs
      split at h
      · rename_i x' e hr
        split at h
        · rename_i he
          cases h
          subst he
          obtain ⟨e', h1, h2⟩ := rd_move (s := c) (k := 0) hr (b := 0) (f' := 201) rfl (fun i _ _ => rfl) (by omega) (by omega)
          exact ⟨hs, by rw [h2, h1]; rfl⟩
        · cases h
      · cases h
    · cases h
  · intro h
    rw [if_pos h.1, h.fuel]
    simp
theorem ctOk_end (c : ByteArray) : ctOk c = (decide (c.size ≤ 200) && decide (endI (rd c 201 0) = (c.size : Int))) := by
  rw [Bool.eq_iff_iff, Bool.and_eq_true, decide_eq_true_iff, decide_eq_true_iff]
  unfold ctOk
  rw [Option.isSome_iff_exists]
  constructor
  · rintro ⟨x, hx⟩
    have h := (ctOf_iff c x).1 hx
    exact ⟨h.1, by rw [h.2]; rfl⟩
  · rintro ⟨h1, h2⟩
    cases hr : rd c 201 0 with
    | none => rw [hr] at h2; exfalso; have h3 : (-1 : Int) = (c.size : Int) := h2; omega
    | some r =>
      obtain ⟨x, e⟩ := r
      rw [hr] at h2
      have he : e = c.size := by have h3 : (e : Int) = (c.size : Int) := h2; omega
      subst he
      exact ⟨x, (ctOf_iff c x).2 ⟨h1, hr⟩⟩
/-- The letters, one by one, or none. -/
def noLetter (b : UInt8) : Prop := (b ≠ 115 ∧ b ≠ 97 ∧ b ≠ 109 ∧ b ≠ 33 ∧ b ≠ 63 ∧ b ≠ 65 ∧ b ≠ 68) ∧ (b ≠ 59 ∧ b ≠ 38 ∧ b ≠ 124 ∧ b ≠ 105 ∧ b ≠ 119 ∧ b ≠ 42 ∧ b ≠ 43)
theorem letters (b : UInt8) : (b = 115 ∨ b = 97 ∨ b = 109) ∨ (b = 33 ∨ b = 63) ∨ (b = 65 ∨ b = 68) ∨ (b = 59 ∨ b = 38 ∨ b = 124) ∨ b = 105 ∨ b = 119 ∨ (b = 42 ∨ b = 43) ∨ noLetter b := by
  unfold noLetter
  by_cases h1 : b = 115; · exact .inl (.inl h1)
  by_cases h2 : b = 97; · exact .inl (.inr (.inl h2))
  by_cases h3 : b = 109; · exact .inl (.inr (.inr h3))
  by_cases h4 : b = 33; · exact .inr (.inl (.inl h4))
  by_cases h5 : b = 63; · exact .inr (.inl (.inr h5))
  by_cases h6 : b = 65; · exact .inr (.inr (.inl (.inl h6)))
  by_cases h7 : b = 68; · exact .inr (.inr (.inl (.inr h7)))
  by_cases h8 : b = 59; · exact .inr (.inr (.inr (.inl (.inl h8))))
  by_cases h9 : b = 38; · exact .inr (.inr (.inr (.inl (.inr (.inl h9)))))
  by_cases h10 : b = 124; · exact .inr (.inr (.inr (.inl (.inr (.inr h10)))))
  by_cases h11 : b = 105; · exact .inr (.inr (.inr (.inr (.inl h11))))
  by_cases h12 : b = 119; · exact .inr (.inr (.inr (.inr (.inr (.inl h12)))))
  by_cases h13 : b = 42; · exact .inr (.inr (.inr (.inr (.inr (.inr (.inl (.inl h13)))))))
  by_cases h14 : b = 43; · exact .inr (.inr (.inr (.inr (.inr (.inr (.inl (.inr h14)))))))
  exact .inr (.inr (.inr (.inr (.inr (.inr (.inr ⟨⟨h1, h2, h3, h4, h5, h6, h7⟩, h8, h9, h10, h11, h12, h13, h14⟩))))))
theorem noLetter_leaf {b : UInt8} (h : noLetter b) : leafD b = none := by
  unfold leafD; obtain ⟨⟨h1, h2, h3, h4, h5, h6, h7⟩, _⟩ := h
  rw [if_neg (by simp [h1, h2, h3]), if_neg (by simp [h4, h5]), if_neg (by simp [h6, h7])]
theorem noLetter_un {b : UInt8} (h : noLetter b) : unD b = none := by
  unfold unD; obtain ⟨_, h8, h9, h10, h11, h12, h13, h14⟩ := h
  rw [if_neg h12, if_neg (by simp [h13, h14])]
theorem noLetter_bin {b : UInt8} (h : noLetter b) : binD b = none := by
  unfold binD; obtain ⟨_, h8, h9, h10, h11, h12, h13, h14⟩ := h
  rw [if_neg h11, if_neg (by simp [h8, h9, h10])]
/-- A byte is none of the letters, in the walk's spelling. -/
theorem byte_ne {b : UInt8} {n : Nat} (hn : n < 256) (h : b ≠ UInt8.ofNat n) : ((b.toNat : Int) == (n : Int)) = false := by
  rw [beq_eq_false_iff_ne]
  intro e
  apply h
  have e' : b.toNat = n := by omega
  rw [← e']
  simp
/-- How long a contract's head is. -/
def hdN (b : UInt8) : Nat := if b = 33 ∨ b = 63 ∨ b = 105 ∨ b = 119 then 2 else if b = 65 ∨ b = 68 then 5 else 1
theorem hdN_leaf {b : UInt8} {n : Nat} (h : leafD b = some n) : hdN b = 1 + n := by
  rcases letters b with (rfl | rfl | rfl) | (rfl | rfl) | (rfl | rfl) | (rfl | rfl | rfl) | rfl | rfl | (rfl | rfl) | hx
  case inr.inr.inr.inr.inr.inr.inr => rw [noLetter_leaf hx] at h; cases h
  all_goals (cases h; try rfl)
theorem hdN_un {b : UInt8} {n : Nat} (h : unD b = some n) : hdN b = 1 + n := by
  rcases letters b with (rfl | rfl | rfl) | (rfl | rfl) | (rfl | rfl) | (rfl | rfl | rfl) | rfl | rfl | (rfl | rfl) | hx
  case inr.inr.inr.inr.inr.inr.inr => rw [noLetter_un hx] at h; cases h
  all_goals (cases h; try rfl)
theorem hdN_bin {b : UInt8} {n : Nat} (h : binD b = some n) : hdN b = 1 + n := by
  rcases letters b with (rfl | rfl | rfl) | (rfl | rfl) | (rfl | rfl) | (rfl | rfl | rfl) | rfl | rfl | (rfl | rfl) | hx
  case inr.inr.inr.inr.inr.inr.inr => rw [noLetter_bin hx] at h; cases h
  all_goals (cases h; try rfl)
/-- The parts of a contract as texts, from a place on. -/
def Chain (s : ByteArray) : Nat → List ByteArray → Prop
  | a, [] => a = s.size
  | a, t :: ts => ∃ (e : Nat) (x : Ct), rd s 200 a = some (x, e) ∧ t = s.extract a e ∧ Chain s e ts
/-- What holds before a turn of a loop. -/
def turnU (op : UInt8) (p b q : Nat) : Nat := if op = 119 then turn p b q else if op = 42 then b &&& q else b ||| q
theorem turnU_lt {op : UInt8} {p b q : Nat} (hp : p < 16) (hb : b < 16) (hq : q < 16) : turnU op p b q < 16 := by
  unfold turnU
  split
  · exact turn_lt hp hq
  · split
    · exact and_lt hb
    · exact or_lt hb hq
theorem turnU_bd {op : UInt8} {p q : Nat} {T : Nat → Nat} (hp : p < 16) (hT : Bd T) (hq : q < 16) : Bd (fun y => turnU op p (T y) q) := fun y hy => turnU_lt hp (hT y hy) hq
theorem turnU_mono {op : UInt8} {p q : Nat} {T : Nat → Nat} (hm : Mono T) : Mono (fun y => turnU op p (T y) q) := fun x y hx hy h => by
  have h' := hm x y hx hy h
  show imp (turnU op p (T x) q) (turnU op p (T y) q)
  unfold turnU
  split
  · exact imp_turn h' (imp_refl _)
  · split
    · exact imp_and h' (imp_refl _)
    · exact imp_or h' (imp_refl _)
theorem Ct.tr_un (op : UInt8) (p : Nat) (x : Ct) (q : Nat) : (Ct.un op p x).tr q = lfp (fun y => turnU op p (x.tr y) q) := by
  rw [Ct.tr]
  unfold turnU
  by_cases h1 : op = 119
  · simp only [if_pos h1]; rfl
  · by_cases h2 : op = 42
    · simp only [if_neg h1, if_pos h2]; rfl
    · simp only [if_neg h1, if_neg h2]; rfl
theorem ite_turn {p a b : Nat} (hb : b < 16) : (p &&& a) ||| (andn 15 p &&& b) = turn p a b := by
  unfold turn
  congr 1
  rw [Nat.and_comm, and_andn hb]
end Go.Proofs.Ytiaeakpgldpaiaa
namespace Go.Proofs.Ytiaeakpgldpaiaa
set_option linter.unusedSimpArgs false
set_option linter.unusedVariables false
set_option maxRecDepth 4000

/-- How many parts a letter begins, or -1; how many digits. -/
def shpP (b : UInt8) : Int := match leafD b with
  | some _ => 0
  | none => match unD b with
    | some _ => 1
    | none => match binD b with
      | some _ => 2
      | none => -1
def shpD (b : UInt8) : Nat := match leafD b with
  | some n => n
  | none => match unD b with
    | some n => n
    | none => match binD b with
      | some n => n
      | none => 0
theorem shpP_leaf {b : UInt8} {n : Nat} (h : leafD b = some n) : shpP b = 0 ∧ shpD b = n := by unfold shpP shpD; rw [h]; exact ⟨rfl, rfl⟩
theorem shpP_un {b : UInt8} {n : Nat} (h0 : leafD b = none) (h : unD b = some n) : shpP b = 1 ∧ shpD b = n := by unfold shpP shpD; simp [h0, h]
theorem shpP_bin {b : UInt8} {n : Nat} (h0 : leafD b = none) (h1 : unD b = none) (h : binD b = some n) : shpP b = 2 ∧ shpD b = n := by unfold shpP shpD; simp [h0, h1, h]
theorem shpP_bad {b : UInt8} (h0 : leafD b = none) (h1 : unD b = none) (h : binD b = none) : shpP b = -1 ∧ shpD b = 0 := by unfold shpP shpD; simp [h0, h1, h]
theorem leafD_le {b : UInt8} {n : Nat} (h : leafD b = some n) : n ≤ 4 := by
  unfold leafD at h
  repeat' (split at h)
  all_goals (cases h <;> omega)
theorem unD_le {b : UInt8} {n : Nat} (h : unD b = some n) : n ≤ 1 := by
  unfold unD at h
  repeat' (split at h)
  all_goals (cases h <;> omega)
theorem binD_le {b : UInt8} {n : Nat} (h : binD b = some n) : n ≤ 1 := by
  unfold binD at h
  repeat' (split at h)
  all_goals (cases h <;> omega)
theorem shpD_le (b : UInt8) : shpD b ≤ 4 := by
  unfold shpD
  split
  · rename_i h; exact leafD_le h
  · split
    · rename_i h; have := unD_le h; omega
    · split
      · rename_i h; have := binD_le h; omega
      · omega
/-- A contract of a letter, digits and parts. -/
def mkCt (op : UInt8) (F : Nat → Nat) : List Ct → Ct
  | [] => .leaf op F
  | [x] => .un op (F 0) x
  | x :: y :: _ => .bin op (F 0) x y
/-- Several contracts, one behind the other. -/
def seqRd (c : ByteArray) (f : Nat) : Nat → Nat → Option (List Ct × Nat)
  | 0, a => some ([], a)
  | t + 1, a => match seqRd c f t a with
    | some (xs, e) => (match rd c f e with
      | some (x, e') => some (xs ++ [x], e')
      | none => none)
    | none => none
theorem seqRd_yes {c : ByteArray} {f t a e e' : Nat} {xs : List Ct} {x : Ct} (h : seqRd c f t a = some (xs, e)) (h' : rd c f e = some (x, e')) : seqRd c f (t + 1) a = some (xs ++ [x], e') := by
  rw [seqRd, h]; simp only [h']
theorem seqRd_no {c : ByteArray} {f t a e : Nat} {xs : List Ct} (h : seqRd c f t a = some (xs, e)) (h' : rd c f e = none) : ∀ k, seqRd c f (t + 1 + k) a = none
  | 0 => by rw [Nat.add_zero, seqRd, h]; simp only [h']
  | k + 1 => by rw [← Nat.add_assoc, seqRd, seqRd_no h h' k]
theorem rd_seq {c : ByteArray} {f a np : Nat} (ha : a < c.size) (hP : shpP (byt c a) = (np : Int)) : rd c (f + 1) a = if digs c (a + 1) (shpD (byt c a)) then (seqRd c f np (a + 1 + shpD (byt c a))).map (fun r => (mkCt (byt c a) (digF c (a + 1) (shpD (byt c a))) r.1, r.2)) else none := by
  cases hl : leafD (byt c a) with
  | some n =>
    obtain ⟨h1, h2⟩ := shpP_leaf hl
    have : np = 0 := by omega
    subst this
    rw [rd_leaf ha hl, h2]
    rfl
  | none =>
    cases hu : unD (byt c a) with
    | some n =>
      obtain ⟨h1, h2⟩ := shpP_un hl hu
      have : np = 1 := by omega
      subst this
      rw [rd_un ha hl hu, h2]
      simp only [seqRd]
      cases rd c f (a + 1 + n) with
      | none => rfl
      | some r => rfl
    | none =>
      cases hb : binD (byt c a) with
      | some n =>
        obtain ⟨h1, h2⟩ := shpP_bin hl hu hb
        have : np = 2 := by omega
        subst this
        rw [rd_bin ha hl hu hb, h2]
        simp only [seqRd]
        cases rd c f (a + 1 + n) with
        | none => rfl
        | some r =>
          obtain ⟨x, e⟩ := r
          simp only
          cases rd c f e with
          | none => rfl
          | some r => rfl
      | none =>
        obtain ⟨h1, _⟩ := shpP_bad hl hu hb
        omega
theorem shpP_cases (b : UInt8) : shpP b = -1 ∧ (∀ (c : ByteArray) (f a : Nat), byt c a = b → rd c (f + 1) a = none) ∨ ∃ np : Nat, np ≤ 2 ∧ shpP b = (np : Int) := by
  cases hl : leafD b with
  | some n => exact .inr ⟨0, by omega, (shpP_leaf hl).1⟩
  | none =>
    cases hu : unD b with
    | some n => exact .inr ⟨1, by omega, (shpP_un hl hu).1⟩
    | none =>
      cases hb : binD b with
      | some n => exact .inr ⟨2, by omega, (shpP_bin hl hu hb).1⟩
      | none => exact .inl ⟨(shpP_bad hl hu hb).1, fun c f a h => rd_bad (by rw [h]; exact hl) (by rw [h]; exact hu) (by rw [h]; exact hb)⟩
theorem digs_no {c : ByteArray} {a n j : Nat} (hj : j < n) (h : hexVal (byt c (a + j)) < 0) : digs c a n = false := by
  cases e : digs c a n
  · rfl
  · have := ((digs_iff _ _ _).1 e).2 j hj
    omega
theorem digs_far {c : ByteArray} {a n : Nat} (h : ¬ a + n ≤ c.size) : digs c a n = false := by
  cases e : digs c a n
  · rfl
  · exact absurd ((digs_iff _ _ _).1 e).1 h
end Go.Proofs.Ytiaeakpgldpaiaa
namespace Go.Proofs.Ytiaeakpgldpaiaa
set_option linter.unusedSimpArgs false
set_option linter.unusedVariables false
set_option maxRecDepth 4000

/-- What a text tells, if it is a contract. -/
def ctT (c : ByteArray) : Nat → Nat := match ctOf c with
  | some x => x.tr
  | none => fun _ => 0
theorem ctOk_some {c : ByteArray} (h : ctOk c = true) : ∃ x, ctOf c = some x ∧ ctT c = x.tr ∧ Reads c x := by
  unfold ctOk at h
  obtain ⟨x, hx⟩ := Option.isSome_iff_exists.1 h
  exact ⟨x, hx, by unfold ctT; rw [hx], (ctOf_iff c x).1 hx⟩
theorem ctOk_none {c : ByteArray} (h : ctOk c = false) : ctOf c = none := by
  unfold ctOk at h
  cases hc : ctOf c with
  | none => rfl
  | some x => rw [hc] at h; cases h
theorem ctT_lt (c : ByteArray) (q : Nat) (hq : q < 16) : ctT c q < 16 := by
  unfold ctT
  cases hc : ctOf c with
  | none => exact Nat.zero_lt_of_lt hq
  | some x => exact Ct.tr_lt ((ctOf_iff c x).1 hc).wf q hq
theorem ctT_bd (c : ByteArray) : Bd (ctT c) := fun q hq => ctT_lt c q hq
theorem ctT_mono (c : ByteArray) : Mono (ctT c) := by
  unfold ctT
  cases hc : ctOf c with
  | none => exact fun _ _ _ _ _ => imp_refl _
  | some x => exact Ct.tr_mono ((ctOf_iff c x).1 hc).wf
theorem ctOk_size {c : ByteArray} (h : ctOk c = true) : c.size ≤ 200 := by obtain ⟨x, _, _, h⟩ := ctOk_some h; exact h.1
/-- Is a table refined by another one, at the first n conditions? -/
def refB (T U : Nat → Nat) (n : Nat) : Bool := (List.range n).all fun i => decide (andn (T i) (U i) = 0)
theorem refB_iff (T U : Nat → Nat) (n : Nat) : refB T U n = true ↔ ∀ i, i < n → imp (T i) (U i) := by simp [refB, imp]
theorem refB_succ {T U : Nat → Nat} {n : Nat} (h : refB T U n = true) (h' : andn (T n) (U n) = 0) : refB T U (n + 1) = true :=
  (refB_iff _ _ _).2 fun i hi => by
    rcases Nat.lt_or_ge i n with h1 | h1
    · exact (refB_iff _ _ _).1 h i h1
    · obtain rfl : i = n := by omega
      exact h'
theorem refB_no {T U : Nat → Nat} {n k : Nat} (hk : k < n) (h : andn (T k) (U k) ≠ 0) : refB T U n = false := by
  cases e : refB T U n
  · rfl
  · exact absurd ((refB_iff _ _ _).1 e k hk) h
theorem refB_congr {T U T' U' : Nat → Nat} {n : Nat} (h : ∀ i, i < n → T i = T' i) (h' : ∀ i, i < n → U i = U' i) : refB T U n = refB T' U' n := by
  rw [Bool.eq_iff_iff, refB_iff, refB_iff]
  constructor
  · intro hh i hi; rw [← h i hi, ← h' i hi]; exact hh i hi
  · intro hh i hi; rw [h i hi, h' i hi]; exact hh i hi
theorem or_eq_iff (a b : Nat) : a ||| b = b ↔ imp a b := by
  rw [imp_iff]
  constructor
  · intro h i hi
    rw [← h, Nat.testBit_or, hi, Bool.true_or]
  · intro h
    apply Nat.eq_of_testBit_eq
    intro i
    rw [Nat.testBit_or]
    cases ha : a.testBit i
    · rw [Bool.false_or]
    · rw [h i ha]; rfl
/-- Does a table go through and, at the pairs looked at so far? -/
def conjRow (T : Nat → Nat) (p n : Nat) : Bool := (List.range n).all fun q => decide (T (p &&& q) = (T p &&& T q))
def conjTo (T : Nat → Nat) (n : Nat) : Bool := (List.range n).all fun p => conjRow T p 16
def conjB (T : Nat → Nat) : Bool := conjTo T 16
theorem conjRow_iff (T : Nat → Nat) (p n : Nat) : conjRow T p n = true ↔ ∀ q, q < n → T (p &&& q) = (T p &&& T q) := by simp [conjRow]
theorem conjTo_iff (T : Nat → Nat) (n : Nat) : conjTo T n = true ↔ ∀ p, p < n → conjRow T p 16 = true := by simp [conjTo]
theorem conjB_iff (T : Nat → Nat) : conjB T = true ↔ ∀ p q, p < 16 → q < 16 → T (p &&& q) = (T p &&& T q) := by
  unfold conjB
  rw [conjTo_iff]
  constructor
  · intro h p q hp hq; exact (conjRow_iff _ _ _).1 (h p hp) q hq
  · intro h p hp; exact (conjRow_iff _ _ _).2 fun q hq => h p q hp hq
theorem conjRow_succ {T : Nat → Nat} {p n : Nat} (h : conjRow T p n = true) (h' : T (p &&& n) = (T p &&& T n)) : conjRow T p (n + 1) = true :=
  (conjRow_iff _ _ _).2 fun i hi => by
    rcases Nat.lt_or_ge i n with h1 | h1
    · exact (conjRow_iff _ _ _).1 h i h1
    · obtain rfl : i = n := by omega
      exact h'
theorem conjTo_succ {T : Nat → Nat} {n : Nat} (h : conjTo T n = true) (h' : conjRow T n 16 = true) : conjTo T (n + 1) = true :=
  (conjTo_iff _ _).2 fun i hi => by
    rcases Nat.lt_or_ge i n with h1 | h1
    · exact (conjTo_iff _ _).1 h i h1
    · obtain rfl : i = n := by omega
      exact h'
theorem conjB_no {T : Nat → Nat} {p q : Nat} (hp : p < 16) (hq : q < 16) (h : T (p &&& q) ≠ (T p &&& T q)) : conjB T = false := by
  cases e : conjB T
  · rfl
  · exact absurd ((conjB_iff _).1 e p q hp hq) h
theorem conjB_congr {T U : Nat → Nat} (h : ∀ i, i < 16 → T i = U i) : conjB T = conjB U := by
  rw [Bool.eq_iff_iff, conjB_iff, conjB_iff]
  constructor
  · intro hh p q hp hq; rw [← h p hp, ← h q hq, ← h _ (and_lt hp)]; exact hh p q hp hq
  · intro hh p q hp hq; rw [h p hp, h q hq, h _ (and_lt hp)]; exact hh p q hp hq
/-- The states that meet all conditions of a state's family. -/
def fLead (T : Nat → Nat) (s : Nat) : Nat → Nat
  | 0 => 15
  | k + 1 => if (T k).testBit s then fLead T s k &&& k else fLead T s k
theorem fLead_lt (T : Nat → Nat) (s : Nat) : ∀ k, fLead T s k < 16
  | 0 => by unfold fLead; omega
  | k + 1 => by
    have := fLead_lt T s k
    unfold fLead; split
    · exact and_lt this
    · exact this
theorem fLead_congr {T U : Nat → Nat} (s : Nat) : ∀ k, (∀ i, i < k → T i = U i) → fLead T s k = fLead U s k
  | 0, _ => rfl
  | k + 1, h => by unfold fLead; rw [fLead_congr s k fun i hi => h i (by omega), h k (by omega)]
theorem fLead_yes {T : Nat → Nat} {s k : Nat} (h : (T k).testBit s = true) : fLead T s (k + 1) = fLead T s k &&& k := by rw [fLead, if_pos h]
theorem fLead_no {T : Nat → Nat} {s k : Nat} (h : (T k).testBit s = false) : fLead T s (k + 1) = fLead T s k := by rw [fLead, h, if_neg (by simp)]
/-- The transformer of a condition and a relation. -/
def fSpec (p : Nat) (R : Nat → Nat) : Nat → Nat := fun q => p &&& fBox R q
theorem fSpec_lt {p : Nat} {R : Nat → Nat} (hp : p < 16) (q : Nat) : fSpec p R q < 16 := and_lt hp
theorem fSpec_mono (p : Nat) (R : Nat → Nat) : Mono (fSpec p R) := fun a b ha hb h => imp_and (imp_refl _) (fBox_mono R a b ha hb h)
end Go.Proofs.Ytiaeakpgldpaiaa
