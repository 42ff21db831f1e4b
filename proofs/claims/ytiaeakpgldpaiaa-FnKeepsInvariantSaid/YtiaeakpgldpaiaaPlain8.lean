/- Mathematics of reading contracts part by part. -/
import Derived.Test.YtiaeakpgldpaiaaPlain7
namespace Go.Proofs.Ytiaeakpgldpaiaa
set_option linter.unusedSimpArgs false
set_option linter.unusedVariables false
set_option maxRecDepth 4000

/-- How many parts a letter begins, or -1; how many digits. -/
def shpP (b : UInt8) : Int := match leafD b with
  | some _ => 0
  | none => match unD b with
    | some _ => 1
    | none => match binD b with
      | some _ => 2
      | none => -1
def shpD (b : UInt8) : Nat := match leafD b with
  | some n => n
  | none => match unD b with
    | some n => n
    | none => match binD b with
      | some n => n
      | none => 0
theorem shpP_leaf {b : UInt8} {n : Nat} (h : leafD b = some n) : shpP b = 0 ∧ shpD b = n := by unfold shpP shpD; rw [h]; exact ⟨rfl, rfl⟩
theorem shpP_un {b : UInt8} {n : Nat} (h0 : leafD b = none) (h : unD b = some n) : shpP b = 1 ∧ shpD b = n := by unfold shpP shpD; simp [h0, h]
theorem shpP_bin {b : UInt8} {n : Nat} (h0 : leafD b = none) (h1 : unD b = none) (h : binD b = some n) : shpP b = 2 ∧ shpD b = n := by unfold shpP shpD; simp [h0, h1, h]
theorem shpP_bad {b : UInt8} (h0 : leafD b = none) (h1 : unD b = none) (h : binD b = none) : shpP b = -1 ∧ shpD b = 0 := by unfold shpP shpD; simp [h0, h1, h]
theorem leafD_le {b : UInt8} {n : Nat} (h : leafD b = some n) : n ≤ 4 := by
  unfold leafD at h
  repeat' (split at h)
  all_goals (cases h <;> omega)
theorem unD_le {b : UInt8} {n : Nat} (h : unD b = some n) : n ≤ 1 := by
  unfold unD at h
  repeat' (split at h)
  all_goals (cases h <;> omega)
theorem binD_le {b : UInt8} {n : Nat} (h : binD b = some n) : n ≤ 1 := by
  unfold binD at h
  repeat' (split at h)
  all_goals (cases h <;> omega)
theorem shpD_le (b : UInt8) : shpD b ≤ 4 := by
  unfold shpD
  split
  · rename_i h; exact leafD_le h
  · split
    · rename_i h; have := unD_le h; omega
    · split
      · rename_i h; have := binD_le h; omega
      · omega
/-- A contract of a letter, digits and parts. -/
def mkCt (op : UInt8) (F : Nat → Nat) : List Ct → Ct
  | [] => .leaf op F
  | [x] => .un op (F 0) x
  | x :: y :: _ => .bin op (F 0) x y
/-- Several contracts, one behind the other. -/
def seqRd (c : ByteArray) (f : Nat) : Nat → Nat → Option (List Ct × Nat)
  | 0, a => some ([], a)
  | t + 1, a => match seqRd c f t a with
    | some (xs, e) => (match rd c f e with
      | some (x, e') => some (xs ++ [x], e')
      | none => none)
    | none => none
theorem seqRd_yes {c : ByteArray} {f t a e e' : Nat} {xs : List Ct} {x : Ct} (h : seqRd c f t a = some (xs, e)) (h' : rd c f e = some (x, e')) : seqRd c f (t + 1) a = some (xs ++ [x], e') := by
  rw [seqRd, h]; simp only [h']
theorem seqRd_no {c : ByteArray} {f t a e : Nat} {xs : List Ct} (h : seqRd c f t a = some (xs, e)) (h' : rd c f e = none) : ∀ k, seqRd c f (t + 1 + k) a = none
  | 0 => by rw [Nat.add_zero, seqRd, h]; simp only [h']
  | k + 1 => by rw [← Nat.add_assoc, seqRd, seqRd_no h h' k]
theorem rd_seq {c : ByteArray} {f a np : Nat} (ha : a < c.size) (hP : shpP (byt c a) = (np : Int)) : rd c (f + 1) a = if digs c (a + 1) (shpD (byt c a)) then (seqRd c f np (a + 1 + shpD (byt c a))).map (fun r => (mkCt (byt c a) (digF c (a + 1) (shpD (byt c a))) r.1, r.2)) else none := by
  cases hl : leafD (byt c a) with
  | some n =>
    obtain ⟨h1, h2⟩ := shpP_leaf hl
    have : np = 0 := by omega
    subst this
    rw [rd_leaf ha hl, h2]
    rfl
  | none =>
    cases hu : unD (byt c a) with
    | some n =>
      obtain ⟨h1, h2⟩ := shpP_un hl hu
      have : np = 1 := by omega
      subst this
      rw [rd_un ha hl hu, h2]
      simp only [seqRd]
      cases rd c f (a + 1 + n) with
      | none => rfl
      | some r => rfl
    | none =>
      cases hb : binD (byt c a) with
      | some n =>
        obtain ⟨h1, h2⟩ := shpP_bin hl hu hb
        have : np = 2 := by omega
        subst this
        rw [rd_bin ha hl hu hb, h2]
        simp only [seqRd]
        cases rd c f (a + 1 + n) with
        | none => rfl
        | some r =>
          obtain ⟨x, e⟩ := r
          simp only
          cases rd c f e with
          | none => rfl
          | some r => rfl
      | none =>
        obtain ⟨h1, _⟩ := shpP_bad hl hu hb
        omega
theorem shpP_cases (b : UInt8) : shpP b = -1 ∧ (∀ (c : ByteArray) (f a : Nat), byt c a = b → rd c (f + 1) a = none) ∨ ∃ np : Nat, np ≤ 2 ∧ shpP b = (np : Int) := by
  cases hl : leafD b with
  | some n => exact .inr ⟨0, by omega, (shpP_leaf hl).1⟩
  | none =>
    cases hu : unD b with
    | some n => exact .inr ⟨1, by omega, (shpP_un hl hu).1⟩
    | none =>
      cases hb : binD b with
      | some n => exact .inr ⟨2, by omega, (shpP_bin hl hu hb).1⟩
      | none => exact .inl ⟨(shpP_bad hl hu hb).1, fun c f a h => rd_bad (by rw [h]; exact hl) (by rw [h]; exact hu) (by rw [h]; exact hb)⟩
theorem digs_no {c : ByteArray} {a n j : Nat} (hj : j < n) (h : hexVal (byt c (a + j)) < 0) : digs c a n = false := by
  cases e : digs c a n
  · rfl
  · have := ((digs_iff _ _ _).1 e).2 j hj
    omega
theorem digs_far {c : ByteArray} {a n : Nat} (h : ¬ a + n ≤ c.size) : digs c a n = false := by
  cases e : digs c a n
  · rfl
  · exact absurd ((digs_iff _ _ _).1 e).1 h
end Go.Proofs.Ytiaeakpgldpaiaa
