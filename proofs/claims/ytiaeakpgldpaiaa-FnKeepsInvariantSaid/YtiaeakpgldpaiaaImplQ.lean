/- The program's reader of contracts: what it leaves in memory. -/
import Derived.Test.YtiaeakpgldpaiaaImplP
namespace Go.Proofs.Ytiaeakpgldpaiaa
set_option linter.unusedSimpArgs false
set_option linter.unusedVariables false
set_option maxRecDepth 4000
open Go.RowKit

theorem infoPtr : (Try.prog.info? 85).map (fun i => (i.zero, i.size, i.bytes)) = some (some (.pointer none), 1, 8) := by kernel_rfl
def ptr (b : Nat) : Value := .pointer (some ⟨b, 0, none⟩)
/-- The parts read so far: the slice v owns their pointers, and they lie apart from it and from the block B. -/
structure Kids (B : Nat) (wr : World) (S : Nat → Prop) (v : Value) (xs : List Ct) (bs : List Nat) : Prop where
  len : bs.length = xs.length
  own : wr.ownsRow (B + 1) 85 1 v xs.length (bs.map ptr)
  kid : ∀ (i : Nat) (x : Ct) (b : Nat), xs[i]? = some x → bs[i]? = some b → CtIn wr S x b
  fence : ∀ k, S k → B < k ∧ k < wr.heap.size ∧ v.ownBlock ≠ some k
theorem Kids.start (B : Nat) (w : World) : Kids B w (fun _ => False) (.slice none 0 0) [] [] := ⟨rfl, World.ownsRow_nil _ _ _ _, fun i x b h => by simp at h, fun k h => h.elim⟩
theorem Kids.grow {B : Nat} {wr w1 w2 : World} {S : Nat → Prop} {v u : Value} {xs : List Ct} {bs : List Nat} {x : Ct} {b1 g cap : Nat} {ob : Obj} {i0 : Nat} (h : Kids B wr S v xs bs) (hB : B < wr.heap.size) (hb : Below wr.heap.size wr w1)
    (hc : CtIn w1 (fun k => wr.heap.size ≤ k ∧ k < w1.heap.size) x b1)
    (hown : w2.ownsRow (B + 1) 85 1 (.slice (some ⟨g, 0, none⟩) (xs.length + 1) cap) (xs.length + 1) (bs.map ptr ++ [ptr b1]))
    (hg : (w1.alloc ob).grownBy w2 v.ownBlock) (hl : v.ownBlock = some g ∨ g = w1.heap.size + 1) :
    Kids B (w2.setCell ⟨B, i0, none⟩ u) (fun k => S k ∨ (wr.heap.size ≤ k ∧ k < w1.heap.size)) (.slice (some ⟨g, 0, none⟩) (xs.length + 1) cap) (xs ++ [x]) (bs ++ [b1]) := by
  have hown_lt := h.own.lt
  have hsz := hb.size
  have hsz2 := hg.size
  rw [World.size_alloc] at hsz2
  have heq : ∀ k, k < w1.heap.size → B < k → v.ownBlock ≠ some k → (w2.setCell ⟨B, i0, none⟩ u).heap[k]? = w1.heap[k]? := fun k h1 h2 h3 => by
    rw [heap_setCell_other w2 ⟨B, i0, none⟩ k u (by show k ≠ B; omega), hg.block k (by rw [World.size_alloc]; omega) (fun e => h3 e.symm), Below.heap_alloc w1 ob k h1]
  have hnew : ∀ k, wr.heap.size ≤ k → v.ownBlock ≠ some k := fun k h1 h2 => by have := hown_lt k h2; omega
  refine ⟨by simp [h.len], ?_, ?_, ?_⟩
  · have := ownsRow_setCell_below hown (a := ⟨B, i0, none⟩) (Nat.lt_succ_self B) u
    rw [List.map_append, List.length_append]
    exact this
  · intro i y b hy hbb
    rw [List.getElem?_append] at hy hbb
    rw [h.len] at hbb
    by_cases hi : i < xs.length
    · rw [if_pos hi] at hy hbb
      refine CtIn.frame (fun k hk => ⟨.inl hk, ?_⟩) (h.kid i y b hy hbb)
      have hf := h.fence k hk
      rw [heq k (by omega) hf.1 hf.2.2, hb.block k hf.2.1]
    · rw [if_neg hi] at hy hbb
      have hi0 : i - xs.length = 0 := by
        have := (List.getElem?_eq_some_iff.1 hy).1
        simp at this; omega
      rw [hi0] at hy hbb
      simp at hy hbb
      subst hy hbb
      exact CtIn.frame (fun k hk => ⟨.inr hk, heq k hk.2 (by omega) (hnew k hk.1)⟩) hc
  · intro k hk
    have hs2 : (w2.setCell ⟨B, i0, none⟩ u).heap.size = w2.heap.size := by simp
    rw [hs2]
    have hgo : Value.ownBlock (.slice (some ⟨g, 0, none⟩) (xs.length + 1) cap) = some g := rfl
    rw [hgo]
    rcases hk with hk | hk
    · have hf := h.fence k hk
      refine ⟨hf.1, by omega, fun e => ?_⟩
      have e' : g = k := by injection e
      rcases hl with hl | hl
      · exact hf.2.2 (by rw [hl, e'])
      · omega
    · refine ⟨by omega, by omega, fun e => ?_⟩
      have e' : g = k := by injection e
      rcases hl with hl | hl
      · exact hnew k hk.1 (by rw [hl, e'])
      · omega
theorem Kids.text {B : Nat} {wr : World} {S : Nat → Prop} {v : Value} {xs : List Ct} {bs : List Nat} (h : Kids B wr S v xs bs) (i : Nat) (u : Value) : Kids B (wr.setCell ⟨B, i, none⟩ u) S v xs bs := by
  refine ⟨h.len, ownsRow_setCell_below h.own (a := ⟨B, i, none⟩) (Nat.lt_succ_self B) u, fun j x b h1 h2 => ?_, fun k hk => ?_⟩
  · refine CtIn.frame (fun k hk => ⟨hk, ?_⟩) (h.kid j x b h1 h2)
    have hf := h.fence k hk
    exact heap_setCell_other wr ⟨B, i, none⟩ k u (by show k ≠ B; omega)
  · have hf := h.fence k hk
    have hs2 : (wr.setCell ⟨B, i, none⟩ u).heap.size = wr.heap.size := by simp
    rw [hs2]; exact hf
theorem Kids.row {B : Nat} {wr : World} {S : Nat → Prop} {v : Value} {xs : List Ct} {bs : List Nat} (h : Kids B wr S v xs bs) (hn : xs ≠ []) : ∃ g cap cur, v = .slice (some ⟨g, 0, none⟩) xs.length cap ∧ B < g ∧ g < wr.heap.size ∧ RowAt wr g 85 cur ∧ ∀ (i b : Nat), bs[i]? = some b → cur[i]? = some (ptr b) := by
  rcases h.own.2 with ⟨_, h'⟩ | ⟨g, cap, cur, hv, hb, hg, _, _, _, htake⟩
  · exact absurd (List.length_eq_zero_iff.1 h') hn
  · refine ⟨g, cap, cur, hv, by omega, (Array.getElem?_eq_some_iff.1 hg).1, hg, fun i b hi => ?_⟩
    have hlt : i < bs.length := (List.getElem?_eq_some_iff.1 hi).1
    have : (cur.toList.take (xs.length * 1))[i]? = (bs.map ptr)[i]? := by rw [htake]
    rw [List.getElem?_take, if_pos (by rw [← h.len]; omega), List.getElem?_map, hi] at this
    simpa using this
theorem shpD_le1 {b : UInt8} {np : Nat} (h : shpP b = (np : Int)) (h1 : 1 ≤ np) : shpD b ≤ 1 := by
  cases hl : leafD b with
  | some n => have := (shpP_leaf hl).1; omega
  | none =>
    cases hu : unD b with
    | some n => rw [(shpP_un hl hu).2]; exact unD_le hu
    | none =>
      cases hb : binD b with
      | some n => rw [(shpP_bin hl hu hb).2]; exact binD_le hb
      | none => have := (shpP_bad hl hu hb).1; omega
/-- The whole statement, out of its parts. -/
theorem Kids.whole {c : ByteArray} {a B np : Nat} {wr : World} {S : Nat → Prop} {v : Value} {xs : List Ct} {bs : List Nat} {tx : ByteArray} {W : Nat} (h : Kids B wr S v xs bs) (hP : shpP (byt c a) = (np : Int)) (hnp : np ≤ 2) (hxs : xs.length = np)
    (hrow : RowAt wr B 122 (node (byt c a) (pJ (fun i => dig c (a + 1 + i)) (shpD (byt c a))) (rJ (shpD (byt c a)) (fun i => dig c (a + 1 + i)) (shpD (byt c a))) v tx)) (hW : W ≤ B) :
    CtIn wr (fun k => W ≤ k ∧ k < wr.heap.size) (mkCt (byt c a) (digF c (a + 1) (shpD (byt c a))) xs) B := by
  have hBlt := hrow.lt
  have hsub : ∀ {x : Ct} {b : Nat}, CtIn wr S x b → CtIn wr (fun k => W ≤ k ∧ k < wr.heap.size) x b := fun hx => CtIn.frame (fun k hk => ⟨⟨by have := h.fence k hk; omega, (h.fence k hk).2.1⟩, rfl⟩) hx
  match xs, hxs with
  | [], _ =>
    refine ⟨⟨hW, hBlt⟩, v, tx, ?_⟩
    refine hrow.of (node_congr ?_ ?_)
    · unfold pJ pN digF
      split
      · rfl
      · rw [if_pos (by omega)]
    · intro i hi
      unfold rJ rN digF
      by_cases h4 : shpD (byt c a) = 4
      · rw [h4, if_pos ⟨rfl, hi⟩, if_pos rfl, if_pos hi]
      · rw [if_neg (fun hh => h4 hh.1), if_neg h4]
  | [x], hx =>
    have hp : pJ (fun i => dig c (a + 1 + i)) (shpD (byt c a)) = digF c (a + 1) (shpD (byt c a)) 0 := by
      have hle := shpD_le1 hP (by rw [← hx]; simp)
      unfold pJ digF
      by_cases h0 : shpD (byt c a) = 0
      · rw [if_pos h0, if_neg (by omega)]
      · have h1 : shpD (byt c a) = 1 := by omega
        rw [h1, if_neg (by omega), if_pos (by omega)]
    obtain ⟨g, cap, cur, hv, hBg, hgl, hr, hcur⟩ := h.row (by simp)
    have hbl := h.len
    obtain ⟨b1, hb1⟩ : ∃ b1, bs[0]? = some b1 := by
      cases bs with
      | nil => simp at hbl
      | cons b _ => exact ⟨b, rfl⟩
    exact ⟨⟨hW, hBlt⟩, _, v, tx, g, cap, cur, b1, hrow.of (node_congr hp fun _ _ => rfl), hv, ⟨by omega, hgl⟩, hr, hcur 0 b1 hb1, hsub (h.kid 0 x b1 rfl hb1)⟩
  | [x, y], hx =>
    have hp : pJ (fun i => dig c (a + 1 + i)) (shpD (byt c a)) = digF c (a + 1) (shpD (byt c a)) 0 := by
      have hle := shpD_le1 hP (by rw [← hx]; simp)
      unfold pJ digF
      by_cases h0 : shpD (byt c a) = 0
      · rw [if_pos h0, if_neg (by omega)]
      · have h1 : shpD (byt c a) = 1 := by omega
        rw [h1, if_neg (by omega), if_pos (by omega)]
    obtain ⟨g, cap, cur, hv, hBg, hgl, hr, hcur⟩ := h.row (by simp)
    have hbl := h.len
    obtain ⟨b1, hb1⟩ : ∃ b1, bs[0]? = some b1 := ⟨bs[0]'(by rw [hbl]; simp), List.getElem?_eq_getElem _⟩
    obtain ⟨b2, hb2⟩ : ∃ b2, bs[1]? = some b2 := ⟨bs[1]'(by rw [hbl]; simp), List.getElem?_eq_getElem _⟩
    exact ⟨⟨hW, hBlt⟩, _, v, tx, g, cap, cur, b1, b2, hrow.of (node_congr hp fun _ _ => rfl), hv, ⟨by omega, hgl⟩, hr, hcur 0 b1 hb1, hcur 1 b2 hb2, hsub (h.kid 0 x b1 rfl hb1), hsub (h.kid 1 y b2 rfl hb2)⟩
  | x :: y :: z :: r, hx => simp at hx; omega
theorem pJ_succ (F : Nat → Nat) (j : Nat) : pJ F (j + 1) = F j := by unfold pJ; rw [if_neg (by omega)]; rfl
theorem rJ_upd (n : Nat) (F : Nat → Nat) (j : Nat) (h4 : n = 4) : ∀ i, upd (rJ n F j) j (F j) i = rJ n F (j + 1) i := fun i => by
  unfold upd rJ
  by_cases h : i = j
  · subst h; rw [if_pos rfl, if_pos ⟨h4, by omega⟩]
  · rw [if_neg h]
    by_cases h2 : i < j
    · rw [if_pos ⟨h4, h2⟩, if_pos ⟨h4, by omega⟩]
    · rw [if_neg (by omega), if_neg (by omega)]
theorem rJ_not (n : Nat) (F : Nat → Nat) (j k : Nat) (h4 : n ≠ 4) : ∀ i, rJ n F j i = rJ n F k i := fun i => by unfold rJ; rw [if_neg (fun h => h4 h.1), if_neg (fun h => h4 h.1)]
theorem ownsRow_below {w w' : World} {base : Nat} {e : TypeId} {size : Nat} {v : Value} {n : Nat} {xs : List Value} (h : w.ownsRow base e size v n xs) (hb : Below w.heap.size w w') : w'.ownsRow base e size v n xs :=
  h.kept (row := none) ⟨hb.os, hb.tape, hb.output, hb.size, fun k hk _ => hb.block k hk⟩ (by
    cases hv : v.ownBlock
    · exact .inl rfl
    · exact .inr (by simp))
theorem RowAt.grown {w w' : World} {b : Nat} {t : TypeId} {cs : Array Value} {row : Option Nat} (h : RowAt w b t cs) (hg : w.grownBy w' row) (hne : row ≠ some b) : RowAt w' b t cs :=
  (hg.block b h.lt fun e => hne e.symm).trans h
end Go.Proofs.Ytiaeakpgldpaiaa
