/- Joined texts: ImplP, ImplQ, ImplR. -/
import Derived.Test.YtiaeakpgldpaiaaQImplL
import Derived.Test.YtiaeakpgldpaiaaQJ0
import Derived.Test.YtiaeakpgldpaiaaQJ1
import Derived.Deep.AppendLies
import Derived.OwnWalk
import Derived.Laws.OwnMore
namespace Go.Proofs.Ytiaeakpgldpaiaa
set_option linter.unusedSimpArgs false
set_option linter.unusedVariables false
set_option maxRecDepth 4000
open Go.RowKit

theorem RowAt.setAt {w : World} {b : Nat} {t : TypeId} {cs : Array Value} (h : RowAt w b t cs) (i : Nat) (v : Value) : RowAt (w.setCell ⟨b, i, none⟩ v) b t (cs.setIfInBounds i v) := heap_setCell_same w b i _ t v h
/-- A statement's cells: its letter, its condition, its relation, its parts, its text. -/
def node (op : UInt8) (p : Nat) (R : Nat → Nat) (v : Value) (tx : ByteArray) : Array Value := #[.int .u8 (op.toNat : Int), .int .i64 (p : Int), .int .i64 (R 0 : Int), .int .i64 (R 1 : Int), .int .i64 (R 2 : Int), .int .i64 (R 3 : Int), v, .string tx]
theorem node_p (op : UInt8) (p q : Nat) (R : Nat → Nat) (v : Value) (tx : ByteArray) : (node op p R v tx).setIfInBounds 1 (.int .i64 (q : Int)) = node op q R v tx := rfl
theorem node_r (op : UInt8) (p q : Nat) (R : Nat → Nat) (v : Value) (tx : ByteArray) (j : Nat) (hj : j < 4) : (node op p R v tx).setIfInBounds (2 + j) (.int .i64 (q : Int)) = node op p (upd R j q) v tx := by
  have h : j = 0 ∨ j = 1 ∨ j = 2 ∨ j = 3 := by omega
  rcases h with rfl | rfl | rfl | rfl <;> rfl
theorem node_v (op : UInt8) (p : Nat) (R : Nat → Nat) (v u : Value) (tx : ByteArray) : (node op p R v tx).setIfInBounds 6 u = node op p R u tx := rfl
theorem node_t (op : UInt8) (p : Nat) (R : Nat → Nat) (v : Value) (tx ty : ByteArray) : (node op p R v tx).setIfInBounds 7 (.string ty) = node op p R v ty := rfl
theorem node_congr {op : UInt8} {p q : Nat} {R Q : Nat → Nat} {v : Value} {tx : ByteArray} (h : p = q) (h' : ∀ i, i < 4 → R i = Q i) : node op p R v tx = node op q Q v tx := by
  unfold node
  rw [h, h' 0 (by omega), h' 1 (by omega), h' 2 (by omega), h' 3 (by omega)]
theorem node_rget (op : UInt8) (p : Nat) (R : Nat → Nat) (v : Value) (tx : ByteArray) (j : Nat) (hj : j < 4) : (node op p R v tx)[2 + j]? = some (.int .i64 (R j : Int)) := by
  have h : j = 0 ∨ j = 1 ∨ j = 2 ∨ j = 3 := by omega
  rcases h with rfl | rfl | rfl | rfl <;> rfl
/-- The condition's cell behind n digits; the relation's cells. -/
def pN (n : Nat) (F : Nat → Nat) : Nat := if n = 0 then 0 else F (n - 1)
def rN (n : Nat) (F : Nat → Nat) : Nat → Nat := fun i => if n = 4 then F i else 0
/-- Half of the digits read. -/
def pJ (F : Nat → Nat) (j : Nat) : Nat := if j = 0 then 0 else F (j - 1)
def rJ (n : Nat) (F : Nat → Nat) (j : Nat) : Nat → Nat := fun i => if n = 4 ∧ i < j then F i else 0
/-- The contract x lies in memory at the block b, all of it in the blocks S. -/
def CtIn (w : World) (S : Nat → Prop) : Ct → Nat → Prop
  | .leaf op F, b => S b ∧ ∃ v tx, RowAt w b 122 (node op (pN (shpD op) F) (rN (shpD op) F) v tx)
  | .un op p x, b => S b ∧ ∃ R v tx g cap cur b1, RowAt w b 122 (node op p R v tx) ∧ v = .slice (some ⟨g, 0, none⟩) 1 cap ∧ S g ∧ RowAt w g 85 cur ∧ cur[0]? = some (.pointer (some ⟨b1, 0, none⟩)) ∧ CtIn w S x b1
  | .bin op p x y, b => S b ∧ ∃ R v tx g cap cur b1 b2, RowAt w b 122 (node op p R v tx) ∧ v = .slice (some ⟨g, 0, none⟩) 2 cap ∧ S g ∧ RowAt w g 85 cur ∧ cur[0]? = some (.pointer (some ⟨b1, 0, none⟩)) ∧ cur[1]? = some (.pointer (some ⟨b2, 0, none⟩)) ∧ CtIn w S x b1 ∧ CtIn w S y b2
theorem CtIn.frame {w w' : World} {S S' : Nat → Prop} (hs : ∀ k, S k → S' k ∧ w'.heap[k]? = w.heap[k]?) : ∀ {x : Ct} {b : Nat}, CtIn w S x b → CtIn w' S' x b
  | .leaf op F, b, ⟨h1, v, tx, h2⟩ => ⟨(hs b h1).1, v, tx, (hs b h1).2.trans h2⟩
  | .un op p x, b, ⟨h1, R, v, tx, g, cap, cur, b1, h2, h3, h4, h5, h6, h7⟩ => ⟨(hs b h1).1, R, v, tx, g, cap, cur, b1, (hs b h1).2.trans h2, h3, (hs g h4).1, (hs g h4).2.trans h5, h6, CtIn.frame hs h7⟩
  | .bin op p x y, b, ⟨h1, R, v, tx, g, cap, cur, b1, b2, h2, h3, h4, h5, h6, h7, h8, h9⟩ => ⟨(hs b h1).1, R, v, tx, g, cap, cur, b1, b2, (hs b h1).2.trans h2, h3, (hs g h4).1, (hs g h4).2.trans h5, h6, h7, CtIn.frame hs h8, CtIn.frame hs h9⟩
theorem CtIn.later {w w' : World} {S : Nat → Prop} {x : Ct} {b : Nat} (h : CtIn w S x b) (hS : ∀ k, S k → k < w.heap.size) (hb : Below w.heap.size w w') : CtIn w' S x b :=
  CtIn.frame (fun k hk => ⟨hk, hb.block k (hS k hk)⟩) h
/-- What reading leaves. -/
def RdPost (w : World) (o : Option (Ct × Nat)) (e : Ending) (w' : World) : Prop := Below w.heap.size w w' ∧
  match o with
  | none => e = .returned (.tuple #[.pointer none, .int .i64 0])
  | some (x, n) => ∃ b, e = .returned (.tuple #[.pointer (some ⟨b, 0, none⟩), .int .i64 (n : Int)]) ∧ CtIn w' (fun k => w.heap.size ≤ k ∧ k < w'.heap.size) x b
set_option maxHeartbeats 2000000 in
theorem i_shapeOf (op : UInt8) (z : Int) (w : World) (hz : z = (op.toNat : Int)) : Calls Try.prog 240 #[.int .u8 z] w fun e w' => e = .returned (.tuple #[.int .i64 (shpP op), .int .i64 (shpD op : Int)]) ∧ w = w' := by
  rcases letters op with (hop | hop | hop) | (hop | hop) | (hop | hop) | (hop | hop | hop) | hop | hop | (hop | hop) | hop
  · subst hop
    have hz' : z = 115 := hz
    subst hz'
    clear hz
    go_enter Try.func240, Try.ntmps240
    go_wp2_with fail
    go_ret2
    exact ⟨rfl, rfl⟩
  · subst hop
    have hz' : z = 97 := hz
    subst hz'
    clear hz
    go_enter Try.func240, Try.ntmps240
    go_wp2_with fail
    go_ret2
    exact ⟨rfl, rfl⟩
  · subst hop
    have hz' : z = 109 := hz
    subst hz'
    clear hz
    go_enter Try.func240, Try.ntmps240
    go_wp2_with fail
    go_ret2
    exact ⟨rfl, rfl⟩
  · subst hop
    have hz' : z = 33 := hz
    subst hz'
    clear hz
    go_enter Try.func240, Try.ntmps240
    go_wp2_with fail
    go_ret2
    exact ⟨rfl, rfl⟩
  · subst hop
    have hz' : z = 63 := hz
    subst hz'
    clear hz
    go_enter Try.func240, Try.ntmps240
    go_wp2_with fail
    go_ret2
    exact ⟨rfl, rfl⟩
  · subst hop
    have hz' : z = 65 := hz
    subst hz'
    clear hz
    go_enter Try.func240, Try.ntmps240
    go_wp2_with fail
    go_ret2
    exact ⟨rfl, rfl⟩
  · subst hop
    have hz' : z = 68 := hz
    subst hz'
    clear hz
    go_enter Try.func240, Try.ntmps240
    go_wp2_with fail
    go_ret2
    exact ⟨rfl, rfl⟩
  · subst hop
    have hz' : z = 59 := hz
    subst hz'
    clear hz
    go_enter Try.func240, Try.ntmps240
    go_wp2_with fail
    go_ret2
    exact ⟨rfl, rfl⟩
  · subst hop
    have hz' : z = 38 := hz
    subst hz'
    clear hz
    go_enter Try.func240, Try.ntmps240
    go_wp2_with fail
    go_ret2
    exact ⟨rfl, rfl⟩
  · subst hop
    have hz' : z = 124 := hz
    subst hz'
    clear hz
    go_enter Try.func240, Try.ntmps240
    go_wp2_with fail
    go_ret2
    exact ⟨rfl, rfl⟩
  · subst hop
    have hz' : z = 105 := hz
    subst hz'
    clear hz
    go_enter Try.func240, Try.ntmps240
    go_wp2_with fail
    go_ret2
    exact ⟨rfl, rfl⟩
  · subst hop
    have hz' : z = 119 := hz
    subst hz'
    clear hz
    go_enter Try.func240, Try.ntmps240
    go_wp2_with fail
    go_ret2
    exact ⟨rfl, rfl⟩
  · subst hop
    have hz' : z = 42 := hz
    subst hz'
    clear hz
    go_enter Try.func240, Try.ntmps240
    go_wp2_with fail
    go_ret2
    exact ⟨rfl, rfl⟩
  · subst hop
    have hz' : z = 43 := hz
    subst hz'
    clear hz
    go_enter Try.func240, Try.ntmps240
    go_wp2_with fail
    go_ret2
    exact ⟨rfl, rfl⟩
  · obtain ⟨hb1, hb2⟩ := shpP_bad (noLetter_leaf hop) (noLetter_un hop) (noLetter_bin hop)
    have H1 := Lib.hid hb1; have H2 := Lib.hid hb2; clear hb1 hb2
    obtain ⟨⟨n1, n2, n3, n4, n5, n6, n7⟩, n8, n9, n10, n11, n12, n13, n14⟩ := hop
    have m1 := byte_ne (n := 115) (by omega) n1; have m2 := byte_ne (n := 97) (by omega) n2; have m3 := byte_ne (n := 109) (by omega) n3
    have m4 := byte_ne (n := 33) (by omega) n4; have m5 := byte_ne (n := 63) (by omega) n5; have m6 := byte_ne (n := 65) (by omega) n6; have m7 := byte_ne (n := 68) (by omega) n7
    have m8 := byte_ne (n := 59) (by omega) n8; have m9 := byte_ne (n := 38) (by omega) n9; have m10 := byte_ne (n := 124) (by omega) n10; have m11 := byte_ne (n := 105) (by omega) n11
    have m12 := byte_ne (n := 119) (by omega) n12; have m13 := byte_ne (n := 42) (by omega) n13; have m14 := byte_ne (n := 43) (by omega) n14
    clear n1 n2 n3 n4 n5 n6 n7 n8 n9 n10 n11 n12 n13 n14
    simp only [Int.cast_ofNat_Int] at m1 m2 m3 m4 m5 m6 m7 m8 m9 m10 m11 m12 m13 m14
    rw [← hz] at m1 m2 m3 m4 m5 m6 m7 m8 m9 m10 m11 m12 m13 m14
    clear hz
    go_enter Try.func240, Try.ntmps240
    go_wp2_with fail
    go_ret2
    exact ⟨by rw [H1.out, H2.out]; rfl, rfl⟩
end Go.Proofs.Ytiaeakpgldpaiaa
namespace Go.Proofs.Ytiaeakpgldpaiaa
set_option linter.unusedSimpArgs false
set_option linter.unusedVariables false
set_option maxRecDepth 4000
open Go.RowKit

theorem infoPtr : (Try.prog.info? 85).map (fun i => (i.zero, i.size, i.bytes)) = some (some (.pointer none), 1, 8) := by kernel_rfl
def ptr (b : Nat) : Value := .pointer (some ⟨b, 0, none⟩)
/-- The parts read so far: the slice v owns their pointers, and they lie apart from it and from the block B. -/
structure Kids (B : Nat) (wr : World) (S : Nat → Prop) (v : Value) (xs : List Ct) (bs : List Nat) : Prop where
  len : bs.length = xs.length
  own : wr.ownsRow (B + 1) 85 1 v xs.length (bs.map ptr)
  kid : ∀ (i : Nat) (x : Ct) (b : Nat), xs[i]? = some x → bs[i]? = some b → CtIn wr S x b
  fence : ∀ k, S k → B < k ∧ k < wr.heap.size ∧ v.ownBlock ≠ some k
theorem Kids.start (B : Nat) (w : World) : Kids B w (fun _ => False) (.slice none 0 0) [] [] := ⟨rfl, World.ownsRow_nil _ _ _ _, fun i x b h => by simp at h, fun k h => h.elim⟩
theorem Kids.grow {B : Nat} {wr w1 w2 : World} {S : Nat → Prop} {v u : Value} {xs : List Ct} {bs : List Nat} {x : Ct} {b1 g cap : Nat} {ob : Obj} {i0 : Nat} (h : Kids B wr S v xs bs) (hB : B < wr.heap.size) (hb : Below wr.heap.size wr w1)
    (hc : CtIn w1 (fun k => wr.heap.size ≤ k ∧ k < w1.heap.size) x b1)
    (hown : w2.ownsRow (B + 1) 85 1 (.slice (some ⟨g, 0, none⟩) (xs.length + 1) cap) (xs.length + 1) (bs.map ptr ++ [ptr b1]))
    (hg : (w1.alloc ob).grownBy w2 v.ownBlock) (hl : v.ownBlock = some g ∨ g = w1.heap.size + 1) :
    Kids B (w2.setCell ⟨B, i0, none⟩ u) (fun k => S k ∨ (wr.heap.size ≤ k ∧ k < w1.heap.size)) (.slice (some ⟨g, 0, none⟩) (xs.length + 1) cap) (xs ++ [x]) (bs ++ [b1]) := by
  have hown_lt := h.own.lt
  have hsz := hb.size
  have hsz2 := hg.size
  rw [World.size_alloc] at hsz2
  have heq : ∀ k, k < w1.heap.size → B < k → v.ownBlock ≠ some k → (w2.setCell ⟨B, i0, none⟩ u).heap[k]? = w1.heap[k]? := fun k h1 h2 h3 => by
    rw [heap_setCell_other w2 ⟨B, i0, none⟩ k u (by show k ≠ B; omega), hg.block k (by rw [World.size_alloc]; omega) (fun e => h3 e.symm), Below.heap_alloc w1 ob k h1]
  have hnew : ∀ k, wr.heap.size ≤ k → v.ownBlock ≠ some k := fun k h1 h2 => by have := hown_lt k h2; omega
  refine ⟨by simp [h.len], ?_, ?_, ?_⟩
  · have := ownsRow_setCell_below hown (a := ⟨B, i0, none⟩) (Nat.lt_succ_self B) u
    rw [List.map_append, List.length_append]
    exact this
  · intro i y b hy hbb
    rw [List.getElem?_append] at hy hbb
    rw [h.len] at hbb
    by_cases hi : i < xs.length
    · rw [if_pos hi] at hy hbb
      refine CtIn.frame (fun k hk => ⟨.inl hk, ?_⟩) (h.kid i y b hy hbb)
      have hf := h.fence k hk
      rw [heq k (by omega) hf.1 hf.2.2, hb.block k hf.2.1]
    · rw [if_neg hi] at hy hbb
      have hi0 : i - xs.length = 0 := by
        have := (List.getElem?_eq_some_iff.1 hy).1
        simp at this; omega
      rw [hi0] at hy hbb
      simp at hy hbb
      subst hy hbb
      exact CtIn.frame (fun k hk => ⟨.inr hk, heq k hk.2 (by omega) (hnew k hk.1)⟩) hc
  · intro k hk
    have hs2 : (w2.setCell ⟨B, i0, none⟩ u).heap.size = w2.heap.size := by simp
    rw [hs2]
    have hgo : Value.ownBlock (.slice (some ⟨g, 0, none⟩) (xs.length + 1) cap) = some g := rfl
    rw [hgo]
    rcases hk with hk | hk
    · have hf := h.fence k hk
      refine ⟨hf.1, by omega, fun e => ?_⟩
      have e' : g = k := by injection e
      rcases hl with hl | hl
      · exact hf.2.2 (by rw [hl, e'])
      · omega
    · refine ⟨by omega, by omega, fun e => ?_⟩
      have e' : g = k := by injection e
      rcases hl with hl | hl
      · exact hnew k hk.1 (by rw [hl, e'])
      · omega
theorem Kids.text {B : Nat} {wr : World} {S : Nat → Prop} {v : Value} {xs : List Ct} {bs : List Nat} (h : Kids B wr S v xs bs) (i : Nat) (u : Value) : Kids B (wr.setCell ⟨B, i, none⟩ u) S v xs bs := by
  refine ⟨h.len, ownsRow_setCell_below h.own (a := ⟨B, i, none⟩) (Nat.lt_succ_self B) u, fun j x b h1 h2 => ?_, fun k hk => ?_⟩
  · refine CtIn.frame (fun k hk => ⟨hk, ?_⟩) (h.kid j x b h1 h2)
    have hf := h.fence k hk
    exact heap_setCell_other wr ⟨B, i, none⟩ k u (by show k ≠ B; omega)
  · have hf := h.fence k hk
    have hs2 : (wr.setCell ⟨B, i, none⟩ u).heap.size = wr.heap.size := by simp
    rw [hs2]; exact hf
theorem Kids.row {B : Nat} {wr : World} {S : Nat → Prop} {v : Value} {xs : List Ct} {bs : List Nat} (h : Kids B wr S v xs bs) (hn : xs ≠ []) : ∃ g cap cur, v = .slice (some ⟨g, 0, none⟩) xs.length cap ∧ B < g ∧ g < wr.heap.size ∧ RowAt wr g 85 cur ∧ ∀ (i b : Nat), bs[i]? = some b → cur[i]? = some (ptr b) := by
  rcases h.own.2 with ⟨_, h'⟩ | ⟨g, cap, cur, hv, hb, hg, _, _, _, htake⟩
  · exact absurd (List.length_eq_zero_iff.1 h') hn
  · refine ⟨g, cap, cur, hv, by omega, (Array.getElem?_eq_some_iff.1 hg).1, hg, fun i b hi => ?_⟩
    have hlt : i < bs.length := (List.getElem?_eq_some_iff.1 hi).1
    have : (cur.toList.take (xs.length * 1))[i]? = (bs.map ptr)[i]? := by rw [htake]
    rw [List.getElem?_take, if_pos (by rw [← h.len]; omega), List.getElem?_map, hi] at this
    simpa using this
theorem shpD_le1 {b : UInt8} {np : Nat} (h : shpP b = (np : Int)) (h1 : 1 ≤ np) : shpD b ≤ 1 := by
  cases hl : leafD b with
  | some n => have := (shpP_leaf hl).1; omega
  | none =>
    cases hu : unD b with
    | some n => rw [(shpP_un hl hu).2]; exact unD_le hu
    | none =>
      cases hb : binD b with
      | some n => rw [(shpP_bin hl hu hb).2]; exact binD_le hb
      | none => have := (shpP_bad hl hu hb).1; omega
/-- The whole statement, out of its parts. -/
theorem Kids.whole {c : ByteArray} {a B np : Nat} {wr : World} {S : Nat → Prop} {v : Value} {xs : List Ct} {bs : List Nat} {tx : ByteArray} {W : Nat} (h : Kids B wr S v xs bs) (hP : shpP (byt c a) = (np : Int)) (hnp : np ≤ 2) (hxs : xs.length = np)
    (hrow : RowAt wr B 122 (node (byt c a) (pJ (fun i => dig c (a + 1 + i)) (shpD (byt c a))) (rJ (shpD (byt c a)) (fun i => dig c (a + 1 + i)) (shpD (byt c a))) v tx)) (hW : W ≤ B) :
    CtIn wr (fun k => W ≤ k ∧ k < wr.heap.size) (mkCt (byt c a) (digF c (a + 1) (shpD (byt c a))) xs) B := by
  have hBlt := hrow.lt
  have hsub : ∀ {x : Ct} {b : Nat}, CtIn wr S x b → CtIn wr (fun k => W ≤ k ∧ k < wr.heap.size) x b := fun hx => CtIn.frame (fun k hk => ⟨⟨by have := h.fence k hk; omega, (h.fence k hk).2.1⟩, rfl⟩) hx
  match xs, hxs with
  | [], _ =>
    refine ⟨⟨hW, hBlt⟩, v, tx, ?_⟩
    refine hrow.of (node_congr ?_ ?_)
    · unfold pJ pN digF
      split
      · rfl
      · rw [if_pos (by omega)]
    · intro i hi
      unfold rJ rN digF
      by_cases h4 : shpD (byt c a) = 4
      · rw [h4, if_pos ⟨rfl, hi⟩, if_pos rfl, if_pos hi]
      · rw [if_neg (fun hh => h4 hh.1), if_neg h4]
  | [x], hx =>
    have hp : pJ (fun i => dig c (a + 1 + i)) (shpD (byt c a)) = digF c (a + 1) (shpD (byt c a)) 0 := by
      have hle := shpD_le1 hP (by rw [← hx]; simp)
      unfold pJ digF
      by_cases h0 : shpD (byt c a) = 0
      · rw [if_pos h0, if_neg (by omega)]
      · have h1 : shpD (byt c a) = 1 := by omega
        rw [h1, if_neg (by omega), if_pos (by omega)]
    obtain ⟨g, cap, cur, hv, hBg, hgl, hr, hcur⟩ := h.row (by simp)
    have hbl := h.len
    obtain ⟨b1, hb1⟩ : ∃ b1, bs[0]? = some b1 := by
      cases bs with
      | nil => simp at hbl
      | cons b _ => exact ⟨b, rfl⟩
    exact ⟨⟨hW, hBlt⟩, _, v, tx, g, cap, cur, b1, hrow.of (node_congr hp fun _ _ => rfl), hv, ⟨by omega, hgl⟩, hr, hcur 0 b1 hb1, hsub (h.kid 0 x b1 rfl hb1)⟩
  | [x, y], hx =>
    have hp : pJ (fun i => dig c (a + 1 + i)) (shpD (byt c a)) = digF c (a + 1) (shpD (byt c a)) 0 := by
      have hle := shpD_le1 hP (by rw [← hx]; simp)
      unfold pJ digF
      by_cases h0 : shpD (byt c a) = 0
      · rw [if_pos h0, if_neg (by omega)]
      · have h1 : shpD (byt c a) = 1 := by omega
        rw [h1, if_neg (by omega), if_pos (by omega)]
    obtain ⟨g, cap, cur, hv, hBg, hgl, hr, hcur⟩ := h.row (by simp)
    have hbl := h.len
    obtain ⟨b1, hb1⟩ : ∃ b1, bs[0]? = some b1 := ⟨bs[0]'(by rw [hbl]; simp), List.getElem?_eq_getElem _⟩
    obtain ⟨b2, hb2⟩ : ∃ b2, bs[1]? = some b2 := ⟨bs[1]'(by rw [hbl]; simp), List.getElem?_eq_getElem _⟩
    exact ⟨⟨hW, hBlt⟩, _, v, tx, g, cap, cur, b1, b2, hrow.of (node_congr hp fun _ _ => rfl), hv, ⟨by omega, hgl⟩, hr, hcur 0 b1 hb1, hcur 1 b2 hb2, hsub (h.kid 0 x b1 rfl hb1), hsub (h.kid 1 y b2 rfl hb2)⟩
  | x :: y :: z :: r, hx => simp at hx; omega
theorem pJ_succ (F : Nat → Nat) (j : Nat) : pJ F (j + 1) = F j := by unfold pJ; rw [if_neg (by omega)]; rfl
theorem rJ_upd (n : Nat) (F : Nat → Nat) (j : Nat) (h4 : n = 4) : ∀ i, upd (rJ n F j) j (F j) i = rJ n F (j + 1) i := fun i => by
  unfold upd rJ
  by_cases h : i = j
  · subst h; rw [if_pos rfl, if_pos ⟨h4, by omega⟩]
  · rw [if_neg h]
    by_cases h2 : i < j
    · rw [if_pos ⟨h4, h2⟩, if_pos ⟨h4, by omega⟩]
    · rw [if_neg (by omega), if_neg (by omega)]
theorem rJ_not (n : Nat) (F : Nat → Nat) (j k : Nat) (h4 : n ≠ 4) : ∀ i, rJ n F j i = rJ n F k i := fun i => by unfold rJ; rw [if_neg (fun h => h4 h.1), if_neg (fun h => h4 h.1)]
theorem ownsRow_below {w w' : World} {base : Nat} {e : TypeId} {size : Nat} {v : Value} {n : Nat} {xs : List Value} (h : w.ownsRow base e size v n xs) (hb : Below w.heap.size w w') : w'.ownsRow base e size v n xs :=
  h.kept (row := none) ⟨hb.os, hb.tape, hb.output, hb.size, fun k hk _ => hb.block k hk⟩ (by
    cases hv : v.ownBlock
    · exact .inl rfl
    · exact .inr (by simp))
theorem RowAt.grown {w w' : World} {b : Nat} {t : TypeId} {cs : Array Value} {row : Option Nat} (h : RowAt w b t cs) (hg : w.grownBy w' row) (hne : row ≠ some b) : RowAt w' b t cs :=
  (hg.block b h.lt fun e => hne e.symm).trans h
end Go.Proofs.Ytiaeakpgldpaiaa
namespace Go.Proofs.Ytiaeakpgldpaiaa
set_option linter.unusedSimpArgs false
set_option linter.unusedVariables false
set_option maxRecDepth 4000
open Go.RowKit

theorem rd_none {c : ByteArray} {f a np : Nat} (ha : a < c.size) (hP : shpP (byt c a) = (np : Int)) (h : digs c (a + 1) (shpD (byt c a)) = false ∨ seqRd c f np (a + 1 + shpD (byt c a)) = none) : rd c (f + 1) a = none := by
  rw [rd_seq ha hP]
  rcases h with h | h
  · rw [h]; rfl
  · rw [h]; split <;> rfl
theorem rd_some {c : ByteArray} {f a np e : Nat} {xs : List Ct} (ha : a < c.size) (hP : shpP (byt c a) = (np : Int)) (h : digs c (a + 1) (shpD (byt c a)) = true) (h' : seqRd c f np (a + 1 + shpD (byt c a)) = some (xs, e)) : rd c (f + 1) a = some (mkCt (byt c a) (digF c (a + 1) (shpD (byt c a))) xs, e) := by
  rw [rd_seq ha hP, if_pos h, h']; rfl
set_option maxHeartbeats 4000000 in
theorem i_readFrom (c : ByteArray) (hc : c.size ≤ 200) : ∀ (f a : Nat) (z : Int) (w : World), z = (a : Int) → c.size ≤ a + f → Calls Try.prog 189 #[.string c, .int .i64 z] w (RdPost w (rd c f a)) := by
  intro f
  induction f with
  | zero =>
    intro a z w hz hf
    subst hz
    go_enter Try.func189, Try.ntmps189
    go_wp2_with fail
    go_ret2
    exact ⟨Below.refl _ _, rfl⟩
  | succ f ih =>
    intro a z w hz hf
    subst hz
    have IH := Lib.hid ih; clear ih
    by_cases hlt : a < c.size
    rotate_left
    · have hr := rd_end (c := c) (f := f + 1) (a := a) (by omega)
      rw [hr]
      clear hr
      go_enter Try.func189, Try.ntmps189
      go_wp2_with fail
      go_ret2
      exact ⟨Below.refl _ _, rfl⟩
    have hbyt := byt_get c a hlt
    have hle := shpD_le (byt c a)
    rcases shpP_cases (byt c a) with ⟨hP, hbad⟩ | ⟨np, hnp, hP⟩
    · rw [hbad c f a rfl]
      rw [← hbyt] at hP hle
      have HP := Lib.hid hP; clear hP hbad hbyt
      go_enter Try.func189, Try.ntmps189
      go_wp2_with fail
      refine (i_shapeOf (c[a]'hlt) _ _ rfl).mono ?_
      rw [HP.out]
      rintro e w' ⟨rfl, rfl⟩
      go_wp2_with fail
      go_ret2
      exact ⟨Below.refl _ _, rfl⟩
    have hno := fun h => rd_none (f := f) hlt hP h
    have hyes := fun (e : Nat) (xs : List Ct) h h' => rd_some (f := f) (e := e) (xs := xs) hlt hP h h'
    have hwhole := fun (B : Nat) (wr : World) (S : Nat → Prop) (v : Value) (xs : List Ct) (bs : List Nat) (tx : ByteArray) (W : Nat) h h1 h2 h3 => Kids.whole (c := c) (a := a) (np := np) (B := B) (wr := wr) (S := S) (v := v) (xs := xs) (bs := bs) (tx := tx) (W := W) h hP hnp h1 h2 h3
    obtain ⟨n, hn⟩ : ∃ n, n = shpD (byt c a) := ⟨_, rfl⟩
    obtain ⟨op, hop⟩ : ∃ op, op = byt c a := ⟨_, rfl⟩
    rw [← hop] at hn hP hle
    rw [← hop, ← hn] at hno hyes hwhole
    rw [← hn] at hle
    have hopc : c[a]'hlt = op := by rw [hbyt, hop]
    have hPc : shpP (c[a]'hlt) = (np : Int) := by rw [hopc]; exact hP
    have hDc : shpD (c[a]'hlt) = n := by rw [hopc]; exact hn.symm
    have HPC := Lib.hid hPc; have HDC := Lib.hid hDc; have HNO := Lib.hid hno; have HOPC := Lib.hid hopc
    have HYES := Lib.hid hyes; have HW := Lib.hid hwhole
    clear hPc hDc hno hyes hwhole hopc hbyt hop hn hP
    by_cases hfar : a + 1 + n ≤ c.size
    rotate_left
    · have hr := HNO.out (.inl (digs_far hfar))
      rw [hr]
      clear hr
      go_enter Try.func189, Try.ntmps189
      go_wp2_with fail
      refine (i_shapeOf (c[a]'hlt) _ _ rfl).mono ?_
      rw [HPC.out, HDC.out]
      rintro e w' ⟨rfl, rfl⟩
      go_wp2_with fail
      go_ret2
      exact ⟨Below.refl _ _, rfl⟩
    obtain ⟨D, hD⟩ : ∃ D : Nat → Nat, D = fun i => dig c (a + 1 + i) := ⟨_, rfl⟩
    have HD := Lib.hid hD; clear hD
    have hrow0 : RowAt (w.alloc (.cells (node (c[a]'hlt) 0 (fun _ => 0) (.slice none 0 0) ⟨#[]⟩) 122)) w.heap.size 122 (node (c[a]'hlt) 0 (fun _ => 0) (.slice none 0 0) ⟨#[]⟩) := RowAt.fresh _ _ _
    have hb0 := bel_1 w (.cells (node (c[a]'hlt) 0 (fun _ => 0) (.slice none 0 0) ⟨#[]⟩) 122)
    have d1 : decide ((np : Int) < 0) = false := decide_eq_false (by omega)
    have d2 : decide ((c.size : Int) < (a : Int) + 1 + (n : Int)) = false := decide_eq_false (by omega)
    go_enter Try.func189, Try.ntmps189
    go_wp2_with fail
    refine (i_shapeOf (c[a]'hlt) _ _ rfl).mono ?_
    rw [HPC.out, HDC.out]
    rintro e w' ⟨rfl, rfl⟩
    go_wp2_with fail
    clear d1 d2
    go_loopw [10] (fun t wr => ∃ j : Nat, j ≤ n ∧ t = .int .i64 ((a : Int) + 1 + (j : Int)) ∧ Hid (∀ i, i < j → 0 ≤ hexVal (byt c (a + 1 + i))) ∧ RowAt wr w.heap.size 122 (node op (pJ D j) (rJ n D j) (.slice none 0 0) ⟨#[]⟩) ∧ Below w.heap.size w wr) (fun t _ => (a + 1 + n : Nat) - (intOf t).toNat)
    case atStart =>
      refine ⟨0, by omega, by go_num, Lib.hid fun i hi => by omega, ?_, hb0⟩
      exact hrow0.of (by rw [HOPC.out]; exact node_congr (R := fun _ => 0) (Q := rJ n D 0) rfl fun i _ => by unfold rJ; rw [if_neg (by omega)])
    case round =>
      clear hrow0 hb0
      obtain ⟨j, hj, rfl, HX, hrow, hbel⟩ := hrel
      by_cases hjn : j < n
      · have hlk : a + 1 + j < c.size := by omega
        have hg := byt_get c (a + 1 + j) hlk
        have HG := Lib.hid hg; clear hg
        by_cases hneg : hexVal (c[a + 1 + j]'hlk) < 0
        · have hr := HNO.out (.inl (digs_no hjn (by rw [← HG.out]; exact hneg)))
          rw [hr]
          clear hr
          go_wp2_with fail
          refine (i_digitOf (c[a + 1 + j]'hlk) _).mono ?_
          rintro e w' ⟨rfl, rfl⟩
          go_wp2_with fail
          go_ret2
          exact ⟨hbel, rfl⟩
        · have hv : hexVal (c[a + 1 + j]'hlk) = (D j : Int) := by rw [HG.out, HD.out]; exact hexVal_nat (by rw [← HG.out]; omega)
          have hnn : ¬ ((D j : Int) < 0) := by omega
          have HV := Lib.hid hv; clear hv
          have c1 : wr.cell? ⟨w.heap.size, 1, none⟩ = some (.int .i64 (pJ D j : Int)) := hrow.get 1
          have f1 := hrow.free 1
          have hnext : ∀ i, i < j + 1 → 0 ≤ hexVal (byt c (a + 1 + i)) := fun i hi => by
            rcases Nat.lt_or_ge i j with h | h
            · exact HX.out i h
            · obtain rfl : i = j := by omega
              rw [← HG.out]; omega
          have HN := Lib.hid hnext; clear hnext
          by_cases h4 : n = 4
          · have b4 : ((n : Int) == 4) = true := by simp [h4]
            have hj4 : j < 4 := by omega
            have c2 : wr.cell? ⟨w.heap.size, 2 + j, none⟩ = some (.int .i64 (rJ n D j j : Int)) := (hrow.get (2 + j)).trans (node_rget _ _ _ _ _ j hj4)
            have f2 := hrow.free (2 + j)
            have i1 := lt_cast hj4
            have ei : (a : Int) + 1 + (j : Int) - (a : Int) - 1 = (j : Int) := by omega
            have H4 := Lib.hid h4; clear h4
            go_wp2_with fail
            refine (i_digitOf (c[a + 1 + j]'hlk) _).mono ?_
            rw [HV.out]
            rintro e w' ⟨rfl, rfl⟩
            go_wp2_with fail
            go_roundw
            case rel =>
              refine ⟨j + 1, by omega, by go_num, HN, ?_, (hbel.setCell (by simp) _).setCell (by simp) _⟩
              have h := ((hrow.setAt 1 (.int .i64 (D j : Int))).setAt (2 + j) (.int .i64 (D j : Int)))
              rw [node_p, node_r _ _ _ _ _ _ j hj4] at h
              exact h.of (node_congr (pJ_succ D j).symm fun i _ => rJ_upd n D j H4.out i)
            case measure => simp [intOf]; omega
          · have b4 : ((n : Int) == 4) = false := by rw [beq_eq_false_iff_ne]; omega
            have H4 := Lib.hid h4; clear h4
            go_wp2_with fail
            refine (i_digitOf (c[a + 1 + j]'hlk) _).mono ?_
            rw [HV.out]
            rintro e w' ⟨rfl, rfl⟩
            go_wp2_with fail
            go_roundw
            case rel =>
              refine ⟨j + 1, by omega, by go_num, HN, ?_, hbel.setCell (by simp) _⟩
              have h := (hrow.setAt 1 (.int .i64 (D j : Int)))
              rw [node_p] at h
              exact h.of (node_congr (pJ_succ D j).symm fun i _ => rJ_not n D j (j + 1) H4.out i)
            case measure => simp [intOf]; omega
      · obtain rfl : j = n := by omega
        have hdigs : digs c (a + 1) j = true := (digs_iff _ _ _).2 ⟨by omega, HX.out⟩
        have HDG := Lib.hid hdigs; clear hdigs
        obtain ⟨i0, hi, hz0, hz1, hz2⟩ := info_parts infoPtr
        have HI := Lib.hid hi; have HZ0 := Lib.hid hz0; have HZ1 := Lib.hid hz1; have HZ2 := Lib.hid hz2
        clear hi hz0 hz1 hz2
        obtain ⟨P, hPd⟩ : ∃ P, P = pJ D j := ⟨_, rfl⟩
        obtain ⟨R, hRd⟩ : ∃ R, R = rJ j D j := ⟨_, rfl⟩
        rw [← hPd, ← hRd] at hrow
        have HPD := Lib.hid hPd; have HRD := Lib.hid hRd; clear hPd hRd
        go_wp2_with fail
        go_loopw [8, 71] (fun ev t wr => ∃ (m en : Nat) (xs : List Ct) (bs : List Nat) (v : Value) (S : Nat → Prop), m ≤ np ∧ t = .int .i64 m ∧ ev = .int .i64 en ∧ a + 1 ≤ en ∧ en ≤ c.size ∧ Hid (seqRd c f m (a + 1 + j) = some (xs, en) ∧ xs.length = m) ∧ RowAt wr w.heap.size 122 (node op P R v ⟨#[]⟩) ∧ Kids w.heap.size wr S v xs bs ∧ Below w.heap.size w wr) (fun _ t _ => np - (intOf t).toNat)
        case atStart => exact ⟨0, a + 1 + j, [], [], .slice none 0 0, _, by omega, rfl, by go_num, by omega, hfar, Lib.hid ⟨rfl, rfl⟩, hrow, Kids.start _ _, hbel⟩
        case round =>
          clear hrow hbel
          obtain ⟨m, en, xs, bs, v, S, hm, rfl, rfl, hen1, hen2, HS, hrow, hkids, hbel⟩ := hrel
          by_cases hmn : m < np
          · cases hr : rd c f en with
            | none =>
              have hrn := HNO.out (.inr (by
                have := seqRd_no HS.out.1 hr (np - (m + 1))
                rw [show m + 1 + (np - (m + 1)) = np from by omega] at this
                exact this))
              rw [hrn]
              have HR := Lib.hid hr; clear hr hrn
              go_wp2_with fail
              refine (IH.out en _ _ rfl (by omega)).mono ?_
              rw [HR.out]
              rintro e w1 ⟨hb1, rfl⟩
              go_wp2_with fail
              go_ret2
              exact ⟨bel_on' hbel hb1, rfl⟩
            | some r =>
              obtain ⟨x, e'⟩ := r
              have hg := rd_gt hr
              have hrs := seqRd_yes HS.out.1 hr
              have hml : xs.length = m := HS.out.2
              have HR := Lib.hid hr; have HRS := Lib.hid hrs; have HML := Lib.hid hml; clear hr hrs hml
              have hmx : xs.length ≤ 2 := by have := HML.out; omega
              go_wp2_with fail
              refine (IH.out en _ _ rfl (by omega)).mono ?_
              rw [HR.out]
              rintro e w1 ⟨hb1, b1, rfl, hct⟩
              have hrow1 := hrow.later hb1
              have hown1 := ownsRow_below hkids.own hb1
              have hown_lt := hkids.own.lt
              have hBlt := hrow.lt
              have hsz := hbel.size
              have hsz1 := hb1.size
              have hne : v.ownBlock ≠ some w.heap.size := fun e => by have := hown_lt _ e; omega
              have c6 : w1.cell? ⟨w.heap.size, 6, none⟩ = some v := hrow1.get 6
              have HCT := Lib.hid hct; have HNE := Lib.hid hne; have HB1 := Lib.hid hb1; have HOL := Lib.hid hown_lt
              clear hct hne hown_lt hb1
              go_wp2_with (at_builtin; refine wpList_append_lies _ rfl _ _ _ rfl (w.heap.size + 1) 85 i0 (.pointer none) 1 8 Try.underlying120 HI.out HZ0.out HZ1.out HZ2.out rfl (by decide) _ _ _ rfl (hown1.alloc _) ⟨w1.heap.size, 0, none⟩ 1 1 [.pointer (some ⟨b1, 0, none⟩)] rfl rfl (World.news_of_block (heap_alloc_new w1 _)) ?c2 (by decide) ?c3 ?c4 ?c5 _ rfl ?_)
              case c2 => simp [Value.oneCell']
              case c3 => unfold maxLen; omega
              case c4 => omega
              case c5 => simp; omega
              intro g cap w2 hown2 hgrow hlies hglt
              have hrow2 := (hrow1.alloc (.cells #[.pointer (some ⟨b1, 0, none⟩)] 85)).grown hgrow HNE.out
              have c62 : w2.cell? ⟨w.heap.size, 6, none⟩ = some v := hrow2.get 6
              have f62 := hrow2.free 6
              have hbel1 := bel_on' hbel HB1.out
              have hbel2 := (hbel1.alloc (by omega) (.cells #[.pointer (some ⟨b1, 0, none⟩)] 85)).grown hgrow (by simp; omega) (fun k hk => by have := HOL.out k hk; omega)
              have HOWN2 := Lib.hid hown2; have HGROW := Lib.hid hgrow; have HLIES := Lib.hid hlies
              clear hown2 hgrow hlies hown1 c6
              go_wp2_with fail
              go_roundw
              case rel =>
                refine ⟨m + 1, e', xs ++ [x], bs ++ [b1], _, _, by omega, by go_num, rfl, by omega, hg.2, Lib.hid ⟨HRS.out, by simp [HML.out]⟩, ?_, Kids.grow hkids hBlt HB1.out HCT.out HOWN2.out HGROW.out (by have := HLIES.out; simpa using this), hbel2.setCell (by simp) _⟩
                have h := hrow2.setAt 6 (.slice (some ⟨g, 0, none⟩) (xs.length + 1) cap)
                rw [node_v] at h
                exact h
              case measure => simp [intOf]; omega
          · obtain rfl : m = np := by omega
            have hres := HYES.out _ _ HDG.out HS.out.1
            have hml := HS.out.2
            have HML := Lib.hid hml; have HRES := Lib.hid hres; clear hres hml
            have c7 : wr.cell? ⟨w.heap.size, 7, none⟩ = some (.string ⟨#[]⟩) := hrow.get 7
            have f7 := hrow.free 7
            have hsz := hbel.size
            go_wp2_with fail
            go_ret2
            have hrow3 := hrow.setAt 7 (.string (c.extract a en))
            rw [node_t, HPD.out, HRD.out, HD.out] at hrow3
            (try unfold RdPost)
            rw [HRES.out]
            exact ⟨hbel.setCell (by simp) _, w.heap.size, rfl, HW.out _ _ _ _ _ _ _ _ (hkids.text 7 _) HML.out hrow3 (Nat.le_refl _)⟩
/-- What reading a whole contract leaves. -/
def CtPost (w : World) (c : ByteArray) (e : Ending) (w' : World) : Prop := Below w.heap.size w w' ∧
  match ctOf c with
  | none => e = .returned (.pointer none)
  | some x => ∃ b, e = .returned (.pointer (some ⟨b, 0, none⟩)) ∧ CtIn w' (fun k => w.heap.size ≤ k ∧ k < w'.heap.size) x b
set_option maxHeartbeats 1000000 in
theorem i_read (c : ByteArray) (w : World) : Calls Try.prog 113 #[.string c] w (CtPost w c) := by
  by_cases hc : c.size ≤ 200
  rotate_left
  · have hn : ctOf c = none := by unfold ctOf; rw [if_neg hc]
    unfold CtPost
    rw [hn]
    clear hn
    go_enter Try.func113, Try.ntmps113
    go_wp2_with fail
    go_ret
    exact ⟨Below.refl _ _, rfl⟩
  have hrd := i_readFrom c hc 201 0 0 w rfl (by omega)
  cases hr : rd c 201 0 with
  | none =>
    have hn : ctOf c = none := by
      cases h : ctOf c with
      | none => rfl
      | some x => have := ((ctOf_iff c x).1 h).2; rw [hr] at this; cases this
    rw [hr] at hrd
    have HRD := Lib.hid hrd; clear hrd hr
    unfold CtPost
    rw [hn]
    clear hn
    go_enter Try.func113, Try.ntmps113
    go_wp2_with fail
    refine HRD.out.mono ?_
    rintro e w1 ⟨hb, rfl⟩
    go_wp2_with fail
    go_ret
    exact ⟨hb, rfl⟩
  | some r =>
    obtain ⟨x, n⟩ := r
    have hg := rd_gt hr
    rw [hr] at hrd
    have HRD := Lib.hid hrd; clear hrd
    by_cases hn : n = c.size
    · have hx : ctOf c = some x := (ctOf_iff c x).2 ⟨hc, by rw [hr, hn]⟩
      have b1 : ((n : Int) != (c.size : Int)) = false := by rw [hn]; simp
      unfold CtPost
      rw [hx]
      clear hx hr hn
      go_enter Try.func113, Try.ntmps113
      go_wp2_with fail
      refine HRD.out.mono ?_
      rintro e w1 ⟨hb, b, rfl, hct⟩
      have HCT := Lib.hid hct; clear hct
      go_wp2_with fail
      go_ret
      exact ⟨hb, b, rfl, HCT.out⟩
    · have hx : ctOf c = none := by
        cases h : ctOf c with
        | none => rfl
        | some y =>
          have := ((ctOf_iff c y).1 h).2
          rw [hr] at this
          simp at this
          exact absurd this.2 hn
      have b1 : ((n : Int) != (c.size : Int)) = true := by rw [bne_iff_ne]; omega
      unfold CtPost
      rw [hx]
      have HN := Lib.hid hn
      clear hx hr hn
      go_enter Try.func113, Try.ntmps113
      go_wp2_with fail
      refine HRD.out.mono ?_
      rintro e w1 ⟨hb, b, rfl, hct⟩
      clear hct
      go_wp2_with fail
      go_ret
      exact ⟨hb, rfl⟩
end Go.Proofs.Ytiaeakpgldpaiaa
