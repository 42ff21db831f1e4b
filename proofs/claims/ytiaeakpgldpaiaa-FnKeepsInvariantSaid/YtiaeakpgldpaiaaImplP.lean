/- The program's reading of contracts: the statements in memory. -/
import Derived.Test.YtiaeakpgldpaiaaImplL
import Derived.Test.YtiaeakpgldpaiaaPlain8
import Derived.Test.YtiaeakpgldpaiaaBase3
import Derived.Deep.AppendLies
import Derived.OwnWalk
import Derived.Laws.OwnMore
namespace Go.Proofs.Ytiaeakpgldpaiaa
set_option linter.unusedSimpArgs false
set_option linter.unusedVariables false
set_option maxRecDepth 4000
open Go.RowKit

theorem RowAt.setAt {w : World} {b : Nat} {t : TypeId} {cs : Array Value} (h : RowAt w b t cs) (i : Nat) (v : Value) : RowAt (w.setCell ⟨b, i, none⟩ v) b t (cs.setIfInBounds i v) := heap_setCell_same w b i _ t v h
/-- A statement's cells: its letter, its condition, its relation, its parts, its text. -/
def node (op : UInt8) (p : Nat) (R : Nat → Nat) (v : Value) (tx : ByteArray) : Array Value := #[.int .u8 (op.toNat : Int), .int .i64 (p : Int), .int .i64 (R 0 : Int), .int .i64 (R 1 : Int), .int .i64 (R 2 : Int), .int .i64 (R 3 : Int), v, .string tx]
theorem node_p (op : UInt8) (p q : Nat) (R : Nat → Nat) (v : Value) (tx : ByteArray) : (node op p R v tx).setIfInBounds 1 (.int .i64 (q : Int)) = node op q R v tx := rfl
theorem node_r (op : UInt8) (p q : Nat) (R : Nat → Nat) (v : Value) (tx : ByteArray) (j : Nat) (hj : j < 4) : (node op p R v tx).setIfInBounds (2 + j) (.int .i64 (q : Int)) = node op p (upd R j q) v tx := by
  have h : j = 0 ∨ j = 1 ∨ j = 2 ∨ j = 3 := by omega
  rcases h with rfl | rfl | rfl | rfl <;> rfl
theorem node_v (op : UInt8) (p : Nat) (R : Nat → Nat) (v u : Value) (tx : ByteArray) : (node op p R v tx).setIfInBounds 6 u = node op p R u tx := rfl
theorem node_t (op : UInt8) (p : Nat) (R : Nat → Nat) (v : Value) (tx ty : ByteArray) : (node op p R v tx).setIfInBounds 7 (.string ty) = node op p R v ty := rfl
theorem node_congr {op : UInt8} {p q : Nat} {R Q : Nat → Nat} {v : Value} {tx : ByteArray} (h : p = q) (h' : ∀ i, i < 4 → R i = Q i) : node op p R v tx = node op q Q v tx := by
  unfold node
  rw [h, h' 0 (by omega), h' 1 (by omega), h' 2 (by omega), h' 3 (by omega)]
theorem node_rget (op : UInt8) (p : Nat) (R : Nat → Nat) (v : Value) (tx : ByteArray) (j : Nat) (hj : j < 4) : (node op p R v tx)[2 + j]? = some (.int .i64 (R j : Int)) := by
  have h : j = 0 ∨ j = 1 ∨ j = 2 ∨ j = 3 := by omega
  rcases h with rfl | rfl | rfl | rfl <;> rfl
/-- The condition's cell behind n digits; the relation's cells. -/
def pN (n : Nat) (F : Nat → Nat) : Nat := if n = 0 then 0 else F (n - 1)
def rN (n : Nat) (F : Nat → Nat) : Nat → Nat := fun i => if n = 4 then F i else 0
/-- Half of the digits read. -/
def pJ (F : Nat → Nat) (j : Nat) : Nat := if j = 0 then 0 else F (j - 1)
def rJ (n : Nat) (F : Nat → Nat) (j : Nat) : Nat → Nat := fun i => if n = 4 ∧ i < j then F i else 0
/-- The contract x lies in memory at the block b, all of it in the blocks S. -/
def CtIn (w : World) (S : Nat → Prop) : Ct → Nat → Prop
  | .leaf op F, b => S b ∧ ∃ v tx, RowAt w b 122 (node op (pN (shpD op) F) (rN (shpD op) F) v tx)
  | .un op p x, b => S b ∧ ∃ R v tx g cap cur b1, RowAt w b 122 (node op p R v tx) ∧ v = .slice (some ⟨g, 0, none⟩) 1 cap ∧ S g ∧ RowAt w g 85 cur ∧ cur[0]? = some (.pointer (some ⟨b1, 0, none⟩)) ∧ CtIn w S x b1
  | .bin op p x y, b => S b ∧ ∃ R v tx g cap cur b1 b2, RowAt w b 122 (node op p R v tx) ∧ v = .slice (some ⟨g, 0, none⟩) 2 cap ∧ S g ∧ RowAt w g 85 cur ∧ cur[0]? = some (.pointer (some ⟨b1, 0, none⟩)) ∧ cur[1]? = some (.pointer (some ⟨b2, 0, none⟩)) ∧ CtIn w S x b1 ∧ CtIn w S y b2
theorem CtIn.frame {w w' : World} {S S' : Nat → Prop} (hs : ∀ k, S k → S' k ∧ w'.heap[k]? = w.heap[k]?) : ∀ {x : Ct} {b : Nat}, CtIn w S x b → CtIn w' S' x b
  | .leaf op F, b, ⟨h1, v, tx, h2⟩ => ⟨(hs b h1).1, v, tx, (hs b h1).2.trans h2⟩
  | .un op p x, b, ⟨h1, R, v, tx, g, cap, cur, b1, h2, h3, h4, h5, h6, h7⟩ => ⟨(hs b h1).1, R, v, tx, g, cap, cur, b1, (hs b h1).2.trans h2, h3, (hs g h4).1, (hs g h4).2.trans h5, h6, CtIn.frame hs h7⟩
  | .bin op p x y, b, ⟨h1, R, v, tx, g, cap, cur, b1, b2, h2, h3, h4, h5, h6, h7, h8, h9⟩ => ⟨(hs b h1).1, R, v, tx, g, cap, cur, b1, b2, (hs b h1).2.trans h2, h3, (hs g h4).1, (hs g h4).2.trans h5, h6, h7, CtIn.frame hs h8, CtIn.frame hs h9⟩
theorem CtIn.later {w w' : World} {S : Nat → Prop} {x : Ct} {b : Nat} (h : CtIn w S x b) (hS : ∀ k, S k → k < w.heap.size) (hb : Below w.heap.size w w') : CtIn w' S x b :=
  CtIn.frame (fun k hk => ⟨hk, hb.block k (hS k hk)⟩) h
/-- What reading leaves. -/
def RdPost (w : World) (o : Option (Ct × Nat)) (e : Ending) (w' : World) : Prop := Below w.heap.size w w' ∧
  match o with
  | none => e = .returned (.tuple #[.pointer none, .int .i64 0])
  | some (x, n) => ∃ b, e = .returned (.tuple #[.pointer (some ⟨b, 0, none⟩), .int .i64 (n : Int)]) ∧ CtIn w' (fun k => w.heap.size ≤ k ∧ k < w'.heap.size) x b
set_option maxHeartbeats 2000000 in
theorem i_shapeOf (op : UInt8) (z : Int) (w : World) (hz : z = (op.toNat : Int)) : Calls Try.prog 240 #[.int .u8 z] w fun e w' => e = .returned (.tuple #[.int .i64 (shpP op), .int .i64 (shpD op : Int)]) ∧ w = w' := by
  rcases letters op with (hop | hop | hop) | (hop | hop) | (hop | hop) | (hop | hop | hop) | hop | hop | (hop | hop) | hop
  · subst hop
    have hz' : z = 115 := hz
    subst hz'
    clear hz
    go_enter Try.func240, Try.ntmps240
    go_wp2_with fail
    go_ret2
    exact ⟨rfl, rfl⟩
  · subst hop
    have hz' : z = 97 := hz
    subst hz'
    clear hz
    go_enter Try.func240, Try.ntmps240
    go_wp2_with fail
    go_ret2
    exact ⟨rfl, rfl⟩
  · subst hop
    have hz' : z = 109 := hz
    subst hz'
    clear hz
    go_enter Try.func240, Try.ntmps240
    go_wp2_with fail
    go_ret2
    exact ⟨rfl, rfl⟩
  · subst hop
    have hz' : z = 33 := hz
    subst hz'
    clear hz
    go_enter Try.func240, Try.ntmps240
    go_wp2_with fail
    go_ret2
    exact ⟨rfl, rfl⟩
  · subst hop
    have hz' : z = 63 := hz
    subst hz'
    clear hz
    go_enter Try.func240, Try.ntmps240
    go_wp2_with fail
    go_ret2
    exact ⟨rfl, rfl⟩
  · subst hop
    have hz' : z = 65 := hz
    subst hz'
    clear hz
    go_enter Try.func240, Try.ntmps240
    go_wp2_with fail
    go_ret2
    exact ⟨rfl, rfl⟩
  · subst hop
    have hz' : z = 68 := hz
    subst hz'
    clear hz
    go_enter Try.func240, Try.ntmps240
    go_wp2_with fail
    go_ret2
    exact ⟨rfl, rfl⟩
  · subst hop
    have hz' : z = 59 := hz
    subst hz'
    clear hz
    go_enter Try.func240, Try.ntmps240
    go_wp2_with fail
    go_ret2
    exact ⟨rfl, rfl⟩
  · subst hop
    have hz' : z = 38 := hz
    subst hz'
    clear hz
    go_enter Try.func240, Try.ntmps240
    go_wp2_with fail
    go_ret2
    exact ⟨rfl, rfl⟩
  · subst hop
    have hz' : z = 124 := hz
    subst hz'
    clear hz
    go_enter Try.func240, Try.ntmps240
    go_wp2_with fail
    go_ret2
    exact ⟨rfl, rfl⟩
  · subst hop
    have hz' : z = 105 := hz
    subst hz'
    clear hz
    go_enter Try.func240, Try.ntmps240
    go_wp2_with fail
    go_ret2
    exact ⟨rfl, rfl⟩
  · subst hop
    have hz' : z = 119 := hz
    subst hz'
    clear hz
    go_enter Try.func240, Try.ntmps240
    go_wp2_with fail
    go_ret2
    exact ⟨rfl, rfl⟩
  · subst hop
    have hz' : z = 42 := hz
    subst hz'
    clear hz
    go_enter Try.func240, Try.ntmps240
    go_wp2_with fail
    go_ret2
    exact ⟨rfl, rfl⟩
  · subst hop
    have hz' : z = 43 := hz
    subst hz'
    clear hz
    go_enter Try.func240, Try.ntmps240
    go_wp2_with fail
    go_ret2
    exact ⟨rfl, rfl⟩
  · obtain ⟨hb1, hb2⟩ := shpP_bad (noLetter_leaf hop) (noLetter_un hop) (noLetter_bin hop)
    have H1 := Lib.hid hb1; have H2 := Lib.hid hb2; clear hb1 hb2
    obtain ⟨⟨n1, n2, n3, n4, n5, n6, n7⟩, n8, n9, n10, n11, n12, n13, n14⟩ := hop
    have m1 := byte_ne (n := 115) (by omega) n1; have m2 := byte_ne (n := 97) (by omega) n2; have m3 := byte_ne (n := 109) (by omega) n3
    have m4 := byte_ne (n := 33) (by omega) n4; have m5 := byte_ne (n := 63) (by omega) n5; have m6 := byte_ne (n := 65) (by omega) n6; have m7 := byte_ne (n := 68) (by omega) n7
    have m8 := byte_ne (n := 59) (by omega) n8; have m9 := byte_ne (n := 38) (by omega) n9; have m10 := byte_ne (n := 124) (by omega) n10; have m11 := byte_ne (n := 105) (by omega) n11
    have m12 := byte_ne (n := 119) (by omega) n12; have m13 := byte_ne (n := 42) (by omega) n13; have m14 := byte_ne (n := 43) (by omega) n14
    clear n1 n2 n3 n4 n5 n6 n7 n8 n9 n10 n11 n12 n13 n14
    simp only [Int.cast_ofNat_Int] at m1 m2 m3 m4 m5 m6 m7 m8 m9 m10 m11 m12 m13 m14
    rw [← hz] at m1 m2 m3 m4 m5 m6 m7 m8 m9 m10 m11 m12 m13 m14
    clear hz
    go_enter Try.func240, Try.ntmps240
    go_wp2_with fail
    go_ret2
    exact ⟨by rw [H1.out, H2.out]; rfl, rfl⟩
end Go.Proofs.Ytiaeakpgldpaiaa
