/- A slice of whole numbers that came in, and its copy. -/
import Derived.Test.YtiaeakpgldpaiaaInts
namespace Go.Proofs.Ytiaeakpgldpaiaa
set_option linter.unusedSimpArgs false
set_option linter.unusedVariables false
set_option maxRecDepth 4000
open Go.RowKit

/-- A slice that came in: nil, or len of the cap numbers zs from an address on. -/
def IsRow (k : IntKind) (W : World) (a : Option Addr) (len cap : Nat) (zs : List Int) : Prop :=
  (a = none ∧ len = 0 ∧ cap = 0 ∧ zs = []) ∨
  ∃ x, a = some x ∧ len ≤ cap ∧ cap ≤ maxLen ∧ zs.length = cap ∧ (∀ i, i < zs.length → W.cell? (x.add i) = some (.int k (zs.getD i 0))) ∧ ∀ n ∈ zs, (Lit.int k n).wf = true
theorem cell_lt {w : World} {a : Addr} {v : Value} (h : w.cell? a = some v) : a.block < w.heap.size := World.block_lt_of_cell? w a h
theorem IsRow.later {k : IntKind} {W W' : World} {a : Option Addr} {len cap : Nat} {zs : List Int} (h : IsRow k W a len cap zs) (hb : Below W.heap.size W W') : IsRow k W' a len cap zs := by
  rcases h with h | ⟨x, h1, h2, h3, h4, h5, h6⟩
  · exact .inl h
  · exact .inr ⟨x, h1, h2, h3, h4, fun i hi => (hb.cell (cell_lt (h5 i hi))).trans (h5 i hi), h6⟩
/-- A slice that came in, told by its elements alone. -/
def InRow (k : IntKind) (W : World) (a : Option Addr) (len cap : Nat) (zs : List Int) : Prop :=
  zs.length = len ∧ len ≤ cap ∧ cap ≤ maxLen ∧ (len = 0 ∨ ∃ b off, a = some ⟨b, off, none⟩ ∧ b < W.heap.size ∧ ∀ i, i < len → W.cell? ⟨b, off + i, none⟩ = some (.int k (zs.getD i 0)))
theorem IsRow.row {k : IntKind} {W : World} {a : Option Addr} {len cap : Nat} {zs : List Int} (h : IsRow k W a len cap zs) : InRow k W a len cap (zs.take len) := by
  rcases h with ⟨rfl, rfl, rfl, rfl⟩ | ⟨x, rfl, h2, h3, h4, h5, _⟩
  · exact ⟨rfl, Nat.le_refl _, Nat.zero_le _, .inl rfl⟩
  · refine ⟨by rw [List.length_take]; omega, h2, h3, ?_⟩
    by_cases h0 : len = 0
    · exact .inl h0
    · right
      have c0 := h5 0 (by omega)
      have hs : x.spot = none := by
        have := World.cell?_spot c0
        rwa [show x.add 0 = x from rfl] at this
      obtain ⟨b, off, spot⟩ := x
      have hs' : spot = none := hs
      subst hs'
      refine ⟨b, off, rfl, ?_, fun i hi => ?_⟩
      · have := cell_lt c0; rwa [show (⟨b, off, none⟩ : Addr).add 0 = ⟨b, off, none⟩ from rfl] at this
      · have := h5 i (by omega)
        rw [show (⟨b, off, none⟩ : Addr).add i = ⟨b, off + i, none⟩ from by cases i <;> rfl] at this
        rw [this]
        congr 2
        rw [List.getD_eq_getElem?_getD, List.getD_eq_getElem?_getD, List.getElem?_take, if_pos hi]
theorem InRow.later {k : IntKind} {W W' : World} {a : Option Addr} {len cap : Nat} {zs : List Int} (h : InRow k W a len cap zs) (hb : Below W.heap.size W W') : InRow k W' a len cap zs := by
  obtain ⟨h1, h2, h3, h4⟩ := h
  refine ⟨h1, h2, h3, ?_⟩
  rcases h4 with h4 | ⟨b, off, h5, h6, h7⟩
  · exact .inl h4
  · exact .inr ⟨b, off, h5, by have := hb.size; omega, fun i hi => (hb.cell (p := ⟨b, off + i, none⟩) h6).trans (h7 i hi)⟩
end Go.Proofs.Ytiaeakpgldpaiaa
