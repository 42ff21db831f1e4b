/- A slice of whole numbers that came in, and its copy. -/
import Derived.Test.YtmhiphcnclkhhaaInts
namespace Go.Proofs.Ytmhiphcnclkhhaa
set_option linter.unusedSimpArgs false
set_option linter.unusedVariables false
set_option maxRecDepth 4000
open Go.RowKit

/-- A slice that came in: nil, or len of the cap numbers zs from an address on. -/
def IsRow (k : IntKind) (W : World) (a : Option Addr) (len cap : Nat) (zs : List Int) : Prop :=
  (a = none ∧ len = 0 ∧ cap = 0 ∧ zs = []) ∨
  ∃ x, a = some x ∧ len ≤ cap ∧ cap ≤ maxLen ∧ zs.length = cap ∧ (∀ i, i < zs.length → W.cell? (x.add i) = some (.int k (zs.getD i 0))) ∧ ∀ n ∈ zs, (Lit.int k n).wf = true
theorem cell_lt {w : World} {a : Addr} {v : Value} (h : w.cell? a = some v) : a.block < w.heap.size := World.block_lt_of_cell? w a h
theorem IsRow.later {k : IntKind} {W W' : World} {a : Option Addr} {len cap : Nat} {zs : List Int} (h : IsRow k W a len cap zs) (hb : Below W.heap.size W W') : IsRow k W' a len cap zs := by
  rcases h with h | ⟨x, h1, h2, h3, h4, h5, h6⟩
  · exact .inl h
  · exact .inr ⟨x, h1, h2, h3, h4, fun i hi => (hb.cell (cell_lt (h5 i hi))).trans (h5 i hi), h6⟩
/-- A slice that came in, told by its elements alone. -/
def InRow (k : IntKind) (W : World) (a : Option Addr) (len cap : Nat) (zs : List Int) : Prop :=
  zs.length = len ∧ len ≤ cap ∧ cap ≤ maxLen ∧ (len = 0 ∨ ∃ b off, a = some ⟨b, off, none⟩ ∧ b < W.heap.size ∧ ∀ i, i < len → W.cell? ⟨b, off + i, none⟩ = some (.int k (zs.getD i 0)))
theorem IsRow.row {k : IntKind} {W : World} {a : Option Addr} {len cap : Nat} {zs : List Int} (h : IsRow k W a len cap zs) : InRow k W a len cap (zs.take len) := by
  rcases h with ⟨rfl, rfl, rfl, rfl⟩ | ⟨x, rfl, h2, h3, h4, h5, _⟩
  · exact ⟨rfl, Nat.le_refl _, Nat.zero_le _, .inl rfl⟩
  · refine ⟨by rw [List.length_take]; omega, h2, h3, ?_⟩
    by_cases h0 : len = 0
    · exact .inl h0
    · right
      have c0 := h5 0 (by omega)
      have hs : x.spot = none := by
        have := World.cell?_spot c0
        rwa [show x.add 0 = x from rfl] at this
      obtain ⟨b, off, spot⟩ := x
      have hs' : spot = none := hs
      subst hs'
      refine ⟨b, off, rfl, ?_, fun i hi => ?_⟩
      · have := cell_lt c0; rwa [show (⟨b, off, none⟩ : Addr).add 0 = ⟨b, off, none⟩ from rfl] at this
      · have := h5 i (by omega)
        rw [show (⟨b, off, none⟩ : Addr).add i = ⟨b, off + i, none⟩ from by cases i <;> rfl] at this
        rw [this]
        congr 2
        rw [List.getD_eq_getElem?_getD, List.getD_eq_getElem?_getD, List.getElem?_take, if_pos hi]
set_option maxHeartbeats 1000000 in
theorem l_toIntS (a : Option Addr) (len cap : Nat) (zs : List Int) (w : World) (h : InRow .i64 w a len cap zs) (hn : len ≤ 1048576) : Calls Try.prog 16 #[.slice a len cap] w fun e w' => ∃ v, e = .returned v ∧ IntsAt w.heap.size w' v zs ∧ Below w.heap.size w w' := by
  obtain ⟨h1, h2, h3, h4⟩ := h
  obtain ⟨i0, hi, hz0, hz1, hz2⟩ := info_parts infoInt
  have HI := Lib.hid hi; have HZ0 := Lib.hid hz0; have HZ1 := Lib.hid hz1; have HZ2 := Lib.hid hz2; have H1 := Lib.hid h1; have H4 := Lib.hid h4
  clear hi hz0 hz1 hz2 h1 h4
  have hby : i0.bytes * len ≤ 281474976710656 := by rw [HZ2.out]; omega
  have hml : len ≤ maxLen := by unfold maxLen; omega
  go_enter Try.func16, Try.ntmps16
  go_wp2_with (refine wpList_make_full _ rfl _ _ 22 rfl w.heap.size 3 i0 (.int .i64 0) 1 Try.underlying22 HI.out HZ0.out HZ1.out .i64 .i64 _ _ len rfl rfl rfl rfl hby hml (Nat.le_refl _) ?_)
  intro w1 hown hgrow
  have hb1 : Below w.heap.size w w1 := (Below.refl w.heap.size w).grown hgrow (Nat.le_refl _) (fun k hk => by cases hk)
  obtain ⟨cur, hcur, hcs⟩ : ∃ cur, RowAt w1 w.heap.size 3 cur ∧ cur.size = len := by
    rcases hown.2 with ⟨h', _⟩ | ⟨g', cap', cur, h', _, hg, _, _, h4, _⟩
    · simp at h'
    · simp only [Value.slice.injEq, Option.some.injEq, Addr.mk.injEq, and_true, true_and] at h'
      obtain ⟨rfl, rfl⟩ := h'
      exact ⟨cur, hg, by omega⟩
  have HCS := Lib.hid hcs
  clear hown hgrow hcs
  go_wp2_with fail
  go_loopw [4] (fun i wr => ∃ (k : Nat) (cu : Array Value), k ≤ len ∧ i = .int .i64 k ∧ RowAt wr w.heap.size 3 cu ∧ Hid (cu.size = len ∧ ∀ j, j < k → cu[j]? = some (Value.int .i64 (zs.getD j 0))) ∧ Below w.heap.size w wr) (fun i _ => len - (intOf i).toNat)
  case atStart => exact ⟨0, cur, by omega, rfl, hcur, Lib.hid ⟨HCS.out, fun j hj => by omega⟩, hb1⟩
  case round =>
    clear hcur hb1
    obtain ⟨k, cu, hk, rfl, r1, HC, hbel⟩ := hrel
    by_cases hlt : k < len
    · obtain ⟨b, off, ha, hbl, hcell⟩ := H4.out.resolve_left (by omega)
      subst ha
      have hkc : k < cu.size := by have := HC.out.1; omega
      obtain ⟨u, hu⟩ : ∃ u, cu[k]? = some u := ⟨cu[k], Array.getElem?_eq_getElem hkc⟩
      have c0 : wr.cell? ⟨b, off + k, none⟩ = some (.int .i64 (zs.getD k 0)) := (hbel.cell (p := ⟨b, off + k, none⟩) hbl).trans (hcell k hlt)
      have c1 : wr.cell? ⟨w.heap.size, k, none⟩ = some u := (r1.get k).trans hu
      have f1 := r1.free k
      have i1 := lt_cast hlt
      clear hu hcell
      obtain ⟨z, hz⟩ : ∃ z, z = zs.getD k 0 := ⟨_, rfl⟩
      rw [← hz] at c0
      have HZ := Lib.hid hz; clear hz
      go_wp2_with fail
      (try go_region)
      all_goals
        (try go_wp2_with fail)
        go_roundw
        case rel =>
          refine ⟨k + 1, cu.setIfInBounds k (.int .i64 z), by omega, by go_num, heap_setCell_same wr w.heap.size k cu 3 (.int .i64 z) r1, Lib.hid ⟨by rw [Array.size_setIfInBounds]; exact HC.out.1, fun j hj => ?_⟩, hbel.setCell (by simp) _⟩
          rw [Array.getElem?_setIfInBounds]
          by_cases e : k = j
          · subst e; rw [if_pos rfl, if_pos hkc, HZ.out]
          · rw [if_neg e]; exact HC.out.2 j (by omega)
        case measure => simp [intOf]; omega
    · obtain rfl : k = len := by omega
      go_wp2_with fail
      go_ret
      refine ⟨.slice (some ⟨w.heap.size, 0, none⟩) k k, rfl, ⟨w.heap.size, k, cu, by rw [H1.out], Nat.le_refl _, r1, HC.out.1, by rw [H1.out]; exact Nat.le_refl _, by unfold maxLen; omega, fun i z hi => ?_⟩, hbel⟩
      have hlt2 : i < k := by have := (List.getElem?_eq_some_iff.1 hi).1; rw [H1.out] at this; exact this
      rw [HC.out.2 i hlt2, List.getD_eq_getElem?_getD, hi]
      rfl
theorem InRow.later {k : IntKind} {W W' : World} {a : Option Addr} {len cap : Nat} {zs : List Int} (h : InRow k W a len cap zs) (hb : Below W.heap.size W W') : InRow k W' a len cap zs := by
  obtain ⟨h1, h2, h3, h4⟩ := h
  refine ⟨h1, h2, h3, ?_⟩
  rcases h4 with h4 | ⟨b, off, h5, h6, h7⟩
  · exact .inl h4
  · exact .inr ⟨b, off, h5, by have := hb.size; omega, fun i hi => (hb.cell (p := ⟨b, off + i, none⟩) h6).trans (h7 i hi)⟩
end Go.Proofs.Ytmhiphcnclkhhaa
