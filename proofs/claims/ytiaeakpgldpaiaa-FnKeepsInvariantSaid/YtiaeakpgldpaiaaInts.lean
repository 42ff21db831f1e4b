/- Slices of whole numbers that a call has made, and the statements' own helpers on them. -/
import Derived.Test.YtiaeakpgldpaiaaProg
import Derived.Test.YtiaeakpgldpaiaaBase3
import Derived.Test.YtiaeakpgldpaiaaPlain6
import Derived.Deep.AppendLies
import Derived.OwnWalk
import Derived.Laws.OwnMore
namespace Go.Proofs.Ytiaeakpgldpaiaa
set_option linter.unusedSimpArgs false
set_option linter.unusedVariables false
set_option maxRecDepth 4000
open Go.RowKit

theorem infoInt : (Try.prog.info? 3).map (fun i => (i.zero, i.size, i.bytes)) = some (some (.int .i64 0), 1, 8) := by kernel_rfl
/-- The slice v holds the numbers zs, in a block from B on. -/
def IntsAt (B : Nat) (w : World) (v : Value) (zs : List Int) : Prop :=
  ∃ g cap cur, v = .slice (some ⟨g, 0, none⟩) zs.length cap ∧ B ≤ g ∧ RowAt w g 3 cur ∧ cur.size = cap ∧ zs.length ≤ cap ∧ cap ≤ maxLen ∧ ∀ (i : Nat) (z : Int), zs[i]? = some z → cur[i]? = some (Value.int .i64 z)
theorem IntsAt.later {B : Nat} {w w' : World} {v : Value} {zs : List Int} (h : IntsAt B w v zs) (hb : Below w.heap.size w w') : IntsAt B w' v zs := by
  obtain ⟨g, cap, cur, h1, h2, h3, h4⟩ := h
  exact ⟨g, cap, cur, h1, h2, h3.later hb, h4⟩
theorem IntsAt.of_lit {B g : Nat} {w : World} {zs : List Int} (hB : B ≤ g) (h : RowAt w g 3 (zs.map (Value.int .i64)).toArray) (hm : zs.length ≤ maxLen) : IntsAt B w (.slice (some ⟨g, 0, none⟩) zs.length zs.length) zs :=
  ⟨g, zs.length, _, rfl, hB, h, by simp, Nat.le_refl _, hm, fun i z hz => by simp [hz]⟩
theorem IntsAt.owns {B : Nat} {w : World} {v : Value} {zs : List Int} (h : IntsAt B w v zs) : w.ownsRow B 3 1 v zs.length (zs.map (Value.int .i64)) := by
  obtain ⟨g, cap, cur, rfl, h2, h3, h4, h5, h6, h7⟩ := h
  refine ⟨by simp, .inr ⟨g, cap, cur, rfl, h2, h3, h5, h6, by omega, ?_⟩⟩
  apply List.ext_getElem?
  intro i
  rw [List.getElem?_take, List.getElem?_map]
  by_cases hi : i < zs.length
  · rw [if_pos (by omega)]
    have hz : zs[i]? = some zs[i] := List.getElem?_eq_getElem hi
    have := h7 i _ hz
    rw [hz]
    simpa using this
  · rw [if_neg (by omega), List.getElem?_eq_none (by omega)]
    rfl
theorem IntsAt.of_owns {B g n cap : Nat} {w : World} {zs : List Int} (hn : n = zs.length) (h : w.ownsRow B 3 1 (.slice (some ⟨g, 0, none⟩) n cap) n (zs.map (Value.int .i64))) : IntsAt B w (.slice (some ⟨g, 0, none⟩) n cap) zs := by
  subst hn
  rcases h.2 with ⟨h', _⟩ | ⟨g', cap', cur, h', hb, hg, h5, h6, h4, htake⟩
  · simp at h'
  · simp only [Value.slice.injEq, Option.some.injEq, Addr.mk.injEq, and_true, true_and] at h'
    obtain ⟨rfl, rfl⟩ := h'
    refine ⟨g, cap, cur, rfl, hb, hg, by omega, h5, h6, fun i z hz => ?_⟩
    have hlt : i < zs.length := (List.getElem?_eq_some_iff.1 hz).1
    have : (cur.toList.take (zs.length * 1))[i]? = (zs.map (Value.int .i64))[i]? := by rw [htake]
    rw [List.getElem?_take, if_pos (by omega), List.getElem?_map, hz] at this
    simpa using this
theorem IntsAt.kept {B g1 : Nat} {w w' : World} {v : Value} {zs : List Int} (h : IntsAt B w v zs) (hg : w.grownBy w' (some g1)) (hne : ∀ g, v.ownBlock = some g → g ≠ g1) : IntsAt B w' v zs := by
  obtain ⟨g, cap, cur, rfl, h2, h3, h4⟩ := h
  exact ⟨g, cap, cur, rfl, h2, (hg.block g h3.lt (fun e => hne g rfl (by injection e))).trans h3, h4⟩
theorem IntsAt.block {B : Nat} {w : World} {v : Value} {zs : List Int} (h : IntsAt B w v zs) : ∃ g, v.ownBlock = some g ∧ B ≤ g ∧ g < w.heap.size := by
  obtain ⟨g, cap, cur, rfl, h2, h3, _⟩ := h
  exact ⟨g, rfl, h2, h3.lt⟩
theorem IntsAt.apart {B B' g1 : Nat} {w wx : World} {v v1 : Value} {zs zs1 : List Int} (h : IntsAt B w v zs) (h1 : IntsAt B' wx v1 zs1) (hg1 : v1.ownBlock = some g1) (hsz : w.heap.size ≤ B') : (∀ g, v.ownBlock = some g → g ≠ g1) := by
  intro g hg
  obtain ⟨ga, ha, _, ha3⟩ := h.block
  obtain ⟨gb, hb, hb2, _⟩ := h1.block
  rw [hg] at ha; rw [hg1] at hb
  cases ha; cases hb
  omega
/-- The marks. -/
def marks (n : Nat) : List Int := zrow n (fun i => (i : Int) + 1)
theorem marks_len (n : Nat) : (marks n).length = n := zrow_len _ _
theorem marks_get (n i : Nat) (h : i < n) : (marks n)[i]? = some ((i : Int) + 1) := zrow_get _ _ i h
theorem grown_set {w wr : World} {g i : Nat} {u : Value} (hg : w.grownBy wr (some g)) : w.grownBy (wr.setCell ⟨g, i, none⟩ u) (some g) :=
  ⟨hg.os, hg.tape, hg.output, by have := hg.size; simpa using this, fun k hk hne => (heap_setCell_other wr ⟨g, i, none⟩ k u (fun e => hne (by rw [e]))).trans (hg.block k hk hne)⟩
end Go.Proofs.Ytiaeakpgldpaiaa
