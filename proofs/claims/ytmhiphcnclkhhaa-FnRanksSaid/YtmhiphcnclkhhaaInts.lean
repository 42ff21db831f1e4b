/- Slices of whole numbers that a call has made, and the statements' own helpers on them. -/
import Derived.Test.YtmhiphcnclkhhaaProg
import Derived.Test.YtmhiphcnclkhhaaBase3
import Derived.Test.YtmhiphcnclkhhaaPlain6
import Derived.Deep.AppendLies
import Derived.OwnWalk
import Derived.Laws.OwnMore
namespace Go.Proofs.Ytmhiphcnclkhhaa
set_option linter.unusedSimpArgs false
set_option linter.unusedVariables false
set_option maxRecDepth 4000
open Go.RowKit

theorem infoInt : (Try.prog.info? 3).map (fun i => (i.zero, i.size, i.bytes)) = some (some (.int .i64 0), 1, 8) := by kernel_rfl
/-- The slice v holds the numbers zs, in a block from B on. -/
def IntsAt (B : Nat) (w : World) (v : Value) (zs : List Int) : Prop :=
  ∃ g cap cur, v = .slice (some ⟨g, 0, none⟩) zs.length cap ∧ B ≤ g ∧ RowAt w g 3 cur ∧ cur.size = cap ∧ zs.length ≤ cap ∧ cap ≤ maxLen ∧ ∀ (i : Nat) (z : Int), zs[i]? = some z → cur[i]? = some (Value.int .i64 z)
theorem IntsAt.later {B : Nat} {w w' : World} {v : Value} {zs : List Int} (h : IntsAt B w v zs) (hb : Below w.heap.size w w') : IntsAt B w' v zs := by
  obtain ⟨g, cap, cur, h1, h2, h3, h4⟩ := h
  exact ⟨g, cap, cur, h1, h2, h3.later hb, h4⟩
theorem IntsAt.of_lit {B g : Nat} {w : World} {zs : List Int} (hB : B ≤ g) (h : RowAt w g 3 (zs.map (Value.int .i64)).toArray) (hm : zs.length ≤ maxLen) : IntsAt B w (.slice (some ⟨g, 0, none⟩) zs.length zs.length) zs :=
  ⟨g, zs.length, _, rfl, hB, h, by simp, Nat.le_refl _, hm, fun i z hz => by simp [hz]⟩
theorem IntsAt.owns {B : Nat} {w : World} {v : Value} {zs : List Int} (h : IntsAt B w v zs) : w.ownsRow B 3 1 v zs.length (zs.map (Value.int .i64)) := by
  obtain ⟨g, cap, cur, rfl, h2, h3, h4, h5, h6, h7⟩ := h
  refine ⟨by simp, .inr ⟨g, cap, cur, rfl, h2, h3, h5, h6, by omega, ?_⟩⟩
  apply List.ext_getElem?
  intro i
  rw [List.getElem?_take, List.getElem?_map]
  by_cases hi : i < zs.length
  · rw [if_pos (by omega)]
    have hz : zs[i]? = some zs[i] := List.getElem?_eq_getElem hi
    have := h7 i _ hz
    rw [hz]
    simpa using this
  · rw [if_neg (by omega), List.getElem?_eq_none (by omega)]
    rfl
theorem IntsAt.of_owns {B g n cap : Nat} {w : World} {zs : List Int} (hn : n = zs.length) (h : w.ownsRow B 3 1 (.slice (some ⟨g, 0, none⟩) n cap) n (zs.map (Value.int .i64))) : IntsAt B w (.slice (some ⟨g, 0, none⟩) n cap) zs := by
  subst hn
  rcases h.2 with ⟨h', _⟩ | ⟨g', cap', cur, h', hb, hg, h5, h6, h4, htake⟩
  · simp at h'
  · simp only [Value.slice.injEq, Option.some.injEq, Addr.mk.injEq, and_true, true_and] at h'
    obtain ⟨rfl, rfl⟩ := h'
    refine ⟨g, cap, cur, rfl, hb, hg, by omega, h5, h6, fun i z hz => ?_⟩
    have hlt : i < zs.length := (List.getElem?_eq_some_iff.1 hz).1
    have : (cur.toList.take (zs.length * 1))[i]? = (zs.map (Value.int .i64))[i]? := by rw [htake]
    rw [List.getElem?_take, if_pos (by omega), List.getElem?_map, hz] at this
    simpa using this
theorem IntsAt.kept {B g1 : Nat} {w w' : World} {v : Value} {zs : List Int} (h : IntsAt B w v zs) (hg : w.grownBy w' (some g1)) (hne : ∀ g, v.ownBlock = some g → g ≠ g1) : IntsAt B w' v zs := by
  obtain ⟨g, cap, cur, rfl, h2, h3, h4⟩ := h
  exact ⟨g, cap, cur, rfl, h2, (hg.block g h3.lt (fun e => hne g rfl (by injection e))).trans h3, h4⟩
theorem IntsAt.block {B : Nat} {w : World} {v : Value} {zs : List Int} (h : IntsAt B w v zs) : ∃ g, v.ownBlock = some g ∧ B ≤ g ∧ g < w.heap.size := by
  obtain ⟨g, cap, cur, rfl, h2, h3, _⟩ := h
  exact ⟨g, rfl, h2, h3.lt⟩
theorem IntsAt.apart {B B' g1 : Nat} {w wx : World} {v v1 : Value} {zs zs1 : List Int} (h : IntsAt B w v zs) (h1 : IntsAt B' wx v1 zs1) (hg1 : v1.ownBlock = some g1) (hsz : w.heap.size ≤ B') : (∀ g, v.ownBlock = some g → g ≠ g1) := by
  intro g hg
  obtain ⟨ga, ha, _, ha3⟩ := h.block
  obtain ⟨gb, hb, hb2, _⟩ := h1.block
  rw [hg] at ha; rw [hg1] at hb
  cases ha; cases hb
  omega
set_option maxHeartbeats 1000000 in
theorem l_eqIntS (B B' : Nat) (va vb : Value) (zs : List Int) (w : World) (ha : IntsAt B w va zs) (hb : IntsAt B' w vb zs) (hn : zs.length ≤ 1048576) : Calls Try.prog 18 #[va, vb] w fun e w' => e = .returned (.bool true) ∧ Below w.heap.size w w' := by
  obtain ⟨ga, ca, ra, rfl, _, a3, a4, a5, a6, a7⟩ := ha
  obtain ⟨gb, cb, rb, rfl, _, b3, b4, b5, b6, b7⟩ := hb
  have HA := Lib.hid a7; have HB := Lib.hid b7; clear a7 b7 a4 b4
  go_enter Try.func18, Try.ntmps18
  go_wp2_with fail
  go_loopw [5] (fun i wr => ∃ k : Nat, k ≤ zs.length ∧ i = .int .i64 k ∧ RowAt wr ga 3 ra ∧ RowAt wr gb 3 rb ∧ Below w.heap.size w wr) (fun i _ => zs.length - (intOf i).toNat)
  case atStart => exact ⟨0, by omega, rfl, a3, b3, Below.refl _ _⟩
  case round =>
    clear a3 b3
    obtain ⟨k, hk, rfl, r1, r2, hbel⟩ := hrel
    by_cases hlt : k < zs.length
    · obtain ⟨z, hz⟩ : ∃ z, zs[k]? = some z := ⟨zs[k], List.getElem?_eq_getElem hlt⟩
      have c1 : wr.cell? ⟨ga, k, none⟩ = some (.int .i64 z) := (r1.get k).trans (HA.out k z hz)
      have c2 : wr.cell? ⟨gb, k, none⟩ = some (.int .i64 z) := (r2.get k).trans (HB.out k z hz)
      have i1 := lt_cast hlt
      clear hz
      go_wp2_with fail
      go_quiet (fail)
      go_wp2_with fail
      go_roundw
      case rel => exact ⟨k + 1, by omega, by go_num, r1.drewN _, r2.drewN _, bel_drewN hbel _⟩
      case measure => simp [intOf]; omega
    · obtain rfl : k = zs.length := by omega
      go_wp2_with fail
      go_ret
      exact ⟨rfl, hbel⟩
/-- The marks. -/
def marks (n : Nat) : List Int := zrow n (fun i => (i : Int) + 1)
theorem marks_len (n : Nat) : (marks n).length = n := zrow_len _ _
theorem marks_get (n i : Nat) (h : i < n) : (marks n)[i]? = some ((i : Int) + 1) := zrow_get _ _ i h
theorem grown_set {w wr : World} {g i : Nat} {u : Value} (hg : w.grownBy wr (some g)) : w.grownBy (wr.setCell ⟨g, i, none⟩ u) (some g) :=
  ⟨hg.os, hg.tape, hg.output, by have := hg.size; simpa using this, fun k hk hne => (heap_setCell_other wr ⟨g, i, none⟩ k u (fun e => hne (by rw [e]))).trans (hg.block k hk hne)⟩
set_option maxHeartbeats 1000000 in
theorem l_markIntS (B n : Nat) (v : Value) (zs : List Int) (w : World) (hz : zs.length = n) (ha : IntsAt B w v zs) (hn : n ≤ 1048576) : Calls Try.prog 21 #[v, .int .i64 1] w fun e w' => e = .returned (.int .i64 ((n : Int) + 1)) ∧ IntsAt B w' v (marks n) ∧ ∃ g, v.ownBlock = some g ∧ w.grownBy w' (some g) := by
  obtain ⟨g, cap, cur, rfl, a2, a3, a4, a5, a6, a7⟩ := ha
  rw [hz] at a5 ⊢
  have HZ := Lib.hid hz; have H4 := Lib.hid a4; clear hz a7 a4
  go_enter Try.func21, Try.ntmps21
  go_wp2_with fail
  go_loopw [1, 5] (fun m i wr => ∃ (k : Nat) (cu : Array Value), k ≤ n ∧ i = .int .i64 k ∧ m = .int .i64 ((k : Int) + 1) ∧ RowAt wr g 3 cu ∧ Hid (cu.size = cap ∧ ∀ j, j < k → cu[j]? = some (Value.int .i64 ((j : Int) + 1))) ∧ w.grownBy wr (some g)) (fun _ i _ => n - (intOf i).toNat)
  case atStart => exact ⟨0, cur, by omega, rfl, rfl, a3, Lib.hid ⟨H4.out, fun j hj => by omega⟩, World.grownBy.refl _ _⟩
  case round =>
    clear a3
    obtain ⟨k, cu, hk, rfl, rfl, r1, HC, hg⟩ := hrel
    by_cases hlt : k < n
    · have hkc : k < cu.size := by have := HC.out.1; omega
      obtain ⟨u, hu⟩ : ∃ u, cu[k]? = some u := ⟨cu[k], Array.getElem?_eq_getElem hkc⟩
      have c1 : wr.cell? ⟨g, k, none⟩ = some u := (r1.get k).trans hu
      have f1 := r1.free k
      have i1 := lt_cast hlt
      clear hu
      go_wp2_with fail
      go_roundw
      case rel =>
        refine ⟨k + 1, _, by omega, by go_num, by go_num, heap_setCell_same wr g k cu 3 (.int .i64 ((k : Int) + 1)) r1, Lib.hid ⟨by rw [Array.size_setIfInBounds]; exact HC.out.1, fun j hj => ?_⟩, grown_set hg⟩
        rw [Array.getElem?_setIfInBounds]
        by_cases e : k = j
        · subst e; rw [if_pos rfl, if_pos hkc]
        · rw [if_neg e]; exact HC.out.2 j (by omega)
      case measure => simp [intOf]; omega
    · obtain rfl : k = n := by omega
      go_wp2_with fail
      go_ret
      refine ⟨rfl, ⟨g, cap, cu, by rw [marks_len], a2, r1, HC.out.1, by rw [marks_len]; exact a5, a6, fun i z hi => ?_⟩, g, rfl, hg⟩
      have hlt2 : i < k := by have := (List.getElem?_eq_some_iff.1 hi).1; rw [marks_len] at this; exact this
      rw [marks_get k i hlt2] at hi
      cases hi
      exact HC.out.2 i hlt2
set_option maxHeartbeats 1000000 in
theorem l_heldIntS (B n : Nat) (v : Value) (w : World) (ha : IntsAt B w v (marks n)) (hn : n ≤ 1048576) : Calls Try.prog 22 #[v, .int .i64 1] w fun e w' => e = .returned (.int .i64 ((n : Int) + 1)) ∧ w = w' := by
  obtain ⟨g, cap, cur, rfl, a2, a3, a4, a5, a6, a7⟩ := ha
  rw [marks_len] at a5 ⊢
  have H7 := Lib.hid a7; clear a7 a4
  go_enter Try.func22, Try.ntmps22
  go_wp2_with fail
  go_loop [1, 5] (fun m i => ∃ k : Nat, k ≤ n ∧ i = .int .i64 k ∧ m = .int .i64 ((k : Int) + 1)) (fun _ i => n - (intOf i).toNat)
  case atStart => exact ⟨0, by omega, rfl, rfl⟩
  case round =>
    obtain ⟨k, hk, rfl, rfl⟩ := hrel
    by_cases hlt : k < n
    · have c1 : w.cell? ⟨g, k, none⟩ = some (.int .i64 ((k : Int) + 1)) := (a3.get k).trans (H7.out k _ (marks_get n k hlt))
      have i1 := lt_cast hlt
      go_wp2_with fail
      go_round
      case rel => exact ⟨k + 1, by omega, by go_num, by go_num⟩
      case measure => simp [intOf]; omega
    · obtain rfl : k = n := by omega
      go_wp2_with fail
      go_ret
      exact ⟨rfl, rfl⟩
end Go.Proofs.Ytmhiphcnclkhhaa
