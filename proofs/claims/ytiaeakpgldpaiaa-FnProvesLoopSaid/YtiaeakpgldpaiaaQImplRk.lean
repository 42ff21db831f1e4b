/- The program's ranks. -/
import Derived.Test.YtiaeakpgldpaiaaQJ3
import Derived.Test.YtiaeakpgldpaiaaQJ1
import Derived.Test.YtiaeakpgldpaiaaQJ4
namespace Go.Proofs.Ytiaeakpgldpaiaa
set_option linter.unusedSimpArgs false
set_option linter.unusedVariables false
set_option maxRecDepth 4000
open Go.RowKit

/-- The cells of the ranks, half of a round done. -/
def rkF (T : Nat → Nat) (p k j : Nat) : Nat → Int := fun s => if s < j then rkTo T p s (k + 1) else rkTo T p s k
def zcells (F : Nat → Int) : Array Value := #[.int .i64 (F 0), .int .i64 (F 1), .int .i64 (F 2), .int .i64 (F 3)]
theorem zcells_get (F : Nat → Int) (i : Nat) (h : i < 4) : (zcells F)[i]? = some (.int .i64 (F i)) := by
  have h : i = 0 ∨ i = 1 ∨ i = 2 ∨ i = 3 := by omega
  rcases h with rfl | rfl | rfl | rfl <;> rfl
theorem zcells_congr {F G : Nat → Int} (h : ∀ i, i < 4 → F i = G i) : zcells F = zcells G := by
  unfold zcells; rw [h 0 (by omega), h 1 (by omega), h 2 (by omega), h 3 (by omega)]
theorem zcells_set (F G : Nat → Int) (j : Nat) (z : Int) (hj : j < 4) (h : ∀ i, i < 4 → G i = if i = j then z else F i) : (zcells F).setIfInBounds j (.int .i64 z) = zcells G := by
  have hh : j = 0 ∨ j = 1 ∨ j = 2 ∨ j = 3 := by omega
  unfold zcells
  rw [h 0 (by omega), h 1 (by omega), h 2 (by omega), h 3 (by omega)]
  rcases hh with rfl | rfl | rfl | rfl <;> rfl
theorem zcells_zrow (F : Nat → Int) : zcells F = ((zrow 4 F).map (Value.int .i64)).toArray := rfl
set_option maxHeartbeats 2000000 in
theorem i_ranks (T : Nat → Nat) (p : Nat) (w : World) (hT : Bd T) (hm : Mono T) (hp : p < 16) : Calls Try.prog 157 #[.agg (row 16 T), .int .i64 (p : Int)] w fun e w' => ∃ v, e = .returned v ∧ IntsAt w.heap.size w' v (zrow 4 (rank T p)) ∧ Below w.heap.size w w' := by
  have z0 := (RowAt.fresh w 77 (row 16 T)).alloc (.cells (zcells (fun _ => -1)) 3)
  have z1 : RowAt ((w.alloc (.cells (row 16 T) 77)).alloc (.cells (zcells (fun _ => -1)) 3)) (w.heap.size + 1) 3 (zcells (fun _ => -1)) := RowAt.fresh1 w (.cells (row 16 T) 77) 3 (zcells (fun _ => -1))
  have zb : Below w.heap.size w ((w.alloc (.cells (row 16 T) 77)).alloc (.cells (zcells (fun _ => -1)) 3)) := ((Below.refl _ _).alloc (Nat.le_refl _) _).alloc (by simp) _
  have HT := Lib.hid hT; have HM := Lib.hid hm; clear hT hm
  go_enter Try.func157, Try.ntmps157
  go_wp2_with fail
  go_loopw [6, 11] (fun y i wr => ∃ k : Nat, k ≤ 16 ∧ i = .int .i64 k ∧ y = .int .i64 (iter (eqO T p) p k : Int) ∧ RowAt wr w.heap.size 77 (row 16 T) ∧ RowAt wr (w.heap.size + 1) 3 (zcells (fun s => rkTo T p s k)) ∧ Below w.heap.size w wr) (fun _ i _ => (16 - intOf i).toNat)
  case atStart => exact ⟨0, by omega, rfl, rfl, z0, z1, zb⟩
  case round =>
    clear z0 z1 zb
    obtain ⟨k, hk, rfl, rfl, r0, r1, hbb⟩ := hrel
    by_cases hlt : k < 16
    · have hd : decide ((k : Int) < 16) = true := by simp; omega
      have hy : iter (eqO T p) p k < 16 := iter_bd (eqO_bd HT.out hp) hp k
      have hnx : T (iter (eqO T p) p k) ||| p = iter (eqO T p) p (k + 1) := rfl
      have HNX := Lib.hid hnx; clear hnx
      obtain ⟨y, hyy⟩ : ∃ y, y = iter (eqO T p) p k := ⟨_, rfl⟩
      rw [← hyy] at hy HNX ⊢
      have HYY := Lib.hid hyy; clear hyy
      have r1' := r1.of (zcells_congr (G := rkF T p k 0) fun i _ => by unfold rkF; rw [if_neg (by omega)])
      go_wp2_with fail
      clear hd
      go_loopw [16] (fun i wr => ∃ j : Nat, j ≤ 4 ∧ i = .int .i64 j ∧ RowAt wr w.heap.size 77 (row 16 T) ∧ RowAt wr (w.heap.size + 1) 3 (zcells (rkF T p k j)) ∧ Below w.heap.size w wr) (fun i _ => (4 - intOf i).toNat)
      case atStart => exact ⟨0, by omega, rfl, r0, r1', hbb⟩
      case round =>
        clear r0 r1 r1' hbb
        obtain ⟨j, hj, rfl, r0, r1, hbb⟩ := hrel
        by_cases hlj : j < 4
        · have i1 := lt_cast hlj
          have hrk : rkF T p k j j = rkTo T p j k := by unfold rkF; rw [if_neg (by omega)]
          have c1 : wr.cell? ⟨w.heap.size + 1, j, none⟩ = some (.int .i64 (rkTo T p j k)) := (r1.get j).trans (by rw [zcells_get _ j hlj, hrk])
          have f1 := r1.free j
          have hsz := hbb.size
          have eb := bits_has' y j (by omega)
          have HRK := Lib.hid hrk; clear hrk
          have hsame : rkTo T p j (k + 1) = rkTo T p j k → zcells (rkF T p k j) = zcells (rkF T p k (j + 1)) := fun h => zcells_congr fun i _ => by
            unfold rkF
            by_cases h1 : i < j
            · rw [if_pos h1, if_pos (by omega)]
            · rw [if_neg h1]
              by_cases h2 : i < j + 1
              · obtain rfl : i = j := by omega
                rw [if_pos h2, h]
              · rw [if_neg h2]
          have HSAME := Lib.hid hsame; clear hsame
          by_cases hr : rkTo T p j k < 0
          · cases hb : y.testBit j
            · rw [hb] at eb
              have hq := rkTo_no (T := T) (p := p) (s := j) (n := k) (.inr (by rw [← HYY.out]; exact hb))
              have HQ := Lib.hid hq; clear hb hq
              go_wp2_with fail
              go_roundw
              case rel => exact ⟨j + 1, by omega, by go_num, r0, r1.of (HSAME.out HQ.out), hbb⟩
              case measure => simp [intOf]; omega
            · rw [hb] at eb
              have hq := rkTo_yes (T := T) (p := p) (s := j) (n := k) hr (by rw [← HYY.out]; exact hb)
              have HQ := Lib.hid hq; clear hb hq
              go_wp2_with fail
              go_roundw
              case rel =>
                refine ⟨j + 1, by omega, by go_num, r0.other _ _ (by simp), ?_, hbb.setCell (by simp) _⟩
                have h := heap_setCell_same wr (w.heap.size + 1) j (zcells (rkF T p k j)) 3 (.int .i64 (k : Int)) r1
                rw [zcells_set (rkF T p k j) (rkF T p k (j + 1)) j k hlj fun i _ => by
                  unfold rkF
                  by_cases h1 : i = j
                  · subst h1; rw [if_pos rfl, if_pos (by omega), HQ.out]
                  · rw [if_neg h1]
                    by_cases h2 : i < j
                    · rw [if_pos h2, if_pos (by omega)]
                    · rw [if_neg h2, if_neg (by omega)]] at h
                exact h
              case measure => simp [intOf]; omega
          · have hq := rkTo_no (T := T) (p := p) (s := j) (n := k) (.inl (by omega))
            have HQ := Lib.hid hq; clear hq
            go_wp2_with fail
            go_roundw
            case rel => exact ⟨j + 1, by omega, by go_num, r0, r1.of (HSAME.out HQ.out), hbb⟩
            case measure => simp [intOf]; omega
        · obtain rfl : j = 4 := by omega
          have c0 := r0.cell y hy
          have hTy := HT.out y hy
          have e1 := bits_or_nat (T y) p (by omega) (by omega)
          have i0 := lt_cast hy
          go_wp2_with fail
          go_roundw
          case rel => exact ⟨k + 1, by omega, by go_num, by rw [← HNX.out], r0, r1.of (zcells_congr fun i hi => by unfold rkF; rw [if_pos hi]), hbb⟩
          case measure => simp [intOf]; omega
    · obtain rfl : k = 16 := by omega
      go_wp2_with fail
      go_ret
      have hrow := r1.of (zcells_congr (G := rank T p) fun i _ => rank_16 HT.out HM.out hp i)
      exact ⟨_, rfl, IntsAt.of_lit (zs := zrow 4 (rank T p)) (by omega) hrow (by unfold maxLen; rw [zrow_len]; omega), hbb⟩
end Go.Proofs.Ytiaeakpgldpaiaa
