/- The program's conjunctive tables, their relations, refinement, transformers of specifications. -/
import Derived.Test.YtiaeakpgldpaiaaQImplL
import Derived.Test.YtiaeakpgldpaiaaQJ0
import Derived.Test.YtiaeakpgldpaiaaQJ1
namespace Go.Proofs.Ytiaeakpgldpaiaa
set_option linter.unusedSimpArgs false
set_option linter.unusedVariables false
set_option maxRecDepth 4000
open Go.RowKit

set_option maxHeartbeats 1000000 in
theorem i_refined (T U : Nat → Nat) (w : World) (hT : Bd T) (hU : Bd U) : Calls Try.prog 114 #[.agg (row 16 T), .agg (row 16 U)] w fun e w' => e = .returned (.bool (refB T U 16)) ∧ Below w.heap.size w w' := by
  have r1 := (RowAt.fresh w 77 (row 16 T)).alloc (.cells (row 16 U) 77)
  have r2 := RowAt.fresh1 w (.cells (row 16 T) 77) 77 (row 16 U)
  have hb0 := bel_2 w (.cells (row 16 T) 77) (.cells (row 16 U) 77)
  have HT := Lib.hid hT; have HU := Lib.hid hU; clear hT hU
  go_enter Try.func114, Try.ntmps114
  go_wp2_with fail
  go_loopw [6] (fun t wr => ∃ k : Nat, k ≤ 16 ∧ t = .int .i64 k ∧ Hid (refB T U k = true) ∧ RowAt wr w.heap.size 77 (row 16 T) ∧ RowAt wr (w.heap.size + 1) 77 (row 16 U) ∧ Below w.heap.size w wr) (fun t _ => (16 - intOf t).toNat)
  case atStart => exact ⟨0, by omega, rfl, Lib.hid rfl, r1, r2, hb0⟩
  case round =>
    clear r1 r2 hb0
    obtain ⟨k, hk, rfl, HR, r1, r2, hb⟩ := hrel
    by_cases hlt : k < 16
    · have c1 := r1.cell k hlt
      have c2 := r2.cell k hlt
      have i1 := lt_cast hlt
      have e1 := bits_andn_nat (T k) (U k) (HT.out k hlt) (HU.out k hlt)
      by_cases hz : andn (T k) (U k) = 0
      · have b1 : ((andn (T k) (U k) : Int) != 0) = false := by simp [hz]
        have HZ := Lib.hid hz; clear hz
        go_wp2_with fail
        go_quiet (fail)
        go_wp2_with fail
        go_roundw
        case rel => exact ⟨k + 1, by omega, by go_num, Lib.hid (refB_succ HR.out HZ.out), r1.drewN _, r2.drewN _, bel_drewN hb _⟩
        case measure => simp [intOf]; omega
      · have b1 : ((andn (T k) (U k) : Int) != 0) = true := by rw [bne_iff_ne]; omega
        have HZ := Lib.hid hz; clear hz
        go_wp2_with fail
        go_quiet (fail)
        go_wp2_with fail
        go_ret
        exact ⟨ret_bool (refB_no hlt HZ.out).symm, bel_drewN hb _⟩
    · obtain rfl : k = 16 := by omega
      go_wp2_with fail
      go_ret
      exact ⟨ret_bool HR.out.symm, hb⟩
set_option maxHeartbeats 1000000 in
theorem i_pairwise (fv : Value) (T : Nat → Nat) (w : World) (hf : Pr2Is Try.prog fv w (fun p q => decide (T (p &&& q) = (T p &&& T q))) 16) : Calls Try.prog 222 #[fv] w fun e w' => e = .returned (.bool (conjB T)) ∧ Below w.heap.size w w' := by
  obtain ⟨g, lb, rfl, hent, hcall⟩ := hf
  have HC := Lib.hid hcall; clear hcall
  go_enter Try.func222, Try.ntmps222
  go_wp2_with fail
  go_loopw [5] (fun t wr => ∃ k : Nat, k ≤ 16 ∧ t = .int .i64 k ∧ Hid (conjTo T k = true) ∧ Below w.heap.size w wr) (fun t _ => (16 - intOf t).toNat)
  case atStart => exact ⟨0, by omega, rfl, Lib.hid rfl, Below.refl _ _⟩
  case round =>
    obtain ⟨k, hk, rfl, HT, hb⟩ := hrel
    by_cases hlt : k < 16
    · have hd : decide ((k : Int) < 16) = true := by simp; omega
      go_wp2_with fail
      clear hd
      go_loopw [8] (fun t wr => ∃ j : Nat, j ≤ 16 ∧ t = .int .i64 j ∧ Hid (conjRow T k j = true) ∧ Below w.heap.size w wr) (fun t _ => (16 - intOf t).toNat)
      case atStart => exact ⟨0, by omega, rfl, Lib.hid rfl, hb⟩
      case round =>
        clear hb
        obtain ⟨j, hj, rfl, HR, hb⟩ := hrel
        by_cases hlj : j < 16
        · by_cases hq : T (k &&& j) = (T k &&& T j)
          · have HQ := Lib.hid hq; clear hq
            go_wp2_with fail
            refine (HC.out _ k j hb hlt hlj).mono ?_
            rw [decide_eq_true HQ.out]
            rintro e w1 ⟨rfl, hb1⟩
            go_wp2_with fail
            go_roundw
            case rel => exact ⟨j + 1, by omega, by go_num, Lib.hid (conjRow_succ HR.out HQ.out), bel_on hb hb1 hb.size⟩
            case measure => simp [intOf]; omega
          · have HQ := Lib.hid hq; clear hq
            go_wp2_with fail
            refine (HC.out _ k j hb hlt hlj).mono ?_
            rw [decide_eq_false HQ.out]
            rintro e w1 ⟨rfl, hb1⟩
            go_wp2_with fail
            go_ret
            exact ⟨ret_bool (conjB_no hlt hlj HQ.out).symm, bel_on hb hb1 hb.size⟩
        · obtain rfl : j = 16 := by omega
          go_wp2_with fail
          go_roundw
          case rel => exact ⟨k + 1, by omega, by go_num, Lib.hid (conjTo_succ HT.out HR.out), hb⟩
          case measure => simp [intOf]; omega
    · obtain rfl : k = 16 := by omega
      go_wp2_with fail
      go_ret
      exact ⟨ret_bool (show true = conjTo T 16 from HT.out.symm), hb⟩
theorem fn_conj (w : World) (B : Nat) (T : Nat → Nat) (hT : Bd T) (h1 : RowAt w B 77 (row 16 T)) : Pr2Is Try.prog (.func (.func 223) #[] #[.pointer (some ⟨B, 0, none⟩)]) w (fun p q => decide (T (p &&& q) = (T p &&& T q))) 16 :=
  ⟨223, _, rfl, enters_of Try.func223 (by kernel_rfl) rfl, fun W p q hb hp hq => by
    have hpq : p &&& q < 16 := and_lt hp
    have e0 := bits_and_nat p q (by omega) (by omega)
    have c0 := (h1.later hb).cell (p &&& q) hpq
    have c1 := (h1.later hb).cell p hp
    have c2 := (h1.later hb).cell q hq
    have e1 := bits_and_nat (T p) (T q) (by have := hT p hp; omega) (by have := hT q hq; omega)
    have i0 := lt_cast hpq
    have i1 := lt_cast hp
    have i2 := lt_cast hq
    show Calls Try.prog 223 #[.int .i64 (p : Int), .int .i64 (q : Int), .pointer (some ⟨B, 0, none⟩)] W _
    clear h1 hT hb
    go_enter Try.func223, Try.ntmps223
    go_wp2
    go_quiet (fail)
    go_wp2
    go_ret
    refine ⟨ret_bool ?_, bel_drewN (Below.refl _ _) _⟩
    show ((T (p &&& q) : Int) == ((T p &&& T q : Nat) : Int)) = decide (T (p &&& q) = (T p &&& T q))
    by_cases h : T (p &&& q) = (T p &&& T q)
    · rw [h]; simp
    · rw [decide_eq_false h, beq_eq_false_iff_ne]; omega⟩
theorem i_conjunctive (T : Nat → Nat) (w : World) (hT : Bd T) : Calls Try.prog 151 #[.agg (row 16 T)] w fun e w' => e = .returned (.bool (conjB T)) ∧ Below w.heap.size w w' := by
  have h1 := RowAt.fresh w 77 (row 16 T)
  have HF := Lib.hid (i_pairwise _ T _ (fn_conj _ _ T hT h1)); clear h1
  go_enter Try.func151, Try.ntmps151
  go_wp2_with fail
  refine HF.out.mono ?_
  rintro e w1 ⟨rfl, hb⟩
  go_wp2_with fail
  go_ret
  exact ⟨rfl, bel_on (bel_1 w _) hb (by simp)⟩
set_option maxHeartbeats 1000000 in
theorem i_leads (T : Nat → Nat) (w : World) (hT : Bd T) : Calls Try.prog 184 #[.agg (row 16 T)] w fun e w' => e = .returned (.agg (row 4 (fun s => fLead T s 16))) ∧ Below w.heap.size w w' := by
  obtain ⟨F, hF⟩ : ∃ F : Nat → Nat, F = fun s => fLead T s 16 := ⟨_, rfl⟩
  rw [← hF]
  have z0 := ((RowAt.fresh w 77 (row 16 T)).alloc (.cells (row 4 (fun _ => 0)) 68)).alloc (.cells (row 4 (fun _ => 0)) 68)
  have z1 := (RowAt.fresh1 w (.cells (row 16 T) 77) 68 (row 4 (fun _ => 0))).alloc (.cells (row 4 (fun _ => 0)) 68)
  have z2 := RowAt.fresh2 w (.cells (row 16 T) 77) (.cells (row 4 (fun _ => 0)) 68) 68 (row 4 (fun _ => 0))
  have zb := bel_3 w (.cells (row 16 T) 77) (.cells (row 4 (fun _ => 0)) 68) (.cells (row 4 (fun _ => 0)) 68)
  have HF := Lib.hid hF; have HT := Lib.hid hT; clear hF hT
  go_enter Try.func184, Try.ntmps184
  go_wp2_with fail
  go_loopw [7] (fun t wr => ∃ k : Nat, k ≤ 4 ∧ t = .int .i64 k ∧ RowAt wr w.heap.size 77 (row 16 T) ∧ RowAt wr (w.heap.size + 1) 68 (row 4 (fun _ => 0)) ∧ RowAt wr (w.heap.size + 1 + 1) 68 (row 4 (fun i => if i < k then F i else 0)) ∧ Below w.heap.size w wr) (fun t _ => (4 - intOf t).toNat)
  case atStart => exact ⟨0, by omega, rfl, z0, z1, z2, zb⟩
  case round =>
    clear z0 z1 z2 zb
    obtain ⟨k, hk, rfl, r0, r1, r2, hbb⟩ := hrel
    by_cases hlt : k < 4
    · have hd : decide ((k : Int) < 4) = true := by simp; omega
      have c2 := r2.cell k hlt
      have f2 := r2.free k
      have hsz := hbb.size
      go_wp2_with fail
      clear hd c2 f2
      have s0 := r0.other ⟨w.heap.size + 1 + 1, k, none⟩ (.int .i64 15) (by simp; omega)
      have s1 := r1.other ⟨w.heap.size + 1 + 1, k, none⟩ (.int .i64 15) (by simp)
      have s2 := (r2.set k 15).of (row_congr fun i _ => midF_first F k 15 i)
      have hbc := hbb.setCell (p := ⟨w.heap.size + 1 + 1, k, none⟩) (by simp; omega) (.int .i64 15)
      clear r0 r1 r2 hbb
      go_loopw [12] (fun t wr => ∃ j : Nat, j ≤ 16 ∧ t = .int .i64 j ∧ RowAt wr w.heap.size 77 (row 16 T) ∧ RowAt wr (w.heap.size + 1) 68 (row 4 (fun _ => 0)) ∧ RowAt wr (w.heap.size + 1 + 1) 68 (row 4 (midF F k (fLead T k j))) ∧ Below w.heap.size w wr) (fun t _ => (16 - intOf t).toNat)
      case atStart => exact ⟨0, by omega, rfl, s0, s1, s2, hbc⟩
      case round =>
        clear s0 s1 s2 hbc
        obtain ⟨j, hj, rfl, r0, r1, r2, hbb⟩ := hrel
        by_cases hlj : j < 16
        · have c0 := r0.cell j hlj
          have hTj := HT.out j hlj
          have eb := bits_has' (T j) k (by omega)
          have i1 := lt_cast hlt
          have i2 := lt_cast hlj
          cases hb : (T j).testBit k
          · rw [hb] at eb
            have HB := Lib.hid hb; clear hb
            go_wp2_with fail
            go_roundw
            case rel => exact ⟨j + 1, by omega, by go_num, r0, r1, r2.of (row_congr fun i _ => by rw [fLead_no HB.out]), hbb⟩
            case measure => simp [intOf]; omega
          · rw [hb] at eb
            have HB := Lib.hid hb; clear hb
            have hl := fLead_lt T k j
            have c2 := r2.cell k hlt
            rw [midF_at] at c2
            have f2 := r2.free k
            have e1 := bits_and_nat (fLead T k j) j (by omega) (by omega)
            go_wp2_with fail
            (try go_region)
            all_goals
              (try go_wp2_with fail)
              go_roundw
              case rel =>
                refine ⟨j + 1, by omega, by go_num, ?_, ?_, ?_, ?_⟩
                · first | exact r0.other _ _ (by simp; omega) | exact (r0.other _ _ (by simp; omega)).drew
                · first | exact r1.other _ _ (by simp) | exact (r1.other _ _ (by simp)).drew
                · have h := (r2.set k (fLead T k j &&& j)).of (row_congr (G := midF F k (fLead T k (j + 1))) fun i _ => by rw [midF_upd, fLead_yes HB.out])
                  first | exact h | exact h.drew
                · first | exact hbb.setCell (by simp; omega) _ | exact (hbb.setCell (by simp; omega) _).drew
              case measure => simp [intOf]; omega
        · obtain rfl : j = 16 := by omega
          go_wp2_with fail
          go_roundw
          case rel => exact ⟨k + 1, by omega, by go_num, r0, r1, r2.of (row_congr fun i _ => by rw [show fLead T k 16 = F k by rw [HF.out]]; exact midF_end F k i), hbb⟩
          case measure => simp [intOf]; omega
    · obtain rfl : k = 4 := by omega
      have r2' := r2.of (row_congr (G := F) (fun i hi => by simp [hi]))
      go_wp2_with (first | (refine wpList_load_row rfl 68 _ rfl (w.heap.size + 1 + 1) rfl 68 (row 4 F) (0, 0) _ r2' Try.underlying68 rfl (by rw [row_size]; kernel_rfl) ?_) | (refine wpList_store_row rfl 68 _ _ rfl (w.heap.size + 1) (row 4 F) rfl rfl 68 _ r1 (by rw [row_size]; kernel_rfl) (by first | rfl | (rw [row_size, row_size]) | (simp [row_size]; done)) (row_one _ _) ?_))
      have hr := r1.put (row 4 F)
      exact bodyPost_ret (results_cell_row rfl _ _ (w.heap.size + 1) 68 (row 4 F) (0, 0) _ rfl hr Try.underlying68 rfl (by rw [row_size]; kernel_rfl)) rfl ⟨rfl, bel_setRow hbb (by omega) _⟩
set_option maxHeartbeats 1000000 in
theorem i_spec (p : Nat) (R : Nat → Nat) (W : World) (hp : p < 16) (hR : ∀ k, R k < 16) : Calls Try.prog 102 #[.int .i64 (p : Int), .agg (row 4 R)] W fun e W' => e = .returned (.agg (row 16 (fSpec p R))) ∧ Below W.heap.size W W' := by
  have h1 := ((RowAt.fresh W 68 (row 4 R)).alloc (.cells (row 16 (fun _ => 0)) 77)).drew
  have h3 := (RowAt.fresh1 W (.cells (row 4 R) 68) 77 (row 16 (fun _ => 0))).drew
  have hbb := (bel_2 W (.cells (row 4 R) 68) (.cells (row 16 (fun _ => 0)) 77)).drew
  go_enter Try.func102, Try.ntmps102
  go_wp2_with fail
  refine wp_region_held_drew (S := fun w3 => RowAt w3 W.heap.size 68 (row 4 R) ∧ (∃ X, RowAt w3 (W.heap.size + 1) 77 (row 16 X)) ∧ Below W.heap.size W w3) (by kernel_rfl) (⟨h1, ⟨_, h3⟩, hbb⟩) (fun hS => ?_)
  simp only [List.size_toArray, List.length_cons, List.length_nil, Nat.zero_add, Nat.reduceAdd, Array.replicate_succ, Array.replicate_zero, List.push_toArray, List.append_toArray, List.nil_append, List.cons_append]
  refine wpAnyH_take (i := 0) (v := .int .i64 (p : Int)) rfl (by kernel_rfl) (by kernel_rfl) (by kernel_rfl) (fun _ _ _ h => h) (Or.inl ⟨by rfl, fun w2 h2 => by (first | rfl | go_simp)⟩) (by assumption) ?_
  simp only [Act.put, List.getElem_toArray, List.getElem_cons_zero, List.getElem_cons_succ, List.setIfInBounds_toArray, List.set_cons_zero, List.set_cons_succ]
  refine wpAnyH_take (i := 2) (v := .agg (row 4 R)) rfl (by kernel_rfl) (by kernel_rfl) (by kernel_rfl) (fun _ _ _ h => h) (yieldsIf_load_row (by rfl) 68 _ rfl W.heap.size rfl 68 (row 4 R) _ (fun _ h => h.1) Try.underlying68 rfl (by rw [row_size]; kernel_rfl)) (by assumption) ?_
  simp only [Act.put, List.getElem_toArray, List.getElem_cons_zero, List.getElem_cons_succ, List.setIfInBounds_toArray, List.set_cons_zero, List.set_cons_succ]
  refine wpAnyH_ready (rs := [1]) (by kernel_rfl) (by simp) ?_
  refine AllReadyH.cons rfl (fun K hK => ?_) AllReadyH.nil
  rw [if_pos (by rfl)]
  go_simp
  refine (i_assert p _ hp).mono ?_
  rintro e w3 ⟨rfl, hb3⟩
  refine hK.out _ _ ⟨hS.1.later hb3, hS.2.1.elim (fun X h => ⟨X, h.later hb3⟩), bel_on hS.2.2 hb3 hS.2.2.size⟩ (fun hS => ?_)
  simp only [Act.put, List.getElem_toArray, List.getElem_cons_zero, List.getElem_cons_succ, List.setIfInBounds_toArray, List.set_cons_zero, List.set_cons_succ]
  refine wpAnyH_ready (rs := [3]) (by kernel_rfl) (by simp) ?_
  refine AllReadyH.cons rfl (fun K hK => ?_) AllReadyH.nil
  rw [if_pos (by rfl)]
  go_simp
  refine (i_demon R _ hR).mono ?_
  rintro e w4 ⟨rfl, hb4⟩
  refine hK.out _ _ ⟨hS.1.later hb4, hS.2.1.elim (fun X h => ⟨X, h.later hb4⟩), bel_on hS.2.2 hb4 hS.2.2.size⟩ (fun hS => ?_)
  simp only [Act.put, List.getElem_toArray, List.getElem_cons_zero, List.getElem_cons_succ, List.setIfInBounds_toArray, List.set_cons_zero, List.set_cons_succ]
  refine wpAnyH_ready (rs := [4]) (by kernel_rfl) (by simp) ?_
  refine AllReadyH.cons rfl (fun K hK => ?_) AllReadyH.nil
  rw [if_pos (by rfl)]
  go_simp
  refine (i_then (fun q => p &&& q) (fun q => fBox R q) _ (fBox_bd R)).mono fun e w5 (h : e = .returned (.agg (row 16 (fSpec p R))) ∧ Below _ _ w5) => ?_
  obtain ⟨rfl, hb5⟩ := h
  refine hK.out _ _ ⟨hS.1.later hb5, hS.2.1.elim (fun X h => ⟨X, h.later hb5⟩), bel_on hS.2.2 hb5 hS.2.2.size⟩ (fun hS => ?_)
  simp only [Act.put, List.getElem_toArray, List.getElem_cons_zero, List.getElem_cons_succ, List.setIfInBounds_toArray, List.set_cons_zero, List.set_cons_succ]
  refine wpAnyH_ready (rs := [5]) (by kernel_rfl) (by simp) ?_
  refine AllReadyH.cons rfl (fun K hK => ?_) AllReadyH.nil
  rw [if_pos (by rfl)]
  obtain ⟨X, hX⟩ := hS.2.1
  refine wp_store_row 77 _ _ rfl (W.heap.size + 1) (row 16 (fSpec p R)) rfl rfl 77 _ hX (by rw [row_size]; kernel_rfl) (by rw [row_size, row_size]) (row_one _ _) ?_
  have hr := hX.put (row 16 (fSpec p R))
  have hB := bel_setRow hS.2.2 (show W.heap.size ≤ W.heap.size + 1 by omega) (row 16 (fSpec p R))
  refine hK.out _ _ ⟨hS.1.putOther _ (by omega), ⟨_, hr⟩, hB⟩ (fun hS => ?_)
  simp only [Act.put, List.getElem_toArray, List.getElem_cons_zero, List.getElem_cons_succ, List.setIfInBounds_toArray, List.set_cons_zero, List.set_cons_succ]
  refine wpAnyH_done (by kernel_rfl) ?_ _
  go_wp2_with fail
  exact bodyPost_ret (results_cell_row rfl _ _ (W.heap.size + 1) 77 _ (0, 0) _ rfl hr Try.underlying77 rfl (by rw [row_size]; kernel_rfl)) rfl ⟨rfl, hB⟩
end Go.Proofs.Ytiaeakpgldpaiaa
