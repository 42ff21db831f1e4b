/- The program's UndoOf and SplitWhile. -/
import Derived.Test.YtmhiphcnclkhhaaImplI
import Derived.Test.YtmhiphcnclkhhaaPlain4
namespace Go.Proofs.Ytmhiphcnclkhhaa
set_option linter.unusedSimpArgs false
set_option linter.unusedVariables false
set_option maxRecDepth 4000
open Go.RowKit

set_option maxHeartbeats 1000000 in
theorem fn_undo (T : Nat → Nat) (W : World) (hT : ∀ k, T k < 16) : Calls Try.prog 80 #[.agg (row 16 T)] W fun e W' => e = .returned (.agg (row 16 (fun p => fMost T (fun q => 15 &&& q) p 16))) ∧ Below W.heap.size W W' := by
  have h1 := ((RowAt.fresh W 66 (row 16 T)).alloc (.cells (row 16 (fun _ => 0)) 66)).drew
  have h3 := (RowAt.fresh1 W (.cells (row 16 T) 66) 66 (row 16 (fun _ => 0))).drew
  have hbb := (bel_2 W (.cells (row 16 T) 66) (.cells (row 16 (fun _ => 0)) 66)).drew
  go_enter Try.func80, Try.ntmps80
  go_wp2_with fail
  refine wp_region_held_drew (S := fun w3 => RowAt w3 W.heap.size 66 (row 16 T) ∧ (∃ X, RowAt w3 (W.heap.size + 1) 66 (row 16 X)) ∧ Below W.heap.size W w3) (by kernel_rfl) (⟨h1, ⟨_, h3⟩, hbb⟩) (fun hS => ?_)
  simp only [List.size_toArray, List.length_cons, List.length_nil, Nat.zero_add, Nat.reduceAdd, Array.replicate_succ, Array.replicate_zero, List.push_toArray, List.append_toArray, List.nil_append, List.cons_append]
  refine wpAnyH_take (i := 0) (v := .agg (row 16 T)) rfl (by kernel_rfl) (by kernel_rfl) (by kernel_rfl) (fun _ _ _ h => h) (yieldsIf_load_row (by rfl) 66 _ rfl W.heap.size rfl 66 (row 16 T) _ (fun _ h => h.1) Try.underlying66 rfl (by rw [row_size]; kernel_rfl)) (by assumption) ?_
  simp only [Act.put, List.getElem_toArray, List.getElem_cons_zero, List.getElem_cons_succ, List.setIfInBounds_toArray, List.set_cons_zero, List.set_cons_succ]
  refine wpAnyH_ready (rs := [1]) (by kernel_rfl) (by simp) ?_
  refine AllReadyH.cons rfl (fun K hK => ?_) AllReadyH.nil
  rw [if_pos (by rfl)]
  go_simp
  refine (i_assert 15 _ (by omega)).mono ?_
  rintro e w3 ⟨rfl, hb3⟩
  refine hK.out _ _ ⟨hS.1.later hb3, hS.2.1.elim (fun X h => ⟨X, h.later hb3⟩), bel_on hS.2.2 hb3 hS.2.2.size⟩ (fun hS => ?_)
  simp only [Act.put, List.getElem_toArray, List.getElem_cons_zero, List.getElem_cons_succ, List.setIfInBounds_toArray, List.set_cons_zero, List.set_cons_succ]
  refine wpAnyH_ready (rs := [2]) (by kernel_rfl) (by simp) ?_
  refine AllReadyH.cons rfl (fun K hK => ?_) AllReadyH.nil
  rw [if_pos (by rfl)]
  go_simp
  refine (i_beforeMost T _ _ hT (fun q => and_lt (by omega))).mono ?_
  rintro e w4 ⟨rfl, hb4⟩
  refine hK.out _ _ ⟨hS.1.later hb4, hS.2.1.elim (fun X h => ⟨X, h.later hb4⟩), bel_on hS.2.2 hb4 hS.2.2.size⟩ (fun hS => ?_)
  simp only [Act.put, List.getElem_toArray, List.getElem_cons_zero, List.getElem_cons_succ, List.setIfInBounds_toArray, List.set_cons_zero, List.set_cons_succ]
  refine wpAnyH_ready (rs := [3]) (by kernel_rfl) (by simp) ?_
  refine AllReadyH.cons rfl (fun K hK => ?_) AllReadyH.nil
  rw [if_pos (by rfl)]
  obtain ⟨X, hX⟩ := hS.2.1
  refine wp_store_row 66 _ _ rfl (W.heap.size + 1) (row 16 (fun p => fMost T (fun q => 15 &&& q) p 16)) rfl rfl 66 _ hX (by rw [row_size]; kernel_rfl) (by rw [row_size, row_size]) (row_one _ _) ?_
  have hr := hX.put (row 16 (fun p => fMost T (fun q => 15 &&& q) p 16))
  have hB := bel_setRow hS.2.2 (show W.heap.size ≤ W.heap.size + 1 by omega) (row 16 (fun p => fMost T (fun q => 15 &&& q) p 16))
  refine hK.out _ _ ⟨hS.1.putOther _ (by omega), ⟨_, hr⟩, hB⟩ (fun hS => ?_)
  simp only [Act.put, List.getElem_toArray, List.getElem_cons_zero, List.getElem_cons_succ, List.setIfInBounds_toArray, List.set_cons_zero, List.set_cons_succ]
  refine wpAnyH_done (by kernel_rfl) ?_ _
  go_wp2_with fail
  exact bodyPost_ret (results_cell_row rfl _ _ (W.heap.size + 1) 66 _ (0, 0) _ rfl hr Try.underlying66 rfl (by rw [row_size]; kernel_rfl)) rfl ⟨rfl, hB⟩
theorem i_UndoOf (t : ByteArray) (w : World) : Calls Try.prog 24 #[.string t] w fun e w' => e = .returned (.tuple #[.string (optS (trOk t) (txt 16 (fun p => fMost (dig t) (fun q => 15 &&& q) p 16))), .bool (trOk t)]) ∧ Below w.heap.size w w' := by
  have h := i_alone t (.func (.func 80) #[] #[]) (fun p => fMost (dig t) (fun q => 15 &&& q) p 16) w (fun i _ => fMost_lt _ _ _ 16) ⟨_, _, rfl⟩ (fun W _ _ => ⟨80, _, rfl, enters_of Try.func80 (by kernel_rfl) rfl, fun W' _ => fn_undo (dig t) W' (dig_lt t)⟩)
  have H := Lib.hid h; clear h
  go_enter Try.func24, Try.ntmps24
  go_wp2_with fail
  refine H.out.mono ?_
  rintro e w1 ⟨rfl, hb⟩
  go_wp2_with fail
  go_ret2
  exact ⟨rfl, hb⟩
set_option maxHeartbeats 2000000 in
theorem i_SplitWhile (p q : Int) (t : ByteArray) (w : World) : Calls Try.prog 26 #[.int .i64 p, .int .i64 q, .string t] w fun e w' => e = .returned (.tuple #[.string (optS ((trOk t && cvB p) && cvB q) (txt 16 (fSplit p.toNat q.toNat (dig t)))), .bool ((trOk t && cvB p) && cvB q)]) ∧ Below w.heap.size w w' := by
  cases hok : (trOk t && cvB p)
  · go_enter Try.func26, Try.ntmps26
    go_wp2_with fail
    refine (i_body _ _ _).mono ?_
    rw [hok]
    rintro e w1 ⟨rfl, hb⟩
    go_wp2_with (refine wpList_store_new rfl 66 _ _ rfl (row 16 (trF t)) rfl rfl (by rw [row_size]; kernel_rfl) (by first | rfl | (rw [row_size, row_size]) | (simp [row_size]; done)) (row_one _ _) ?_)
    go_ret2
    exact ⟨rfl, bel_on' hb (bel_1 _ _)⟩
  cases hq : cvB q
  · go_enter Try.func26, Try.ntmps26
    go_wp2_with fail
    refine (i_body _ _ _).mono ?_
    rw [hok]
    rintro e w1 ⟨rfl, hb⟩
    go_wp2_with (first | (refine wpList_store_new rfl 66 _ _ rfl (row 16 (trF t)) rfl rfl (by rw [row_size]; kernel_rfl) (by first | rfl | (rw [row_size, row_size]) | (simp [row_size]; done)) (row_one _ _) ?_) | (go_at_call 72; refine (i_ConditionValid _ _).mono ?_; rw [hq]; rintro e w2 ⟨rfl, rfl⟩))
    go_ret2
    exact ⟨rfl, bel_on' hb (bel_1 _ _)⟩
  · have g := hok
    rw [Bool.and_eq_true] at g
    obtain ⟨n, hn, rfl⟩ := (cvB_iff p).1 g.2
    obtain ⟨m, hm, rfl⟩ := (cvB_iff q).1 hq
    have k1 := trF_ok g.1
    have k2 := dig_mono g.1
    have hx : n &&& m < 16 := and_lt hn
    have b1 := bits_and_nat n m (by omega) (by omega)
    have K1 := Lib.hid k1; have K2 := Lib.hid k2; clear k1 k2 g
    go_enter Try.func26, Try.ntmps26
    go_wp2_with fail
    refine (i_body _ _ _).mono ?_
    rw [hok, K1.out]
    rintro e w1 ⟨rfl, hb⟩
    have r1 := RowAt.fresh w1 66 (row 16 (dig t))
    have hbb := bel_on' hb (bel_1 w1 (.cells (row 16 (dig t)) 66))
    go_wp2_with (first | (refine wpList_store_new rfl 66 _ _ rfl (row 16 (dig t)) rfl rfl (by rw [row_size]; kernel_rfl) (by first | rfl | (rw [row_size, row_size]) | (simp [row_size]; done)) (row_one _ _) ?_) | (refine wpList_load_row rfl 66 _ rfl (w1.heap.size) rfl 66 (row 16 (dig t)) (0, 0) _ r1 Try.underlying66 rfl (by rw [row_size]; kernel_rfl) ?_) | (go_at_call 72; refine (i_ConditionValid _ _).mono ?_; rw [hq]; rintro e w2 ⟨rfl, rfl⟩))
    refine (i_loop (n &&& m) (dig t) _ lfp _ pt_least (dig_lt t) K2.out hx).mono fun e w2 (h : e = .returned (.agg (row 16 (fWhile (n &&& m) (dig t)))) ∧ Below _ _ w2) => ?_
    obtain ⟨rfl, hb2⟩ := h
    go_wp2_with (refine wpList_store_new rfl 66 _ _ rfl (row 16 (fWhile (n &&& m) (dig t))) rfl rfl (by rw [row_size]; kernel_rfl) (by first | rfl | (rw [row_size, row_size]) | (simp [row_size]; done)) (row_one _ _) ?_)
    have h1 := ((r1.later hb2).alloc (.cells (row 16 (fWhile (n &&& m) (dig t))) 66)).drew
    have h2 := (RowAt.fresh w2 66 (row 16 (fWhile (n &&& m) (dig t)))).drew
    have hB := (bel_on' (bel_on' hbb hb2) (bel_1 w2 (.cells (row 16 (fWhile (n &&& m) (dig t))) 66))).drew
    clear hb hbb hb2 r1
    refine wp_region_held_drew (S := fun w3 => RowAt w3 w1.heap.size 66 (row 16 (dig t)) ∧ RowAt w3 w2.heap.size 66 (row 16 (fWhile (n &&& m) (dig t))) ∧ Below w.heap.size w w3) (by kernel_rfl) (⟨h1, h2, hB⟩) (fun hS => ?_)
    simp only [List.size_toArray, List.length_cons, List.length_nil, Nat.zero_add, Nat.reduceAdd, Array.replicate_succ, Array.replicate_zero, List.push_toArray, List.append_toArray, List.nil_append, List.cons_append]
    refine wpAnyH_take (i := 0) (v := .agg (row 16 (fWhile (n &&& m) (dig t)))) rfl (by kernel_rfl) (by kernel_rfl) (by kernel_rfl) (fun _ _ _ h => h) (yieldsIf_load_row (by rfl) 66 _ rfl w2.heap.size rfl 66 (row 16 (fWhile (n &&& m) (dig t))) _ (fun _ h => h.2.1) Try.underlying66 rfl (by rw [row_size]; kernel_rfl)) (by assumption) ?_
    simp only [Act.put, List.getElem_toArray, List.getElem_cons_zero, List.getElem_cons_succ, List.setIfInBounds_toArray, List.set_cons_zero, List.set_cons_succ]
    refine wpAnyH_take (i := 1) (v := .int .i64 (n : Int)) rfl (by kernel_rfl) (by kernel_rfl) (by kernel_rfl) (fun _ _ _ h => h) (Or.inl ⟨by rfl, fun w2 h2 => by (first | rfl | go_simp)⟩) (by assumption) ?_
    simp only [Act.put, List.getElem_toArray, List.getElem_cons_zero, List.getElem_cons_succ, List.setIfInBounds_toArray, List.set_cons_zero, List.set_cons_succ]
    refine wpAnyH_take (i := 2) (v := .agg (row 16 (dig t))) rfl (by kernel_rfl) (by kernel_rfl) (by kernel_rfl) (fun _ _ _ h => h) (yieldsIf_load_row (by rfl) 66 _ rfl w1.heap.size rfl 66 (row 16 (dig t)) _ (fun _ h => h.1) Try.underlying66 rfl (by rw [row_size]; kernel_rfl)) (by assumption) ?_
    simp only [Act.put, List.getElem_toArray, List.getElem_cons_zero, List.getElem_cons_succ, List.setIfInBounds_toArray, List.set_cons_zero, List.set_cons_succ]
    refine wpAnyH_take (i := 3) (v := .agg (row 16 (fWhile (n &&& m) (dig t)))) rfl (by kernel_rfl) (by kernel_rfl) (by kernel_rfl) (fun _ _ _ h => h) (yieldsIf_load_row (by rfl) 66 _ rfl w2.heap.size rfl 66 (row 16 (fWhile (n &&& m) (dig t))) _ (fun _ h => h.2.1) Try.underlying66 rfl (by rw [row_size]; kernel_rfl)) (by assumption) ?_
    simp only [Act.put, List.getElem_toArray, List.getElem_cons_zero, List.getElem_cons_succ, List.setIfInBounds_toArray, List.set_cons_zero, List.set_cons_succ]
    refine wpAnyH_ready (rs := [4]) (by kernel_rfl) (by simp) ?_
    refine AllReadyH.cons rfl (fun K hK => ?_) AllReadyH.nil
    rw [if_pos (by rfl)]
    go_simp
    refine (i_then (dig t) _ _ (fWhile_bd hx)).mono fun e w3 (h : e = .returned (.agg (row 16 (fSplitB n m (dig t)))) ∧ Below _ _ w3) => ?_
    obtain ⟨rfl, hb3⟩ := h
    refine hK.out _ _ ⟨hS.1.later hb3, hS.2.1.later hb3, bel_on hS.2.2 hb3 hS.2.2.size⟩ (fun hS => ?_)
    simp only [Act.put, List.getElem_toArray, List.getElem_cons_zero, List.getElem_cons_succ, List.setIfInBounds_toArray, List.set_cons_zero, List.set_cons_succ]
    refine wpAnyH_ready (rs := [5]) (by kernel_rfl) (by simp) ?_
    refine AllReadyH.cons rfl (fun K hK => ?_) AllReadyH.nil
    rw [if_pos (by rfl)]
    go_simp
    refine (i_loop n (fSplitB n m (dig t)) _ lfp _ pt_least (fun k => dig_lt t _) (fSplitB_mono hn (dig_bd t) K2.out) hn).mono fun e w4 (h : e = .returned (.agg (row 16 (fWhile n (fSplitB n m (dig t))))) ∧ Below _ _ w4) => ?_
    obtain ⟨rfl, hb4⟩ := h
    refine hK.out _ _ ⟨hS.1.later hb4, hS.2.1.later hb4, bel_on hS.2.2 hb4 hS.2.2.size⟩ (fun hS => ?_)
    simp only [Act.put, List.getElem_toArray, List.getElem_cons_zero, List.getElem_cons_succ, List.setIfInBounds_toArray, List.set_cons_zero, List.set_cons_succ]
    refine wpAnyH_ready (rs := [6]) (by kernel_rfl) (by simp) ?_
    refine AllReadyH.cons rfl (fun K hK => ?_) AllReadyH.nil
    rw [if_pos (by rfl)]
    go_simp
    refine (i_then (fWhile (n &&& m) (dig t)) _ _ (fWhile_bd hn)).mono fun e w5 (h : e = .returned (.agg (row 16 (fSplit n m (dig t)))) ∧ Below _ _ w5) => ?_
    obtain ⟨rfl, hb5⟩ := h
    refine hK.out _ _ ⟨hS.1.later hb5, hS.2.1.later hb5, bel_on hS.2.2 hb5 hS.2.2.size⟩ (fun hS => ?_)
    simp only [Act.put, List.getElem_toArray, List.getElem_cons_zero, List.getElem_cons_succ, List.setIfInBounds_toArray, List.set_cons_zero, List.set_cons_succ]
    refine wpAnyH_ready (rs := [7]) (by kernel_rfl) (by simp) ?_
    refine AllReadyH.cons rfl (fun K hK => ?_) AllReadyH.nil
    rw [if_pos (by rfl)]
    go_simp
    refine (i_transText _ _ (fun a ha => fWhile_bd hx _ (fWhile_bd hn a ha))).mono ?_
    rintro e w6 ⟨rfl, hb6⟩
    have hB6 := bel_on hS.2.2 hb6 hS.2.2.size
    refine hK.out _ _ ⟨hS.1.later hb6, hS.2.1.later hb6, hB6⟩ (fun hS => ?_)
    simp only [Act.put, List.getElem_toArray, List.getElem_cons_zero, List.getElem_cons_succ, List.setIfInBounds_toArray, List.set_cons_zero, List.set_cons_succ]
    refine wpAnyH_take (i := 8) (v := .string (txt 16 (fSplit n m (dig t)))) rfl (by kernel_rfl) (by kernel_rfl) (by kernel_rfl) (fun _ _ _ h => h) (Or.inl ⟨by rfl, fun w2 h2 => by (first | rfl | go_simp)⟩) (by assumption) ?_
    simp only [Act.put, List.getElem_toArray, List.getElem_cons_zero, List.getElem_cons_succ, List.setIfInBounds_toArray, List.set_cons_zero, List.set_cons_succ]
    refine wpAnyH_take (i := 9) (v := .bool true) rfl (by kernel_rfl) (by kernel_rfl) (by kernel_rfl) (fun _ _ _ h => h) (Or.inl ⟨by rfl, fun w2 h2 => by (first | rfl | go_simp)⟩) (by assumption) ?_
    simp only [Act.put, List.getElem_toArray, List.getElem_cons_zero, List.getElem_cons_succ, List.setIfInBounds_toArray, List.set_cons_zero, List.set_cons_succ]
    refine wpAnyH_done (by kernel_rfl) ?_ _
    go_wp2_with fail
    go_ret2
    exact ⟨rfl, hB6⟩
end Go.Proofs.Ytmhiphcnclkhhaa
