/- The program's proofs of loops: FindProof, ProvesLoop. -/
import Derived.Test.YtjbfebjdegabaaaImplRk
import Derived.Test.YtjbfebjdegabaaaImplI
import Derived.Test.YtjbfebjdegabaaaImplL
import Derived.Test.YtjbfebjdegabaaaSpecPl
namespace Go.Proofs.Ytjbfebjdegabaaa
set_option linter.unusedSimpArgs false
set_option linter.unusedVariables false
set_option maxRecDepth 4000
open Go.RowKit

set_option maxHeartbeats 2000000 in
theorem i_FindProof (p : Int) (t : ByteArray) (q : Int) (w : World) : Calls Try.prog 27 #[.int .i64 p, .string t, .int .i64 q] w fun e w' => ∃ v, e = .returned (.tuple #[.int .i64 (optI ((trOk t && cvB p) && cvB q) (fWhile p.toNat (dig t) q.toNat)), v]) ∧ IntsAt w.heap.size w' v (rkList ((trOk t && cvB p) && cvB q) (fBody p.toNat (dig t)) (andn q.toNat p.toNat)) ∧ Below w.heap.size w w' := by
  cases hok : (trOk t && cvB p)
  · go_enter Try.func27, Try.ntmps27
    go_wp2_with fail
    refine (i_body _ _ _).mono ?_
    rw [hok]
    rintro e w1 ⟨rfl, hb⟩
    have hr0 := RowAt.fresh1 w1 (.cells (row 16 (trF t)) 68) 3 #[]
    have hb2 := bel_on' hb (((Below.refl _ w1).alloc (Nat.le_refl _) (.cells (row 16 (trF t)) 68)).alloc (by simp) (.cells #[] 3))
    have hi := IntsAt.of_lit (B := w.heap.size) (zs := []) (by have := hb.size; omega) hr0 (by unfold maxLen; simp)
    have HI := Lib.hid hi; clear hi hr0
    go_wp2_with (refine wpList_store_new rfl 68 _ _ rfl (row 16 (trF t)) rfl rfl (by rw [row_size]; kernel_rfl) (by first | rfl | (rw [row_size, row_size]) | (simp [row_size]; done)) (row_one _ _) ?_)
    go_ret2
    exact ⟨_, rfl, HI.out, hb2⟩
  cases hq : cvB q
  · go_enter Try.func27, Try.ntmps27
    go_wp2_with fail
    refine (i_body _ _ _).mono ?_
    rw [hok]
    rintro e w1 ⟨rfl, hb⟩
    have hr0 := RowAt.fresh1 w1 (.cells (row 16 (trF t)) 68) 3 #[]
    have hb2 := bel_on' hb (((Below.refl _ w1).alloc (Nat.le_refl _) (.cells (row 16 (trF t)) 68)).alloc (by simp) (.cells #[] 3))
    have hi := IntsAt.of_lit (B := w.heap.size) (zs := []) (by have := hb.size; omega) hr0 (by unfold maxLen; simp)
    have HI := Lib.hid hi; clear hi hr0
    go_wp2_with (first | (refine wpList_store_new rfl 68 _ _ rfl (row 16 (trF t)) rfl rfl (by rw [row_size]; kernel_rfl) (by first | rfl | (rw [row_size, row_size]) | (simp [row_size]; done)) (row_one _ _) ?_) | (go_at_call 52; refine (i_ConditionValid _ _).mono ?_; rw [hq]; rintro e w2 ⟨rfl, rfl⟩))
    go_ret2
    exact ⟨_, rfl, HI.out, hb2⟩
  · have g := hok
    rw [Bool.and_eq_true] at g
    obtain ⟨n, hn, rfl⟩ := (cvB_iff p).1 g.2
    obtain ⟨m, hm, rfl⟩ := (cvB_iff q).1 hq
    have K1 := Lib.hid (trF_ok g.1); have K2 := Lib.hid (dig_mono g.1)
    clear g
    have hqp : andn m n < 16 := andn_lt hm
    have e1 := bits_andn_nat m n hm hn
    have HB1 := Lib.hid (show Bd (fBody n (dig t)) from fun x _ => fBody_lt _ hn x)
    have HB2 := Lib.hid (fBody_mono n K2.out)
    go_enter Try.func27, Try.ntmps27
    go_wp2_with fail
    refine (i_body _ _ _).mono ?_
    rw [hok, K1.out]
    rintro e w1 ⟨rfl, hb⟩
    have r1 := (RowAt.fresh w1 68 (row 16 (dig t))).drew
    have hbb := (bel_on' hb ((Below.refl _ w1).alloc (Nat.le_refl _) (.cells (row 16 (dig t)) 68))).drew
    go_wp2_with (first | (refine wpList_store_new rfl 68 _ _ rfl (row 16 (dig t)) rfl rfl (by rw [row_size]; kernel_rfl) (by first | rfl | (rw [row_size, row_size]) | (simp [row_size]; done)) (row_one _ _) ?_) | (go_at_call 52; refine (i_ConditionValid _ _).mono ?_; rw [hq]; rintro e w2 ⟨rfl, rfl⟩))
    clear hb
    refine wp_region_held_drew (S := fun w3 => RowAt w3 w1.heap.size 68 (row 16 (dig t)) ∧ Below w.heap.size w w3) (by kernel_rfl) (⟨r1, hbb⟩) (fun hS => ?_)
    simp only [List.size_toArray, List.length_cons, List.length_nil, Nat.zero_add, Nat.reduceAdd, Array.replicate_succ, Array.replicate_zero, List.push_toArray, List.append_toArray, List.nil_append, List.cons_append]
    refine wpAnyH_take (i := 0) (v := .int .i64 (n : Int)) rfl (by kernel_rfl) (by kernel_rfl) (by kernel_rfl) (fun _ _ _ h => h) (Or.inl ⟨by rfl, fun w2 h2 => by (first | rfl | go_simp)⟩) (by assumption) ?_
    simp only [Act.put, List.getElem_toArray, List.getElem_cons_zero, List.getElem_cons_succ, List.setIfInBounds_toArray, List.set_cons_zero, List.set_cons_succ]
    refine wpAnyH_take (i := 1) (v := .agg (row 16 (dig t))) rfl (by kernel_rfl) (by kernel_rfl) (by kernel_rfl) (fun _ _ _ h => h) (yieldsIf_load_row (by rfl) 68 _ rfl w1.heap.size rfl 68 (row 16 (dig t)) _ (fun _ h => h.1) Try.underlying68 rfl (by rw [row_size]; kernel_rfl)) (by assumption) ?_
    simp only [Act.put, List.getElem_toArray, List.getElem_cons_zero, List.getElem_cons_succ, List.setIfInBounds_toArray, List.set_cons_zero, List.set_cons_succ]
    refine wpAnyH_take (i := 3) (v := .int .i64 (m : Int)) rfl (by kernel_rfl) (by kernel_rfl) (by kernel_rfl) (fun _ _ _ h => h) (Or.inl ⟨by rfl, fun w2 h2 => by (first | rfl | go_simp)⟩) (by assumption) ?_
    simp only [Act.put, List.getElem_toArray, List.getElem_cons_zero, List.getElem_cons_succ, List.setIfInBounds_toArray, List.set_cons_zero, List.set_cons_succ]
    refine wpAnyH_take (i := 5) (v := .int .i64 (n : Int)) rfl (by kernel_rfl) (by kernel_rfl) (by kernel_rfl) (fun _ _ _ h => h) (Or.inl ⟨by rfl, fun w2 h2 => by (first | rfl | go_simp)⟩) (by assumption) ?_
    simp only [Act.put, List.getElem_toArray, List.getElem_cons_zero, List.getElem_cons_succ, List.setIfInBounds_toArray, List.set_cons_zero, List.set_cons_succ]
    refine wpAnyH_take (i := 7) (v := .agg (row 16 (dig t))) rfl (by kernel_rfl) (by kernel_rfl) (by kernel_rfl) (fun _ _ _ h => h) (yieldsIf_load_row (by rfl) 68 _ rfl w1.heap.size rfl 68 (row 16 (dig t)) _ (fun _ h => h.1) Try.underlying68 rfl (by rw [row_size]; kernel_rfl)) (by assumption) ?_
    simp only [Act.put, List.getElem_toArray, List.getElem_cons_zero, List.getElem_cons_succ, List.setIfInBounds_toArray, List.set_cons_zero, List.set_cons_succ]
    refine wpAnyH_take (i := 9) (v := .int .i64 (m : Int)) rfl (by kernel_rfl) (by kernel_rfl) (by kernel_rfl) (fun _ _ _ h => h) (Or.inl ⟨by rfl, fun w2 h2 => by (first | rfl | go_simp)⟩) (by assumption) ?_
    simp only [Act.put, List.getElem_toArray, List.getElem_cons_zero, List.getElem_cons_succ, List.setIfInBounds_toArray, List.set_cons_zero, List.set_cons_succ]
    refine wpAnyH_take (i := 10) (v := .int .i64 (n : Int)) rfl (by kernel_rfl) (by kernel_rfl) (by kernel_rfl) (fun _ _ _ h => h) (Or.inl ⟨by rfl, fun w2 h2 => by (first | rfl | go_simp)⟩) (by assumption) ?_
    simp only [Act.put, List.getElem_toArray, List.getElem_cons_zero, List.getElem_cons_succ, List.setIfInBounds_toArray, List.set_cons_zero, List.set_cons_succ]
    refine wpAnyH_take (i := 11) (v := .int .i64 ((andn m n : Nat) : Int)) rfl (by kernel_rfl) (by kernel_rfl) (by kernel_rfl) (fun _ _ _ h => h) (Or.inl ⟨by rfl, fun w2 h2 => by (first | rfl | go_simp)⟩) (by assumption) ?_
    simp only [Act.put, List.getElem_toArray, List.getElem_cons_zero, List.getElem_cons_succ, List.setIfInBounds_toArray, List.set_cons_zero, List.set_cons_succ]
    refine wpAnyH_ready (rs := [2]) (by kernel_rfl) (by simp) ?_
    refine AllReadyH.cons rfl (fun K hK => ?_) AllReadyH.nil
    rw [if_pos (by rfl)]
    go_simp
    refine (i_loop n (dig t) _ lfp _ pt_least (dig_lt t) K2.out hn).mono fun e w4 (h : e = .returned (.agg (row 16 (fWhile n (dig t)))) ∧ Below _ _ w4) => ?_
    obtain ⟨rfl, hb4⟩ := h
    refine hK.out _ _ ⟨hS.1.later hb4, bel_on' hS.2 hb4⟩ (fun hS => ?_)
    simp only [Act.put, List.getElem_toArray, List.getElem_cons_zero, List.getElem_cons_succ, List.setIfInBounds_toArray, List.set_cons_zero, List.set_cons_succ]
    have hidx := fun w => run_index_row (P := Try.prog) (F := fWhile n (dig t)) (T := 68) Try.underlying68 Try.underlying3 (by kernel_rfl) hm w
    refine wpAnyH_take (i := 4) (v := .int .i64 (fWhile n (dig t) m : Int)) rfl (by kernel_rfl) (by kernel_rfl) (by kernel_rfl) (fun _ _ _ h => h) (Or.inl ⟨by rfl, fun w2 h2 => by (first | rfl | go_simp)⟩) (by assumption) ?_
    simp only [Act.put, List.getElem_toArray, List.getElem_cons_zero, List.getElem_cons_succ, List.setIfInBounds_toArray, List.set_cons_zero, List.set_cons_succ]
    refine wpAnyH_ready (rs := [6]) (by kernel_rfl) (by simp) ?_
    refine AllReadyH.cons rfl (fun K hK => ?_) AllReadyH.nil
    rw [if_pos (by rfl)]
    go_simp
    refine (i_assert n _ hn).mono ?_
    rintro e w5 ⟨rfl, hb5⟩
    refine hK.out _ _ ⟨hS.1.later hb5, bel_on' hS.2 hb5⟩ (fun hS => ?_)
    simp only [Act.put, List.getElem_toArray, List.getElem_cons_zero, List.getElem_cons_succ, List.setIfInBounds_toArray, List.set_cons_zero, List.set_cons_succ]
    refine wpAnyH_ready (rs := [8]) (by kernel_rfl) (by simp) ?_
    refine AllReadyH.cons rfl (fun K hK => ?_) AllReadyH.nil
    rw [if_pos (by rfl)]
    go_simp
    refine (i_then (fun q => n &&& q) (dig t) _ (dig_bd t)).mono fun e w6 (h : e = .returned (.agg (row 16 (fBody n (dig t)))) ∧ Below _ _ w6) => ?_
    obtain ⟨rfl, hb6⟩ := h
    refine hK.out _ _ ⟨hS.1.later hb6, bel_on' hS.2 hb6⟩ (fun hS => ?_)
    simp only [Act.put, List.getElem_toArray, List.getElem_cons_zero, List.getElem_cons_succ, List.setIfInBounds_toArray, List.set_cons_zero, List.set_cons_succ]
    refine wpAnyH_ready (rs := [12]) (by kernel_rfl) (by simp) ?_
    refine AllReadyH.cons rfl (fun K hK => ?_) AllReadyH.nil
    rw [if_pos (by rfl)]
    go_simp
    refine (i_ranks (fBody n (dig t)) (andn m n) _ HB1.out HB2.out hqp).mono ?_
    rintro e w7 ⟨v, rfl, hi7, hb7⟩
    have hB7 := bel_on' hS.2 hb7
    have hsz7 := hS.2.size
    have HI7 := Lib.hid hi7; clear hi7
    refine hK.out _ _ ⟨hS.1.later hb7, hB7⟩ (fun hS => ?_)
    simp only [Act.put, List.getElem_toArray, List.getElem_cons_zero, List.getElem_cons_succ, List.setIfInBounds_toArray, List.set_cons_zero, List.set_cons_succ]
    refine wpAnyH_take (i := 13) (v := .int .i64 (fWhile n (dig t) m : Int)) rfl (by kernel_rfl) (by kernel_rfl) (by kernel_rfl) (fun _ _ _ h => h) (Or.inl ⟨by rfl, fun w2 h2 => by (first | rfl | go_simp)⟩) (by assumption) ?_
    simp only [Act.put, List.getElem_toArray, List.getElem_cons_zero, List.getElem_cons_succ, List.setIfInBounds_toArray, List.set_cons_zero, List.set_cons_succ]
    refine wpAnyH_take (i := 14) (v := v) rfl (by kernel_rfl) (by kernel_rfl) (by kernel_rfl) (fun _ _ _ h => h) (Or.inl ⟨by rfl, fun w2 h2 => by (first | rfl | go_simp)⟩) (by assumption) ?_
    simp only [Act.put, List.getElem_toArray, List.getElem_cons_zero, List.getElem_cons_succ, List.setIfInBounds_toArray, List.set_cons_zero, List.set_cons_succ]
    refine wpAnyH_done (by kernel_rfl) ?_ _
    go_wp2_with fail
    go_ret2
    obtain ⟨g, cap, cur, h1, h2, h3⟩ := HI7.out
    exact ⟨v, rfl, ⟨g, cap, cur, h1, by omega, h3⟩, hB7⟩
end Go.Proofs.Ytjbfebjdegabaaa
