/- The program's readers of several arguments, relations and families made of functions, fixed points. -/
import Derived.Test.YtiaeakpgldpaiaaImplB
import Derived.Test.YtiaeakpgldpaiaaBase2
namespace Go.Proofs.Ytiaeakpgldpaiaa
set_option linter.unusedSimpArgs false
set_option linter.unusedVariables false
set_option maxRecDepth 4000
open Go.RowKit

theorem i_RelValid (s : ByteArray) (w : World) : Calls Try.prog 169 #[.string s] w fun e w' => e = .returned (.bool (relOk s)) ∧ Below w.heap.size w w' := by
  go_enter Try.func169, Try.ntmps169
  go_wp2_with (first | (go_at_call 101; refine (i_readRel _ _).mono ?_; rintro e w' ⟨rfl, hb⟩) | (refine wpList_store_new rfl 68 _ _ rfl (row 4 (relF s)) rfl rfl (by rw [row_size]; kernel_rfl) (by first | rfl | (rw [row_size, row_size]) | (simp [row_size]; done)) (row_one _ _) ?_))
  go_ret
  exact ⟨rfl, hb.alloc hb.size _⟩
set_option maxHeartbeats 1000000 in
theorem i_body (p : Int) (s : ByteArray) (w : World) : Calls Try.prog 147 #[.int .i64 p, .string s] w fun e w' => e = .returned (.tuple #[.agg (row 16 (trF s)), .bool (trOk s && cvB p)]) ∧ Below w.heap.size w w' := by
  have z0 := RowAt.fresh w 77 (row 16 (fun _ => 0))
  cases hok : trOk s
  all_goals
    go_enter Try.func147, Try.ntmps147
    go_wp2_with fail
    refine (i_readTrans _ _).mono ?_
    rw [hok]
    rintro e w' ⟨rfl, hb⟩
    go_wp2_with (refine wpList_store_new rfl 77 _ _ rfl (row 16 (trF s)) rfl rfl (by rw [row_size]; kernel_rfl) (by first | rfl | (rw [row_size, row_size]) | (simp [row_size]; done)) (row_one _ _) ?_)
    have hz := RowAt.fresh w' 77 (row 16 (trF s))
    have hr := ((z0.later hb).alloc (.cells (row 16 (trF s)) 77)).drew
    have hbb : Below w.heap.size w (w'.alloc (.cells (row 16 (trF s)) 77)).drew := ((bel_on ((Below.refl _ w).alloc (Nat.le_refl _) _) hb (by simp)).alloc (by have := hb.size; simp at this; omega) _).drew
    have hne : w'.heap.size ≠ w.heap.size := by have := hb.size; simp at this; omega
    refine wp_region_held_drew (S := fun w3 => RowAt w3 w'.heap.size 77 (row 16 (trF s))) (by kernel_rfl) (hz.drew) (fun hS => ?_)
    simp only [List.size_toArray, List.length_cons, List.length_nil, Nat.zero_add, Nat.reduceAdd, Array.replicate_succ, Array.replicate_zero, List.push_toArray, List.append_toArray, List.nil_append, List.cons_append]
    refine wpAnyH_take (i := 0) (v := .agg (row 16 (trF s))) rfl (by kernel_rfl) (by kernel_rfl) (by kernel_rfl) (fun _ _ _ h => h) (yieldsIf_load_row (by rfl) 77 _ rfl w'.heap.size rfl 77 (row 16 (trF s)) _ (fun _ h => h) Try.underlying77 rfl (by rw [row_size]; kernel_rfl)) (by assumption) ?_
    simp only [Act.put, List.getElem_toArray, List.getElem_cons_zero, List.getElem_cons_succ, List.setIfInBounds_toArray, List.set_cons_zero, List.set_cons_succ]
  · refine wpAnyH_take (i := 1) (v := .bool false) rfl (by kernel_rfl) (by kernel_rfl) (by kernel_rfl) (fun _ _ _ h => h) (Or.inl ⟨by rfl, fun w2 h2 => by (first | rfl | go_simp)⟩) (by assumption) ?_
    simp only [Act.put, List.getElem_toArray, List.getElem_cons_zero, List.getElem_cons_succ, List.setIfInBounds_toArray, List.set_cons_zero, List.set_cons_succ]
    refine wpAnyH_take (i := 2) (v := .bool false) rfl (by kernel_rfl) (by kernel_rfl) (by kernel_rfl) (fun _ _ _ h => h) (Or.inl ⟨by rfl, fun w2 h2 => by (first | rfl | go_simp)⟩) (by assumption) ?_
    simp only [Act.put, List.getElem_toArray, List.getElem_cons_zero, List.getElem_cons_succ, List.setIfInBounds_toArray, List.set_cons_zero, List.set_cons_succ]
    refine wpAnyH_take (i := 3) (v := undef) rfl (by kernel_rfl) (by kernel_rfl) (by kernel_rfl) (fun _ _ _ h => h) (Or.inr ⟨by rfl, rfl⟩) (by assumption) ?_
    simp only [Act.put, List.getElem_toArray, List.getElem_cons_zero, List.getElem_cons_succ, List.setIfInBounds_toArray, List.set_cons_zero, List.set_cons_succ]
    refine wpAnyH_take (i := 4) (v := undef) rfl (by kernel_rfl) (by kernel_rfl) (by kernel_rfl) (fun _ _ _ h => h) (Or.inr ⟨by rfl, rfl⟩) (by assumption) ?_
    simp only [Act.put, List.getElem_toArray, List.getElem_cons_zero, List.getElem_cons_succ, List.setIfInBounds_toArray, List.set_cons_zero, List.set_cons_succ]
    refine wpAnyH_take (i := 5) (v := .bool false) rfl (by kernel_rfl) (by kernel_rfl) (by kernel_rfl) (fun _ _ _ h => h) (Or.inl ⟨by rfl, fun w2 h2 => by (first | rfl | go_simp)⟩) (by assumption) ?_
    simp only [Act.put, List.getElem_toArray, List.getElem_cons_zero, List.getElem_cons_succ, List.setIfInBounds_toArray, List.set_cons_zero, List.set_cons_succ]
    refine wpAnyH_ready (rs := [6]) (by kernel_rfl) (by simp) ?_
    refine AllReadyH.cons rfl (fun K hK => ?_) AllReadyH.nil
    rw [if_pos (by rfl)]
    refine wp_store_row 77 _ _ rfl w.heap.size (row 16 (trF s)) rfl rfl 77 _ hr (by rw [row_size]; kernel_rfl) (by rw [row_size, row_size]) (row_one _ _) ?_
    refine hK.out _ _ (hz.drew.putOther _ hne) (fun hS => ?_)
    simp only [Act.put, List.getElem_toArray, List.getElem_cons_zero, List.getElem_cons_succ, List.setIfInBounds_toArray, List.set_cons_zero, List.set_cons_succ]
    refine wpAnyH_take (i := 7) (v := .bool false) rfl (by kernel_rfl) (by kernel_rfl) (by kernel_rfl) (fun _ _ _ h => h) (Or.inl ⟨by rfl, fun w2 h2 => by (first | rfl | go_simp)⟩) (by assumption) ?_
    simp only [Act.put, List.getElem_toArray, List.getElem_cons_zero, List.getElem_cons_succ, List.setIfInBounds_toArray, List.set_cons_zero, List.set_cons_succ]
    refine wpAnyH_done (by kernel_rfl) ?_ _
    go_wp2
    exact bodyPost_ret (results_row_b rfl _ _ w.heap.size 77 _ _ _ rfl rfl (hr.put _) Try.underlying77 rfl (by rw [row_size]; kernel_rfl)) rfl ⟨rfl, bel_setRow hbb (Nat.le_refl _) _⟩
  · refine wpAnyH_take (i := 1) (v := .bool true) rfl (by kernel_rfl) (by kernel_rfl) (by kernel_rfl) (fun _ _ _ h => h) (Or.inl ⟨by rfl, fun w2 h2 => by (first | rfl | go_simp)⟩) (by assumption) ?_
    simp only [Act.put, List.getElem_toArray, List.getElem_cons_zero, List.getElem_cons_succ, List.setIfInBounds_toArray, List.set_cons_zero, List.set_cons_succ]
    refine wpAnyH_take (i := 2) (v := .bool true) rfl (by kernel_rfl) (by kernel_rfl) (by kernel_rfl) (fun _ _ _ h => h) (Or.inl ⟨by rfl, fun w2 h2 => by (first | rfl | go_simp)⟩) (by assumption) ?_
    simp only [Act.put, List.getElem_toArray, List.getElem_cons_zero, List.getElem_cons_succ, List.setIfInBounds_toArray, List.set_cons_zero, List.set_cons_succ]
    refine wpAnyH_take (i := 3) (v := .int .i64 p) rfl (by kernel_rfl) (by kernel_rfl) (by kernel_rfl) (fun _ _ _ h => h) (Or.inl ⟨by rfl, fun w2 h2 => by (first | rfl | go_simp)⟩) (by assumption) ?_
    simp only [Act.put, List.getElem_toArray, List.getElem_cons_zero, List.getElem_cons_succ, List.setIfInBounds_toArray, List.set_cons_zero, List.set_cons_succ]
    refine wpAnyH_ready (rs := [4]) (by kernel_rfl) (by simp) ?_
    refine AllReadyH.cons rfl (fun K hK => ?_) AllReadyH.nil
    rw [if_pos (by rfl)]
    go_simp
    refine (i_ConditionValid _ _).mono ?_
    rintro e w2 ⟨rfl, rfl⟩
    refine hK.out _ _ hS (fun hS => ?_)
    simp only [Act.put, List.getElem_toArray, List.getElem_cons_zero, List.getElem_cons_succ, List.setIfInBounds_toArray, List.set_cons_zero, List.set_cons_succ]
    refine wpAnyH_take (i := 5) (v := .bool (cvB p)) rfl (by kernel_rfl) (by kernel_rfl) (by kernel_rfl) (fun _ _ _ h => h) (Or.inl ⟨by rfl, fun w2 h2 => by (first | rfl | go_simp)⟩) (by assumption) ?_
    simp only [Act.put, List.getElem_toArray, List.getElem_cons_zero, List.getElem_cons_succ, List.setIfInBounds_toArray, List.set_cons_zero, List.set_cons_succ]
    refine wpAnyH_ready (rs := [6]) (by kernel_rfl) (by simp) ?_
    refine AllReadyH.cons rfl (fun K hK => ?_) AllReadyH.nil
    rw [if_pos (by rfl)]
    refine wp_store_row 77 _ _ rfl w.heap.size (row 16 (trF s)) rfl rfl 77 _ hr (by rw [row_size]; kernel_rfl) (by rw [row_size, row_size]) (row_one _ _) ?_
    refine hK.out _ _ (hz.drew.putOther _ hne) (fun hS => ?_)
    simp only [Act.put, List.getElem_toArray, List.getElem_cons_zero, List.getElem_cons_succ, List.setIfInBounds_toArray, List.set_cons_zero, List.set_cons_succ]
    refine wpAnyH_take (i := 7) (v := .bool (cvB p)) rfl (by kernel_rfl) (by kernel_rfl) (by kernel_rfl) (fun _ _ _ h => h) (Or.inl ⟨by rfl, fun w2 h2 => by (first | rfl | go_simp)⟩) (by assumption) ?_
    simp only [Act.put, List.getElem_toArray, List.getElem_cons_zero, List.getElem_cons_succ, List.setIfInBounds_toArray, List.set_cons_zero, List.set_cons_succ]
    refine wpAnyH_done (by kernel_rfl) ?_ _
    go_wp2
    exact bodyPost_ret (results_row_b rfl _ _ w.heap.size 77 _ _ _ rfl rfl (hr.put _) Try.underlying77 rfl (by rw [row_size]; kernel_rfl)) rfl ⟨rfl, bel_setRow hbb (Nat.le_refl _) _⟩
end Go.Proofs.Ytiaeakpgldpaiaa
