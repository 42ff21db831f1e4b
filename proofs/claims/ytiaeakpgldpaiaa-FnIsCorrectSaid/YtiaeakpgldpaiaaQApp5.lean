/- Specifications' transformers, domains and images, as the laws call them. -/
import Derived.Test.YtiaeakpgldpaiaaQApp4
import Derived.Test.YtiaeakpgldpaiaaQImplX
import Derived.Test.YtiaeakpgldpaiaaQPlainU
namespace Go.Proofs.Ytiaeakpgldpaiaa
set_option linter.unusedSimpArgs false
set_option linter.unusedVariables false
set_option maxRecDepth 4000
open Go.RowKit

theorem i_SpecTrans (p : Int) (r : ByteArray) (w : World) : Calls Try.prog 17 #[.int .i64 p, .string r] w fun e w' => e = .returned (.tuple #[.string (optS (cvB p && relOk r) (txt 16 (fSpec p.toNat (dig r)))), .bool (cvB p && relOk r)]) ∧ Below w.heap.size w w' := by
  cases hr : relOk r
  · rw [Bool.and_false]
    go_enter Try.func17, Try.ntmps17
    go_wp2_with fail
    refine (i_readRel _ _).mono ?_
    rw [hr]
    rintro e w1 ⟨rfl, hb⟩
    go_wp2_with (refine wpList_store_new rfl 68 _ _ rfl (row 4 (relF r)) rfl rfl (by rw [row_size]; kernel_rfl) (by first | rfl | (rw [row_size, row_size]) | (simp [row_size]; done)) (row_one _ _) ?_)
    go_ret2
    exact ⟨rfl, bel_on' hb (bel_1 _ _)⟩
  rw [Bool.and_true]
  have k1 := relF_ok hr
  have K1 := Lib.hid k1; clear k1
  cases hp : cvB p
  · go_enter Try.func17, Try.ntmps17
    go_wp2_with fail
    refine (i_readRel _ _).mono ?_
    rw [hr, K1.out]
    rintro e w1 ⟨rfl, hb⟩
    go_wp2_with (first | (refine wpList_store_new rfl 68 _ _ rfl (row 4 (dig r)) rfl rfl (by rw [row_size]; kernel_rfl) (by first | rfl | (rw [row_size, row_size]) | (simp [row_size]; done)) (row_one _ _) ?_) | (go_at_call 56; refine (i_ConditionValid _ _).mono ?_; rw [hp]; rintro e w' ⟨rfl, rfl⟩))
    go_ret2
    exact ⟨rfl, bel_on' hb (bel_1 _ _)⟩
  · obtain ⟨n, hn, rfl⟩ := (cvB_iff p).1 hp
    have hF : ∀ i, i < 16 → fSpec n (dig r) i < 16 := fun i _ => fSpec_lt hn i
    have HF := Lib.hid hF; clear hF
    go_enter Try.func17, Try.ntmps17
    go_wp2_with fail
    refine (i_readRel _ _).mono ?_
    rw [hr, K1.out]
    rintro e w1 ⟨rfl, hb⟩
    have r1 := RowAt.fresh w1 68 (row 4 (dig r))
    have hbb := bel_on' hb (bel_1 w1 (.cells (row 4 (dig r)) 68))
    go_wp2_with (first | (refine wpList_store_new rfl 68 _ _ rfl (row 4 (dig r)) rfl rfl (by rw [row_size]; kernel_rfl) (by first | rfl | (rw [row_size, row_size]) | (simp [row_size]; done)) (row_one _ _) ?_) | (go_at_call 56; refine (i_ConditionValid _ _).mono ?_; rw [hp]; rintro e w' ⟨rfl, rfl⟩) | (refine wpList_load_row rfl 68 _ rfl (w1.heap.size) rfl 68 (row 4 (dig r)) (0, 0) _ r1 Try.underlying68 rfl (by rw [row_size]; kernel_rfl) ?_))
    refine (i_spec n (dig r) _ hn (dig_lt r)).mono ?_
    rintro e w3 ⟨rfl, hb3⟩
    go_wp2_with fail
    refine (i_transText _ _ HF.out).mono ?_
    rintro e w4 ⟨rfl, hb4⟩
    go_wp2_with fail
    go_ret2
    exact ⟨rfl, bel_on' (bel_on' hbb hb3) hb4⟩
theorem i_askedN (r : ByteArray) (p g G : Nat) (w : World) (hr : relOk r = true) (hp : p < 16) (hent : ∀ args w, (callFunc g args).run Try.prog w = .ok (.enter g args) w) (hcall : ∀ W, Calls Try.prog g #[.agg (row 4 (dig r)), .int .i64 (p : Int)] W fun e W' => e = .returned (.int .i64 (G : Int)) ∧ Below W.heap.size W W') : Calls Try.prog 126 #[.string r, .int .i64 (p : Int), .func (.func g) #[] #[]] w fun e w' => e = .returned (.int .i64 (G : Int)) ∧ Below w.heap.size w w' := by
  have k1 := relF_ok hr
  have K1 := Lib.hid k1; have HC := Lib.hid hcall; clear k1 hcall
  go_enter Try.func126, Try.ntmps126
  go_wp2_with fail
  refine (i_readRel _ _).mono ?_
  rw [hr, K1.out]
  rintro e w1 ⟨rfl, hb⟩
  have r1 := RowAt.fresh w1 68 (row 4 (dig r))
  have hbb := bel_on' hb (bel_1 w1 (.cells (row 4 (dig r)) 68))
  go_wp2_with (first | (refine wpList_store_new rfl 68 _ _ rfl (row 4 (dig r)) rfl rfl (by rw [row_size]; kernel_rfl) (by first | rfl | (rw [row_size, row_size]) | (simp [row_size]; done)) (row_one _ _) ?_) | (refine wpList_load_row rfl 68 _ rfl (w1.heap.size) rfl 68 (row 4 (dig r)) (0, 0) _ r1 Try.underlying68 rfl (by rw [row_size]; kernel_rfl) ?_))
  refine (i_CvN p _ hp).mono ?_
  rintro e w' ⟨rfl, rfl⟩
  go_wp2_with (first | (refine wpList_load_row rfl 68 _ rfl (w1.heap.size) rfl 68 (row 4 (dig r)) (0, 0) _ r1 Try.underlying68 rfl (by rw [row_size]; kernel_rfl) ?_))
  refine (HC.out _).mono ?_
  rintro e w3 ⟨rfl, hb3⟩
  go_wp2_with fail
  go_ret
  exact ⟨rfl, bel_on' hbb hb3⟩
theorem i_DomainN (r : ByteArray) (w : World) (hr : relOk r = true) : Calls Try.prog 32 #[.string r] w fun e w' => e = .returned (.int .i64 ((fDia (dig r) 15 4 : Nat) : Int)) ∧ Below w.heap.size w w' := by
  have h := fun w => i_askedN r 15 127 (fDia (dig r) 15 4) w hr (by omega) (enters_of Try.func127 (by kernel_rfl) rfl) (fun W => i_diamond (dig r) 15 W (dig_lt r) (by omega))
  have H := Lib.hid h; clear h
  go_enter Try.func32, Try.ntmps32
  go_wp2_with fail
  refine (H.out _).mono ?_
  rintro e w1 ⟨rfl, hb⟩
  go_wp2_with fail
  go_ret
  exact ⟨rfl, hb⟩
set_option maxHeartbeats 1000000 in
theorem i_demonAbove (T : Nat → Nat) (W : World) (hT : Bd T) : Calls Try.prog 105 #[.agg (row 16 T)] W fun e W' => e = .returned (.agg (row 16 (fSpec (T 15) (fun s => fLead T s 16)))) ∧ Below W.heap.size W W' := by
  have h1 := ((RowAt.fresh W 77 (row 16 T)).alloc (.cells (row 16 (fun _ => 0)) 77)).drew
  have h3 := (RowAt.fresh1 W (.cells (row 16 T) 77) 77 (row 16 (fun _ => 0))).drew
  have hbb := (bel_2 W (.cells (row 16 T) 77) (.cells (row 16 (fun _ => 0)) 77)).drew
  have h15 : T 15 < 16 := hT 15 (by omega)
  have hL : ∀ s, fLead T s 16 < 16 := fun s => fLead_lt T s 16
  have HT := Lib.hid hT; have HL := Lib.hid hL; clear hT hL
  go_enter Try.func105, Try.ntmps105
  go_wp2_with fail
  refine wp_region_held_drew (S := fun w3 => RowAt w3 W.heap.size 77 (row 16 T) ∧ (∃ X, RowAt w3 (W.heap.size + 1) 77 (row 16 X)) ∧ Below W.heap.size W w3) (by kernel_rfl) (⟨h1, ⟨_, h3⟩, hbb⟩) (fun hS => ?_)
  simp only [List.size_toArray, List.length_cons, List.length_nil, Nat.zero_add, Nat.reduceAdd, Array.replicate_succ, Array.replicate_zero, List.push_toArray, List.append_toArray, List.nil_append, List.cons_append]
  refine wpAnyH_take (i := 0) (v := .pointer (some ⟨W.heap.size, 15, none⟩)) rfl (by kernel_rfl) (by kernel_rfl) (by kernel_rfl) (fun _ _ _ h => h) (Or.inl ⟨by rfl, fun w2 h2 => by (first | rfl | go_simp)⟩) (by assumption) ?_
  simp only [Act.put, List.getElem_toArray, List.getElem_cons_zero, List.getElem_cons_succ, List.setIfInBounds_toArray, List.set_cons_zero, List.set_cons_succ]
  refine wpAnyH_take (i := 1) (v := .int .i64 (T 15 : Int)) rfl (by kernel_rfl) (by kernel_rfl) (by kernel_rfl) (fun _ _ _ h => h) (Or.inl ⟨by rfl, fun w6 h6 => by have c : w6.cell? ⟨W.heap.size, 15, none⟩ = some (.int .i64 (T 15 : Int)) := h6.1.cell 15 (by omega); (first | rfl | go_simp)⟩) (by assumption) ?_
  simp only [Act.put, List.getElem_toArray, List.getElem_cons_zero, List.getElem_cons_succ, List.setIfInBounds_toArray, List.set_cons_zero, List.set_cons_succ]
  refine wpAnyH_take (i := 2) (v := .agg (row 16 T)) rfl (by kernel_rfl) (by kernel_rfl) (by kernel_rfl) (fun _ _ _ h => h) (yieldsIf_load_row (by rfl) 77 _ rfl W.heap.size rfl 77 (row 16 T) _ (fun _ h => h.1) Try.underlying77 rfl (by rw [row_size]; kernel_rfl)) (by assumption) ?_
  simp only [Act.put, List.getElem_toArray, List.getElem_cons_zero, List.getElem_cons_succ, List.setIfInBounds_toArray, List.set_cons_zero, List.set_cons_succ]
  refine wpAnyH_ready (rs := [3]) (by kernel_rfl) (by simp) ?_
  refine AllReadyH.cons rfl (fun K hK => ?_) AllReadyH.nil
  rw [if_pos (by rfl)]
  go_simp
  refine (i_leads T _ HT.out).mono ?_
  rintro e w3 ⟨rfl, hb3⟩
  refine hK.out _ _ ⟨hS.1.later hb3, hS.2.1.elim (fun X h => ⟨X, h.later hb3⟩), bel_on hS.2.2 hb3 hS.2.2.size⟩ (fun hS => ?_)
  simp only [Act.put, List.getElem_toArray, List.getElem_cons_zero, List.getElem_cons_succ, List.setIfInBounds_toArray, List.set_cons_zero, List.set_cons_succ]
  refine wpAnyH_ready (rs := [4]) (by kernel_rfl) (by simp) ?_
  refine AllReadyH.cons rfl (fun K hK => ?_) AllReadyH.nil
  rw [if_pos (by rfl)]
  go_simp
  refine (i_spec (T 15) (fun s => fLead T s 16) _ h15 HL.out).mono ?_
  rintro e w4 ⟨rfl, hb4⟩
  refine hK.out _ _ ⟨hS.1.later hb4, hS.2.1.elim (fun X h => ⟨X, h.later hb4⟩), bel_on hS.2.2 hb4 hS.2.2.size⟩ (fun hS => ?_)
  simp only [Act.put, List.getElem_toArray, List.getElem_cons_zero, List.getElem_cons_succ, List.setIfInBounds_toArray, List.set_cons_zero, List.set_cons_succ]
  refine wpAnyH_ready (rs := [5]) (by kernel_rfl) (by simp) ?_
  refine AllReadyH.cons rfl (fun K hK => ?_) AllReadyH.nil
  rw [if_pos (by rfl)]
  obtain ⟨X, hX⟩ := hS.2.1
  refine wp_store_row 77 _ _ rfl (W.heap.size + 1) (row 16 (fSpec (T 15) (fun s => fLead T s 16))) rfl rfl 77 _ hX (by rw [row_size]; kernel_rfl) (by rw [row_size, row_size]) (row_one _ _) ?_
  have hr := hX.put (row 16 (fSpec (T 15) (fun s => fLead T s 16)))
  have hB := bel_setRow hS.2.2 (show W.heap.size ≤ W.heap.size + 1 by omega) (row 16 (fSpec (T 15) (fun s => fLead T s 16)))
  refine hK.out _ _ ⟨hS.1.putOther _ (by omega), ⟨_, hr⟩, hB⟩ (fun hS => ?_)
  simp only [Act.put, List.getElem_toArray, List.getElem_cons_zero, List.getElem_cons_succ, List.setIfInBounds_toArray, List.set_cons_zero, List.set_cons_succ]
  refine wpAnyH_done (by kernel_rfl) ?_ _
  go_wp2_with fail
  exact bodyPost_ret (results_cell_row rfl _ _ (W.heap.size + 1) 77 _ (0, 0) _ rfl hr Try.underlying77 rfl (by rw [row_size]; kernel_rfl)) rfl ⟨rfl, hB⟩
theorem i_DemonAbove (t : ByteArray) (w : World) : Calls Try.prog 18 #[.string t] w fun e w' => e = .returned (.tuple #[.string (optS (trOk t) (txt 16 (fSpec (dig t 15) (fun s => fLead (dig t) s 16)))), .bool (trOk t)]) ∧ Below w.heap.size w w' := by
  have h := i_alone t (.func (.func 105) #[] #[]) (fSpec (dig t 15) (fun s => fLead (dig t) s 16)) w (fun i hi => fSpec_lt (dig_lt t 15) i) ⟨_, _, rfl⟩ (fun W _ _ => ⟨105, _, rfl, enters_of Try.func105 (by kernel_rfl) rfl, fun W' _ => i_demonAbove (dig t) W' (dig_bd t)⟩)
  have H := Lib.hid h; clear h
  go_enter Try.func18, Try.ntmps18
  go_wp2_with fail
  refine H.out.mono ?_
  rintro e w1 ⟨rfl, hb⟩
  go_wp2_with fail
  go_ret2
  exact ⟨rfl, hb⟩
end Go.Proofs.Ytiaeakpgldpaiaa
