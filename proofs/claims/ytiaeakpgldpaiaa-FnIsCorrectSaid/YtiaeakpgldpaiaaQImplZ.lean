/- The program's MeetsSpec and WeakestSpec. -/
import Derived.Test.YtiaeakpgldpaiaaQImplY
namespace Go.Proofs.Ytiaeakpgldpaiaa
set_option linter.unusedSimpArgs false
set_option linter.unusedVariables false
set_option maxRecDepth 4000
open Go.RowKit

theorem i_TransOfContract (c : ByteArray) (w : World) : Calls Try.prog 111 #[.string c] w fun e w' => e = .returned (.tuple #[.string (optS (ctOk c) (txt 16 (ctT c))), .bool (ctOk c)]) ∧ Below w.heap.size w w' := by
  cases h : ctOk c
  · go_enter Try.func111, Try.ntmps111
    go_wp2_with fail
    refine (i_read_no c _ h).mono ?_
    rintro e w1 ⟨rfl, hb⟩
    go_wp2_with fail
    go_ret2
    exact ⟨rfl, hb⟩
  · have hl : ∀ i, i < 16 → ctT c i < 16 := fun i hi => ctT_lt c i hi
    have HL := Lib.hid hl; clear hl
    go_enter Try.func111, Try.ntmps111
    go_wp2_with fail
    refine (i_read_yes c _ h).mono ?_
    rintro e w1 ⟨b, rfl, hct, hb⟩
    have HCT : Hid (CtHeld c w1 b) := Lib.hid hct; clear hct
    go_wp2_with fail
    refine (HCT.out _ (Below.refl _ _)).mono ?_
    rintro e w2 ⟨rfl, hb2⟩
    go_wp2_with fail
    refine (i_transText _ _ HL.out).mono ?_
    rintro e w3 ⟨rfl, hb3⟩
    go_wp2_with fail
    go_ret2
    exact ⟨rfl, bel_on' (bel_on' hb hb2) hb3⟩
set_option maxHeartbeats 1000000 in
theorem i_SpecOf (t : ByteArray) (w : World) : Calls Try.prog 112 #[.string t] w fun e w' => e = .returned (.tuple #[.int .i64 ((if trOk t && conjB (dig t) then dig t 15 else 0 : Nat) : Int), .string (optS (trOk t && conjB (dig t)) (txt 4 (fun s => fLead (dig t) s 16))), .bool (trOk t && conjB (dig t))]) ∧ Below w.heap.size w w' := by
  cases hok : trOk t
  · rw [Bool.false_and]
    go_enter Try.func112, Try.ntmps112
    go_wp2_with fail
    refine (i_readTrans _ _).mono ?_
    rw [hok]
    rintro e w1 ⟨rfl, hb⟩
    go_wp2_with (refine wpList_store_new rfl 77 _ _ rfl (row 16 (trF t)) rfl rfl (by rw [row_size]; kernel_rfl) (by first | rfl | (rw [row_size, row_size]) | (simp [row_size]; done)) (row_one _ _) ?_)
    go_ret3
    exact ⟨rfl, bel_on' hb (bel_1 _ _)⟩
  rw [Bool.true_and]
  have k1 := trF_ok hok
  have K1 := Lib.hid k1; clear k1
  cases hc : conjB (dig t)
  · have HC := Lib.hid hc
    go_enter Try.func112, Try.ntmps112
    go_wp2_with fail
    refine (i_readTrans _ _).mono ?_
    rw [hok, K1.out]
    rintro e w1 ⟨rfl, hb⟩
    have r1 := RowAt.fresh w1 77 (row 16 (dig t))
    have hbb := bel_on' hb (bel_1 w1 (.cells (row 16 (dig t)) 77))
    go_wp2_with (first | (refine wpList_store_new rfl 77 _ _ rfl (row 16 (dig t)) rfl rfl (by rw [row_size]; kernel_rfl) (by first | rfl | (rw [row_size, row_size]) | (simp [row_size]; done)) (row_one _ _) ?_) | (refine wpList_load_rowG (by rfl) 77 _ rfl (w1.heap.size) rfl 77 (row 16 (dig t)) (0, 0) _ r1 Try.underlying77 rfl (by rw [row_size]; kernel_rfl) ?_))
    refine (i_conjunctive (dig t) _ (dig_bd t)).mono ?_
    rw [HC.out]
    rintro e w2 ⟨rfl, hb2⟩
    go_wp2_with fail
    go_ret3
    exact ⟨rfl, bel_on' hbb hb2⟩
  · have HC := Lib.hid hc
    have hl : ∀ s, s < 4 → fLead (dig t) s 16 < 16 := fun s _ => fLead_lt _ _ _
    have HL := Lib.hid hl; clear hl
    go_enter Try.func112, Try.ntmps112
    go_wp2_with fail
    refine (i_readTrans _ _).mono ?_
    rw [hok, K1.out]
    rintro e w1 ⟨rfl, hb⟩
    have r1 := RowAt.fresh w1 77 (row 16 (dig t))
    have hbb := bel_on' hb (bel_1 w1 (.cells (row 16 (dig t)) 77))
    go_wp2_with (first | (refine wpList_store_new rfl 77 _ _ rfl (row 16 (dig t)) rfl rfl (by rw [row_size]; kernel_rfl) (by first | rfl | (rw [row_size, row_size]) | (simp [row_size]; done)) (row_one _ _) ?_) | (refine wpList_load_rowG (by rfl) 77 _ rfl (w1.heap.size) rfl 77 (row 16 (dig t)) (0, 0) _ r1 Try.underlying77 rfl (by rw [row_size]; kernel_rfl) ?_))
    refine (i_conjunctive (dig t) _ (dig_bd t)).mono ?_
    rw [HC.out]
    rintro e w2 ⟨rfl, hb2⟩
    have s1 := (r1.later hb2).drew
    have hbc := (bel_on' hbb hb2).drew
    have c15 : w2.drew.cell? ⟨w1.heap.size, 15, none⟩ = some (.int .i64 (dig t 15 : Int)) := s1.cell 15 (by omega)
    clear hb hbb hb2 r1
    go_wp2_with fail
    refine wp_region_held_drew (S := fun w3 => RowAt w3 w1.heap.size 77 (row 16 (dig t)) ∧ Below w.heap.size w w3) (by kernel_rfl) (⟨s1, hbc⟩) (fun hS => ?_)
    simp only [List.size_toArray, List.length_cons, List.length_nil, Nat.zero_add, Nat.reduceAdd, Array.replicate_succ, Array.replicate_zero, List.push_toArray, List.append_toArray, List.nil_append, List.cons_append]
    refine wpAnyH_take (i := 0) (v := .pointer (some ⟨w1.heap.size, 15, none⟩)) rfl (by kernel_rfl) (by kernel_rfl) (by kernel_rfl) (fun _ _ _ h => h) (Or.inl ⟨by rfl, fun w2 h2 => by (first | rfl | go_simp)⟩) (by assumption) ?_
    simp only [Act.put, List.getElem_toArray, List.getElem_cons_zero, List.getElem_cons_succ, List.setIfInBounds_toArray, List.set_cons_zero, List.set_cons_succ]
    refine wpAnyH_take (i := 1) (v := .int .i64 (dig t 15 : Int)) rfl (by kernel_rfl) (by kernel_rfl) (by kernel_rfl) (fun _ _ _ h => h) (Or.inl ⟨by rfl, fun w6 h6 => by have c : w6.cell? ⟨w1.heap.size, 15, none⟩ = some (.int .i64 (dig t 15 : Int)) := h6.1.cell 15 (by omega); (first | rfl | go_simp)⟩) (by assumption) ?_
    simp only [Act.put, List.getElem_toArray, List.getElem_cons_zero, List.getElem_cons_succ, List.setIfInBounds_toArray, List.set_cons_zero, List.set_cons_succ]
    refine wpAnyH_take (i := 2) (v := .agg (row 16 (dig t))) rfl (by kernel_rfl) (by kernel_rfl) (by kernel_rfl) (fun _ _ _ h => h) (yieldsIf_load_row (by rfl) 77 _ rfl w1.heap.size rfl 77 (row 16 (dig t)) _ (fun _ h => h.1) Try.underlying77 rfl (by rw [row_size]; kernel_rfl)) (by assumption) ?_
    simp only [Act.put, List.getElem_toArray, List.getElem_cons_zero, List.getElem_cons_succ, List.setIfInBounds_toArray, List.set_cons_zero, List.set_cons_succ]
    refine wpAnyH_ready (rs := [3]) (by kernel_rfl) (by simp) ?_
    refine AllReadyH.cons rfl (fun K hK => ?_) AllReadyH.nil
    rw [if_pos (by rfl)]
    go_simp
    refine (i_leads (dig t) _ (dig_bd t)).mono ?_
    rintro e w4 ⟨rfl, hb4⟩
    refine hK.out _ _ ⟨hS.1.later hb4, bel_on' hS.2 hb4⟩ (fun hS => ?_)
    simp only [Act.put, List.getElem_toArray, List.getElem_cons_zero, List.getElem_cons_succ, List.setIfInBounds_toArray, List.set_cons_zero, List.set_cons_succ]
    refine wpAnyH_ready (rs := [4]) (by kernel_rfl) (by simp) ?_
    refine AllReadyH.cons rfl (fun K hK => ?_) AllReadyH.nil
    rw [if_pos (by rfl)]
    go_simp
    refine (i_relText _ _ HL.out).mono ?_
    rintro e w5 ⟨rfl, hb5⟩
    have hB5 := bel_on' hS.2 hb5
    refine hK.out _ _ ⟨hS.1.later hb5, hB5⟩ (fun hS => ?_)
    simp only [Act.put, List.getElem_toArray, List.getElem_cons_zero, List.getElem_cons_succ, List.setIfInBounds_toArray, List.set_cons_zero, List.set_cons_succ]
    refine wpAnyH_take (i := 5) (v := .int .i64 (dig t 15 : Int)) rfl (by kernel_rfl) (by kernel_rfl) (by kernel_rfl) (fun _ _ _ h => h) (Or.inl ⟨by rfl, fun w2 h2 => by (first | rfl | go_simp)⟩) (by assumption) ?_
    simp only [Act.put, List.getElem_toArray, List.getElem_cons_zero, List.getElem_cons_succ, List.setIfInBounds_toArray, List.set_cons_zero, List.set_cons_succ]
    refine wpAnyH_take (i := 6) (v := .string (txt 4 (fun s => fLead (dig t) s 16))) rfl (by kernel_rfl) (by kernel_rfl) (by kernel_rfl) (fun _ _ _ h => h) (Or.inl ⟨by rfl, fun w2 h2 => by (first | rfl | go_simp)⟩) (by assumption) ?_
    simp only [Act.put, List.getElem_toArray, List.getElem_cons_zero, List.getElem_cons_succ, List.setIfInBounds_toArray, List.set_cons_zero, List.set_cons_succ]
    refine wpAnyH_take (i := 7) (v := .bool true) rfl (by kernel_rfl) (by kernel_rfl) (by kernel_rfl) (fun _ _ _ h => h) (Or.inl ⟨by rfl, fun w2 h2 => by (first | rfl | go_simp)⟩) (by assumption) ?_
    simp only [Act.put, List.getElem_toArray, List.getElem_cons_zero, List.getElem_cons_succ, List.setIfInBounds_toArray, List.set_cons_zero, List.set_cons_succ]
    refine wpAnyH_done (by kernel_rfl) ?_ _
    go_wp2_with fail
    go_ret3
    exact ⟨rfl, hB5⟩
theorem i_WeakestSpec (c : ByteArray) (w : World) : Calls Try.prog 21 #[.string c] w fun e w' => e = .returned (.tuple #[.int .i64 ((if ctOk c && conjB (ctT c) then ctT c 15 else 0 : Nat) : Int), .string (optS (ctOk c && conjB (ctT c)) (txt 4 (fun s => fLead (ctT c) s 16))), .bool (ctOk c && conjB (ctT c))]) ∧ Below w.heap.size w w' := by
  cases h : ctOk c
  · rw [Bool.false_and]
    go_enter Try.func21, Try.ntmps21
    go_wp2_with fail
    refine (i_TransOfContract c _).mono ?_
    rw [h]
    rintro e w1 ⟨rfl, hb⟩
    go_wp2_with fail
    go_ret3
    exact ⟨rfl, hb⟩
  · have k3 : conjB (dig (txt 16 (ctT c))) = conjB (ctT c) := conjB_congr fun i hi => txt_dig 16 _ i hi (ctT_lt c i hi)
    have k4 : txt 4 (fun s => fLead (dig (txt 16 (ctT c))) s 16) = txt 4 (fun s => fLead (ctT c) s 16) := txt_congr fun s _ => fLead_congr s 16 fun i hi => txt_dig 16 _ i hi (ctT_lt c i hi)
    have k5 : dig (txt 16 (ctT c)) 15 = ctT c 15 := txt_dig 16 _ 15 (by omega) (ctT_lt c 15 (by omega))
    have k6 : trOk (txt 16 (ctT c)) = true := trOk_txt (ctT_bd c) (ctT_mono c)
    have hs := fun w => i_SpecOf (txt 16 (ctT c)) w
    rw [k3, k4, k5, k6] at hs
    clear k3 k4 k5 k6
    cases hc : conjB (ctT c)
    all_goals
      rw [hc] at hs
      have HS := Lib.hid hs
      clear hs
      go_enter Try.func21, Try.ntmps21
      go_wp2_with fail
      refine (i_TransOfContract c _).mono ?_
      rw [h]
      rw [show optS true (txt 16 (ctT c)) = txt 16 (ctT c) from rfl]
      rintro e w1 ⟨rfl, hb⟩
      go_wp2_with fail
      refine (HS.out _).mono ?_
      rintro e w2 ⟨rfl, hb2⟩
      go_wp2_with fail
      go_ret3
      exact ⟨rfl, bel_on' hb hb2⟩
set_option maxHeartbeats 1000000 in
theorem i_MeetsSpec (p : Int) (r c : ByteArray) (w : World) : Calls Try.prog 23 #[.int .i64 p, .string r, .string c] w fun e w' => e = .returned (.bool (((cvB p && relOk r) && ctOk c) && refB (fSpec p.toNat (dig r)) (ctT c) 16)) ∧ Below w.heap.size w w' := by
  cases hr : relOk r
  · have hz : (((cvB p && false) && ctOk c) && refB (fSpec p.toNat (dig r)) (ctT c) 16) = false := by simp
    rw [hz]
    clear hz
    cases hc : ctOk c
    · go_enter Try.func23, Try.ntmps23
      go_wp2_with fail
      refine (i_readRel _ _).mono ?_
      rw [hr]
      rintro e w1 ⟨rfl, hb⟩
      go_wp2_with (refine wpList_store_new rfl 68 _ _ rfl (row 4 (relF r)) rfl rfl (by rw [row_size]; kernel_rfl) (by first | rfl | (rw [row_size, row_size]) | (simp [row_size]; done)) (row_one _ _) ?_)
      refine (i_read_no c _ hc).mono ?_
      rintro e w2 ⟨rfl, hb2⟩
      go_wp2_with fail
      go_ret
      exact ⟨rfl, bel_on' (bel_on' hb (bel_1 _ _)) hb2⟩
    · go_enter Try.func23, Try.ntmps23
      go_wp2_with fail
      refine (i_readRel _ _).mono ?_
      rw [hr]
      rintro e w1 ⟨rfl, hb⟩
      go_wp2_with (refine wpList_store_new rfl 68 _ _ rfl (row 4 (relF r)) rfl rfl (by rw [row_size]; kernel_rfl) (by first | rfl | (rw [row_size, row_size]) | (simp [row_size]; done)) (row_one _ _) ?_)
      refine (i_read_yes c _ hc).mono ?_
      rintro e w2 ⟨b, rfl, hct, hb2⟩
      clear hct
      go_wp2_with fail
      go_ret
      exact ⟨rfl, bel_on' (bel_on' hb (bel_1 _ _)) hb2⟩
  have k1 := relF_ok hr
  have K1 := Lib.hid k1; clear k1
  cases hp : cvB p
  · have hz : (((false && true) && ctOk c) && refB (fSpec p.toNat (dig r)) (ctT c) 16) = false := by simp
    rw [hz]
    clear hz
    cases hc : ctOk c
    · go_enter Try.func23, Try.ntmps23
      go_wp2_with fail
      refine (i_readRel _ _).mono ?_
      rw [hr, K1.out]
      rintro e w1 ⟨rfl, hb⟩
      go_wp2_with (refine wpList_store_new rfl 68 _ _ rfl (row 4 (dig r)) rfl rfl (by rw [row_size]; kernel_rfl) (by first | rfl | (rw [row_size, row_size]) | (simp [row_size]; done)) (row_one _ _) ?_)
      refine (i_read_no c _ hc).mono ?_
      rintro e w2 ⟨rfl, hb2⟩
      go_wp2_with (go_at_call 56; refine (i_ConditionValid _ _).mono ?_; rw [hp]; rintro e w' ⟨rfl, rfl⟩)
      go_ret
      exact ⟨rfl, bel_on' (bel_on' hb (bel_1 _ _)) hb2⟩
    · go_enter Try.func23, Try.ntmps23
      go_wp2_with fail
      refine (i_readRel _ _).mono ?_
      rw [hr, K1.out]
      rintro e w1 ⟨rfl, hb⟩
      go_wp2_with (refine wpList_store_new rfl 68 _ _ rfl (row 4 (dig r)) rfl rfl (by rw [row_size]; kernel_rfl) (by first | rfl | (rw [row_size, row_size]) | (simp [row_size]; done)) (row_one _ _) ?_)
      refine (i_read_yes c _ hc).mono ?_
      rintro e w2 ⟨b, rfl, hct, hb2⟩
      clear hct
      go_wp2_with (go_at_call 56; refine (i_ConditionValid _ _).mono ?_; rw [hp]; rintro e w' ⟨rfl, rfl⟩)
      go_ret
      exact ⟨rfl, bel_on' (bel_on' hb (bel_1 _ _)) hb2⟩
  obtain ⟨n, hn, rfl⟩ := (cvB_iff p).1 hp
  cases hc : ctOk c
  · rw [Bool.and_false, Bool.false_and]
    go_enter Try.func23, Try.ntmps23
    go_wp2_with fail
    refine (i_readRel _ _).mono ?_
    rw [hr, K1.out]
    rintro e w1 ⟨rfl, hb⟩
    go_wp2_with (refine wpList_store_new rfl 68 _ _ rfl (row 4 (dig r)) rfl rfl (by rw [row_size]; kernel_rfl) (by first | rfl | (rw [row_size, row_size]) | (simp [row_size]; done)) (row_one _ _) ?_)
    refine (i_read_no c _ hc).mono ?_
    rintro e w2 ⟨rfl, hb2⟩
    go_wp2_with (go_at_call 56; refine (i_ConditionValid _ _).mono ?_; rw [hp]; rintro e w' ⟨rfl, rfl⟩)
    go_ret
    exact ⟨rfl, bel_on' (bel_on' hb (bel_1 _ _)) hb2⟩
  · have hbT : Bd (fSpec n (dig r)) := fun q _ => fSpec_lt hn q
    have HT := Lib.hid hbT; have HU := Lib.hid (ctT_bd c); clear hbT
    go_enter Try.func23, Try.ntmps23
    go_wp2_with fail
    refine (i_readRel _ _).mono ?_
    rw [hr, K1.out]
    rintro e w1 ⟨rfl, hb⟩
    have r1 := RowAt.fresh w1 68 (row 4 (dig r))
    have hbb := bel_on' hb (bel_1 w1 (.cells (row 4 (dig r)) 68))
    go_wp2_with (refine wpList_store_new rfl 68 _ _ rfl (row 4 (dig r)) rfl rfl (by rw [row_size]; kernel_rfl) (by first | rfl | (rw [row_size, row_size]) | (simp [row_size]; done)) (row_one _ _) ?_)
    refine (i_read_yes c _ hc).mono ?_
    rintro e w2 ⟨b, rfl, hct, hb2⟩
    have HCT : Hid (CtHeld c w2 b) := Lib.hid hct
    have r2 := r1.later hb2
    have hbc := bel_on' hbb hb2
    clear hct r1 hb hbb hb2
    go_wp2_with (first | (go_at_call 56; refine (i_ConditionValid _ _).mono ?_; rw [hp]; rintro e w' ⟨rfl, rfl⟩) | (refine wpList_load_rowG (by rfl) 68 _ rfl (w1.heap.size) rfl 68 (row 4 (dig r)) (0, 0) _ r2 Try.underlying68 rfl (by rw [row_size]; kernel_rfl) ?_))
    refine (i_spec n (dig r) _ hn (dig_lt r)).mono ?_
    rintro e w3 ⟨rfl, hb3⟩
    go_wp2_with fail
    refine (HCT.out _ hb3).mono ?_
    rintro e w4 ⟨rfl, hb4⟩
    go_wp2_with fail
    refine (i_refined _ _ _ HT.out HU.out).mono ?_
    rintro e w5 ⟨rfl, hb5⟩
    go_wp2_with fail
    go_ret
    exact ⟨rfl, bel_on' (bel_on' (bel_on' hbc hb3) hb4) hb5⟩
end Go.Proofs.Ytiaeakpgldpaiaa
