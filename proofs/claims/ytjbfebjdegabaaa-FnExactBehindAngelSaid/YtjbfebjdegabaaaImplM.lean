/- The program's residuals behind relations, and the sequence of two specifications. -/
import Derived.Test.YtjbfebjdegabaaaImplL
namespace Go.Proofs.Ytjbfebjdegabaaa
set_option linter.unusedSimpArgs false
set_option linter.unusedVariables false
set_option maxRecDepth 4000
open Go.RowKit

/-- A function value that makes a table of a relation and a table. -/
def RtIs (P : Program) (fv : Value) (w : World) (R T G : Nat → Nat) : Prop :=
  ∃ g lb, fv = .func (.func g) #[] lb ∧ (∀ args w, (callFunc g args).run P w = .ok (.enter g args) w) ∧
    ∀ (W : World), Below w.heap.size w W → Calls P g (#[.agg (row 4 R), .agg (row 16 T)] ++ lb) W fun e W' => e = .returned (.agg (row 16 G)) ∧ Below W.heap.size W W'

theorem fn_behind1 (w : World) (A B : Nat) (fv : Value) (R T G : Nat → Nat) (hf : RtIs Try.prog fv w R T G) (h0 : RowAt w A 72 #[fv]) (h1 : RowAt w B 53 (row 4 R)) : TrIs Try.prog (.func (.func 125) #[] #[.pointer (some ⟨A, 0, none⟩), .pointer (some ⟨B, 0, none⟩)]) w T G :=
  ⟨125, _, rfl, enters_of Try.func125 (by kernel_rfl) rfl, fun W hb => by
    obtain ⟨g, lb, rfl, hent, hcall⟩ := hf
    have HC := Lib.hid hcall; clear hcall
    have c0 : ∀ ob, ((W.alloc (.cells (row 16 T) 68)).alloc ob).cell? ⟨A, 0, none⟩ = some (.func (.func g) #[] lb) := fun ob => (((h0.later hb).alloc (.cells (row 16 T) 68)).alloc ob).get 0
    have r0 := ((h1.later hb).alloc (.cells (row 16 T) 68)).alloc (.cells (row 16 (fun _ => 0)) 68)
    have r1 := (RowAt.fresh W 68 (row 16 T)).alloc (.cells (row 16 (fun _ => 0)) 68)
    have r2 := RowAt.fresh1 W (.cells (row 16 T) 68) 68 (row 16 (fun _ => 0))
    have hb2 := bel_2 W (.cells (row 16 T) 68) (.cells (row 16 (fun _ => 0)) 68)
    have hbb := bel_on' hb hb2
    show Calls Try.prog 125 #[.agg (row 16 T), .pointer (some ⟨A, 0, none⟩), .pointer (some ⟨B, 0, none⟩)] W _
    clear h0 h1 hb
    go_enter Try.func125, Try.ntmps125
    go_wp2_with (first | (refine wpList_load_row rfl 68 _ rfl (W.heap.size) rfl 68 (row 16 T) (0, 0) _ r1 Try.underlying68 rfl (by rw [row_size]; kernel_rfl) ?_) | (refine wpList_load_row rfl 53 _ rfl (B) rfl 53 (row 4 R) (0, 0) _ r0 Try.underlying53 rfl (by rw [row_size]; kernel_rfl) ?_))
    refine (HC.out _ hbb).mono ?_
    rintro e w1 ⟨rfl, hb⟩
    have hr := r2.later hb
    go_wp2_with (refine wpList_store_row rfl 68 _ _ rfl (W.heap.size + 1) (row 16 G) rfl rfl 68 _ hr (by rw [row_size]; kernel_rfl) (by first | rfl | (rw [row_size, row_size]) | (simp [row_size]; done)) (row_one _ _) ?_)
    refine bodyPost_ret (results_cell_row rfl _ _ (W.heap.size + 1) 68 _ (0, 0) _ rfl (hr.put _) Try.underlying68 rfl (by rw [row_size]; kernel_rfl)) rfl ⟨rfl, ?_⟩
    exact bel_setRow (bel_on hb2 hb (by simp; omega)) (by omega) _⟩
set_option maxHeartbeats 1000000 in
theorem i_behind (r u : ByteArray) (fv : Value) (G : Nat → Nat) (w : World) (hG : ∀ i, i < 16 → G i < 16) (hv : ∃ g lb, fv = .func (.func g) #[] lb) (hf : ∀ W, relOk r = true → trOk u = true → RtIs Try.prog fv W (dig r) (dig u) G) : Calls Try.prog 71 #[.string r, .string u, fv] w fun e w' => e = .returned (.tuple #[.string (optS (relOk r && trOk u) (txt 16 G)), .bool (relOk r && trOk u)]) ∧ Below w.heap.size w w' := by
  have r0 := RowAt.fresh w 72 #[fv]
  have hb0 := bel_1 w (.cells #[fv] 72)
  cases h1 : relOk r
  · obtain ⟨g, lb, rfl⟩ := hv
    go_enter Try.func71, Try.ntmps71
    go_wp2_with fail
    refine (i_readRel _ _).mono ?_
    rw [h1]
    rintro e w1 ⟨rfl, hb⟩
    go_wp2_with (refine wpList_store_new rfl 53 _ _ rfl (row 4 (relF r)) rfl rfl (by rw [row_size]; kernel_rfl) (by first | rfl | (rw [row_size, row_size]) | (simp [row_size]; done)) (row_one _ _) ?_)
    go_ret2
    exact ⟨rfl, bel_on' (bel_on' hb0 hb) (bel_1 _ _)⟩
  · have k1 := relF_ok h1
    have K1 := Lib.hid k1; clear k1
    have HF := Lib.hid hf; have HG := Lib.hid hG; clear hf hG
    have hv' := Lib.hid hv
    obtain ⟨g, lb, rfl⟩ := hv
    go_enter Try.func71, Try.ntmps71
    go_wp2_with fail
    refine (i_readRel _ _).mono ?_
    rw [h1, K1.out]
    rintro e w1 ⟨rfl, hb⟩
    go_wp2_with (refine wpList_store_new rfl 53 _ _ rfl (row 4 (dig r)) rfl rfl (by rw [row_size]; kernel_rfl) (by first | rfl | (rw [row_size, row_size]) | (simp [row_size]; done)) (row_one _ _) ?_)
    refine (i_alone u _ G _ HG.out ⟨_, _, rfl⟩ (fun W h2 hW => fn_behind1 W w.heap.size w1.heap.size _ (dig r) (dig u) G (HF.out W h1 h2) (((r0.later hb).alloc _).later hW) ((RowAt.fresh w1 53 (row 4 (dig r))).later hW))).mono ?_
    rintro e w2 ⟨rfl, hb2⟩
    go_wp2_with fail
    go_ret2
    exact ⟨rfl, bel_on' (bel_on' (bel_on' hb0 hb) (bel_1 _ _)) hb2⟩
set_option maxHeartbeats 1000000 in
theorem fn_BehindDemon (R T : Nat → Nat) (W : World) (hR : ∀ k, R k < 16) (hT : Bd T) : Calls Try.prog 72 #[.agg (row 4 R), .agg (row 16 T)] W fun e W' => e = .returned (.agg (row 16 (fun p => fDia (fTurn R) (T p) 4))) ∧ Below W.heap.size W W' := by
  have h1 := (((RowAt.fresh W 53 (row 4 R)).alloc (.cells (row 16 T) 68)).alloc (.cells (row 16 (fun _ => 0)) 68)).drew
  have h2 := ((RowAt.fresh1 W (.cells (row 4 R) 53) 68 (row 16 T)).alloc (.cells (row 16 (fun _ => 0)) 68)).drew
  have h3 := (RowAt.fresh2 W (.cells (row 4 R) 53) (.cells (row 16 T) 68) 68 (row 16 (fun _ => 0))).drew
  have hbb := (bel_3 W (.cells (row 4 R) 53) (.cells (row 16 T) 68) (.cells (row 16 (fun _ => 0)) 68)).drew
  go_enter Try.func72, Try.ntmps72
  go_wp2_with fail
  refine wp_region_held_drew (S := fun w3 => RowAt w3 W.heap.size 53 (row 4 R) ∧ RowAt w3 (W.heap.size + 1) 68 (row 16 T) ∧ (∃ X, RowAt w3 (W.heap.size + 1 + 1) 68 (row 16 X)) ∧ Below W.heap.size W w3) (by kernel_rfl) (⟨h1, h2, ⟨_, h3⟩, hbb⟩) (fun hS => ?_)
  simp only [List.size_toArray, List.length_cons, List.length_nil, Nat.zero_add, Nat.reduceAdd, Array.replicate_succ, Array.replicate_zero, List.push_toArray, List.append_toArray, List.nil_append, List.cons_append]
  refine wpAnyH_take (i := 0) (v := .agg (row 4 R)) rfl (by kernel_rfl) (by kernel_rfl) (by kernel_rfl) (fun _ _ _ h => h) (yieldsIf_load_row (by rfl) 53 _ rfl W.heap.size rfl 53 (row 4 R) _ (fun _ h => h.1) Try.underlying53 rfl (by rw [row_size]; kernel_rfl)) (by assumption) ?_
  simp only [Act.put, List.getElem_toArray, List.getElem_cons_zero, List.getElem_cons_succ, List.setIfInBounds_toArray, List.set_cons_zero, List.set_cons_succ]
  refine wpAnyH_take (i := 3) (v := .agg (row 16 T)) rfl (by kernel_rfl) (by kernel_rfl) (by kernel_rfl) (fun _ _ _ h => h) (yieldsIf_load_row (by rfl) 68 _ rfl (W.heap.size + 1) rfl 68 (row 16 T) _ (fun _ h => h.2.1) Try.underlying68 rfl (by rw [row_size]; kernel_rfl)) (by assumption) ?_
  simp only [Act.put, List.getElem_toArray, List.getElem_cons_zero, List.getElem_cons_succ, List.setIfInBounds_toArray, List.set_cons_zero, List.set_cons_succ]
  refine wpAnyH_ready (rs := [1]) (by kernel_rfl) (by simp) ?_
  refine AllReadyH.cons rfl (fun K hK => ?_) AllReadyH.nil
  rw [if_pos (by rfl)]
  go_simp
  refine (i_turned R _ hR).mono ?_
  rintro e w3 ⟨rfl, hb3⟩
  refine hK.out _ _ ⟨hS.1.later hb3, hS.2.1.later hb3, hS.2.2.1.elim (fun X h => ⟨X, h.later hb3⟩), bel_on hS.2.2.2 hb3 hS.2.2.2.size⟩ (fun hS => ?_)
  simp only [Act.put, List.getElem_toArray, List.getElem_cons_zero, List.getElem_cons_succ, List.setIfInBounds_toArray, List.set_cons_zero, List.set_cons_succ]
  refine wpAnyH_ready (rs := [2]) (by kernel_rfl) (by simp) ?_
  refine AllReadyH.cons rfl (fun K hK => ?_) AllReadyH.nil
  rw [if_pos (by rfl)]
  go_simp
  refine (i_angel (fTurn R) _ (fTurn_lt R)).mono ?_
  rintro e w4 ⟨rfl, hb4⟩
  refine hK.out _ _ ⟨hS.1.later hb4, hS.2.1.later hb4, hS.2.2.1.elim (fun X h => ⟨X, h.later hb4⟩), bel_on hS.2.2.2 hb4 hS.2.2.2.size⟩ (fun hS => ?_)
  simp only [Act.put, List.getElem_toArray, List.getElem_cons_zero, List.getElem_cons_succ, List.setIfInBounds_toArray, List.set_cons_zero, List.set_cons_succ]
  refine wpAnyH_ready (rs := [4]) (by kernel_rfl) (by simp) ?_
  refine AllReadyH.cons rfl (fun K hK => ?_) AllReadyH.nil
  rw [if_pos (by rfl)]
  go_simp
  refine (i_then _ T _ hT).mono ?_
  rintro e w5 ⟨rfl, hb5⟩
  refine hK.out _ _ ⟨hS.1.later hb5, hS.2.1.later hb5, hS.2.2.1.elim (fun X h => ⟨X, h.later hb5⟩), bel_on hS.2.2.2 hb5 hS.2.2.2.size⟩ (fun hS => ?_)
  simp only [Act.put, List.getElem_toArray, List.getElem_cons_zero, List.getElem_cons_succ, List.setIfInBounds_toArray, List.set_cons_zero, List.set_cons_succ]
  refine wpAnyH_ready (rs := [5]) (by kernel_rfl) (by simp) ?_
  refine AllReadyH.cons rfl (fun K hK => ?_) AllReadyH.nil
  rw [if_pos (by rfl)]
  obtain ⟨X, hX⟩ := hS.2.2.1
  refine wp_store_row 68 _ _ rfl (W.heap.size + 1 + 1) (row 16 (fun p => fDia (fTurn R) (T p) 4)) rfl rfl 68 _ hX (by rw [row_size]; kernel_rfl) (by rw [row_size, row_size]) (row_one _ _) ?_
  have hr := hX.put (row 16 (fun p => fDia (fTurn R) (T p) 4))
  have hB := bel_setRow hS.2.2.2 (show W.heap.size ≤ W.heap.size + 1 + 1 by omega) (row 16 (fun p => fDia (fTurn R) (T p) 4))
  refine hK.out _ _ ⟨hS.1.putOther _ (by omega), hS.2.1.putOther _ (by omega), ⟨_, hr⟩, hB⟩ (fun hS => ?_)
  simp only [Act.put, List.getElem_toArray, List.getElem_cons_zero, List.getElem_cons_succ, List.setIfInBounds_toArray, List.set_cons_zero, List.set_cons_succ]
  refine wpAnyH_done (by kernel_rfl) ?_ _
  go_wp2_with fail
  exact bodyPost_ret (results_cell_row rfl _ _ (W.heap.size + 1 + 1) 68 _ (0, 0) _ rfl hr Try.underlying68 rfl (by rw [row_size]; kernel_rfl)) rfl ⟨rfl, hB⟩
theorem i_BehindDemon (r u : ByteArray) (w : World) : Calls Try.prog 23 #[.string r, .string u] w fun e w' => e = .returned (.tuple #[.string (optS (relOk r && trOk u) (txt 16 (fun p => fDia (fTurn (dig r)) (dig u p) 4))), .bool (relOk r && trOk u)]) ∧ Below w.heap.size w w' := by
  have h := i_behind r u (.func (.func 72) #[] #[]) (fun p => fDia (fTurn (dig r)) (dig u p) 4) w (fun i _ => fDia_lt _ _) ⟨_, _, rfl⟩ (fun W _ _ => ⟨72, _, rfl, enters_of Try.func72 (by kernel_rfl) rfl, fun W' _ => fn_BehindDemon (dig r) (dig u) W' (dig_lt r) (dig_bd u)⟩)
  have H := Lib.hid h; clear h
  go_enter Try.func23, Try.ntmps23
  go_wp2_with fail
  refine H.out.mono ?_
  rintro e w1 ⟨rfl, hb⟩
  go_wp2_with fail
  go_ret2
  exact ⟨rfl, hb⟩
set_option maxHeartbeats 1000000 in
theorem fn_BehindAngel (R T : Nat → Nat) (W : World) (hR : ∀ k, R k < 16) (hT : Bd T) : Calls Try.prog 77 #[.agg (row 4 R), .agg (row 16 T)] W fun e W' => e = .returned (.agg (row 16 (fun p => fBox (fTurn R) (T p)))) ∧ Below W.heap.size W W' := by
  have h1 := (((RowAt.fresh W 53 (row 4 R)).alloc (.cells (row 16 T) 68)).alloc (.cells (row 16 (fun _ => 0)) 68)).drew
  have h2 := ((RowAt.fresh1 W (.cells (row 4 R) 53) 68 (row 16 T)).alloc (.cells (row 16 (fun _ => 0)) 68)).drew
  have h3 := (RowAt.fresh2 W (.cells (row 4 R) 53) (.cells (row 16 T) 68) 68 (row 16 (fun _ => 0))).drew
  have hbb := (bel_3 W (.cells (row 4 R) 53) (.cells (row 16 T) 68) (.cells (row 16 (fun _ => 0)) 68)).drew
  go_enter Try.func77, Try.ntmps77
  go_wp2_with fail
  refine wp_region_held_drew (S := fun w3 => RowAt w3 W.heap.size 53 (row 4 R) ∧ RowAt w3 (W.heap.size + 1) 68 (row 16 T) ∧ (∃ X, RowAt w3 (W.heap.size + 1 + 1) 68 (row 16 X)) ∧ Below W.heap.size W w3) (by kernel_rfl) (⟨h1, h2, ⟨_, h3⟩, hbb⟩) (fun hS => ?_)
  simp only [List.size_toArray, List.length_cons, List.length_nil, Nat.zero_add, Nat.reduceAdd, Array.replicate_succ, Array.replicate_zero, List.push_toArray, List.append_toArray, List.nil_append, List.cons_append]
  refine wpAnyH_take (i := 0) (v := .agg (row 4 R)) rfl (by kernel_rfl) (by kernel_rfl) (by kernel_rfl) (fun _ _ _ h => h) (yieldsIf_load_row (by rfl) 53 _ rfl W.heap.size rfl 53 (row 4 R) _ (fun _ h => h.1) Try.underlying53 rfl (by rw [row_size]; kernel_rfl)) (by assumption) ?_
  simp only [Act.put, List.getElem_toArray, List.getElem_cons_zero, List.getElem_cons_succ, List.setIfInBounds_toArray, List.set_cons_zero, List.set_cons_succ]
  refine wpAnyH_take (i := 3) (v := .agg (row 16 T)) rfl (by kernel_rfl) (by kernel_rfl) (by kernel_rfl) (fun _ _ _ h => h) (yieldsIf_load_row (by rfl) 68 _ rfl (W.heap.size + 1) rfl 68 (row 16 T) _ (fun _ h => h.2.1) Try.underlying68 rfl (by rw [row_size]; kernel_rfl)) (by assumption) ?_
  simp only [Act.put, List.getElem_toArray, List.getElem_cons_zero, List.getElem_cons_succ, List.setIfInBounds_toArray, List.set_cons_zero, List.set_cons_succ]
  refine wpAnyH_ready (rs := [1]) (by kernel_rfl) (by simp) ?_
  refine AllReadyH.cons rfl (fun K hK => ?_) AllReadyH.nil
  rw [if_pos (by rfl)]
  go_simp
  refine (i_turned R _ hR).mono ?_
  rintro e w3 ⟨rfl, hb3⟩
  refine hK.out _ _ ⟨hS.1.later hb3, hS.2.1.later hb3, hS.2.2.1.elim (fun X h => ⟨X, h.later hb3⟩), bel_on hS.2.2.2 hb3 hS.2.2.2.size⟩ (fun hS => ?_)
  simp only [Act.put, List.getElem_toArray, List.getElem_cons_zero, List.getElem_cons_succ, List.setIfInBounds_toArray, List.set_cons_zero, List.set_cons_succ]
  refine wpAnyH_ready (rs := [2]) (by kernel_rfl) (by simp) ?_
  refine AllReadyH.cons rfl (fun K hK => ?_) AllReadyH.nil
  rw [if_pos (by rfl)]
  go_simp
  refine (i_demon (fTurn R) _ (fTurn_lt R)).mono ?_
  rintro e w4 ⟨rfl, hb4⟩
  refine hK.out _ _ ⟨hS.1.later hb4, hS.2.1.later hb4, hS.2.2.1.elim (fun X h => ⟨X, h.later hb4⟩), bel_on hS.2.2.2 hb4 hS.2.2.2.size⟩ (fun hS => ?_)
  simp only [Act.put, List.getElem_toArray, List.getElem_cons_zero, List.getElem_cons_succ, List.setIfInBounds_toArray, List.set_cons_zero, List.set_cons_succ]
  refine wpAnyH_ready (rs := [4]) (by kernel_rfl) (by simp) ?_
  refine AllReadyH.cons rfl (fun K hK => ?_) AllReadyH.nil
  rw [if_pos (by rfl)]
  go_simp
  refine (i_then _ T _ hT).mono ?_
  rintro e w5 ⟨rfl, hb5⟩
  refine hK.out _ _ ⟨hS.1.later hb5, hS.2.1.later hb5, hS.2.2.1.elim (fun X h => ⟨X, h.later hb5⟩), bel_on hS.2.2.2 hb5 hS.2.2.2.size⟩ (fun hS => ?_)
  simp only [Act.put, List.getElem_toArray, List.getElem_cons_zero, List.getElem_cons_succ, List.setIfInBounds_toArray, List.set_cons_zero, List.set_cons_succ]
  refine wpAnyH_ready (rs := [5]) (by kernel_rfl) (by simp) ?_
  refine AllReadyH.cons rfl (fun K hK => ?_) AllReadyH.nil
  rw [if_pos (by rfl)]
  obtain ⟨X, hX⟩ := hS.2.2.1
  refine wp_store_row 68 _ _ rfl (W.heap.size + 1 + 1) (row 16 (fun p => fBox (fTurn R) (T p))) rfl rfl 68 _ hX (by rw [row_size]; kernel_rfl) (by rw [row_size, row_size]) (row_one _ _) ?_
  have hr := hX.put (row 16 (fun p => fBox (fTurn R) (T p)))
  have hB := bel_setRow hS.2.2.2 (show W.heap.size ≤ W.heap.size + 1 + 1 by omega) (row 16 (fun p => fBox (fTurn R) (T p)))
  refine hK.out _ _ ⟨hS.1.putOther _ (by omega), hS.2.1.putOther _ (by omega), ⟨_, hr⟩, hB⟩ (fun hS => ?_)
  simp only [Act.put, List.getElem_toArray, List.getElem_cons_zero, List.getElem_cons_succ, List.setIfInBounds_toArray, List.set_cons_zero, List.set_cons_succ]
  refine wpAnyH_done (by kernel_rfl) ?_ _
  go_wp2_with fail
  exact bodyPost_ret (results_cell_row rfl _ _ (W.heap.size + 1 + 1) 68 _ (0, 0) _ rfl hr Try.underlying68 rfl (by rw [row_size]; kernel_rfl)) rfl ⟨rfl, hB⟩
theorem i_BehindAngel (r u : ByteArray) (w : World) : Calls Try.prog 25 #[.string r, .string u] w fun e w' => e = .returned (.tuple #[.string (optS (relOk r && trOk u) (txt 16 (fun p => fBox (fTurn (dig r)) (dig u p)))), .bool (relOk r && trOk u)]) ∧ Below w.heap.size w w' := by
  have h := i_behind r u (.func (.func 77) #[] #[]) (fun p => fBox (fTurn (dig r)) (dig u p)) w (fun i _ => fBox_lt _ _) ⟨_, _, rfl⟩ (fun W _ _ => ⟨77, _, rfl, enters_of Try.func77 (by kernel_rfl) rfl, fun W' _ => fn_BehindAngel (dig r) (dig u) W' (dig_lt r) (dig_bd u)⟩)
  have H := Lib.hid h; clear h
  go_enter Try.func25, Try.ntmps25
  go_wp2_with fail
  refine H.out.mono ?_
  rintro e w1 ⟨rfl, hb⟩
  go_wp2_with fail
  go_ret2
  exact ⟨rfl, hb⟩
end Go.Proofs.Ytjbfebjdegabaaa
