/- The program's transformers of contracts: the walk by the contract's tree. -/
import Derived.Test.YtjbfebjdegabaaaImplT
import Derived.Test.YtjbfebjdegabaaaSpecL
namespace Go.Proofs.Ytjbfebjdegabaaa
set_option linter.unusedSimpArgs false
set_option linter.unusedVariables false
set_option maxRecDepth 4000
open Go.RowKit

theorem row4_eq (F : Nat → Nat) : row 4 F = #[.int .i64 (F 0 : Int), .int .i64 (F 1 : Int), .int .i64 (F 2 : Int), .int .i64 (F 3 : Int)] := rfl
set_option maxHeartbeats 2000000 in
theorem i_ctLeaf (op : UInt8) (F : Nat → Nat) (b : Nat) (w : World) (S : Nat → Prop) (hct : CtIn w S (.leaf op F) b) (hwf : (Ct.leaf op F).wf) : Calls Try.prog 101 #[.pointer (some ⟨b, 0, none⟩)] w fun e w' => e = .returned (.agg (row 16 (Ct.leaf op F).tr)) ∧ Below w.heap.size w w' := by
  obtain ⟨_, v, tx, hrow⟩ := hct
  obtain ⟨n, hl, hF, _⟩ := hwf
  rcases letters op with (h | h | h) | (h | h) | (h | h) | (h | h | h) | h | h | (h | h) | h
  case inr.inr.inr.inr.inr.inr.inr => rw [noLetter_leaf h] at hl; cases hl
  case inl.inl =>
    clear hl hF
    subst h
    have hfin : row 16 (fun q => 15 &&& q) = row 16 (Ct.leaf 115 F).tr := row_congr fun q _ => (tr_s F q).symm
    have HFIN := Lib.hid hfin; clear hfin
    have hrow2 := fun (o o' : Obj) => (hrow.alloc o).alloc o'
    have cp : ∀ ob, ((w.alloc (.cells #[.pointer (some ⟨b, 0, none⟩)] 81)).alloc ob).cell? ⟨w.heap.size, 0, none⟩ = some (.pointer (some ⟨b, 0, none⟩)) := fun ob => ((RowAt.fresh w 81 #[.pointer (some ⟨b, 0, none⟩)]).alloc ob).get 0
    have r2 := RowAt.fresh1 w (.cells #[.pointer (some ⟨b, 0, none⟩)] 81) 68 (row 16 (fun _ => 0))
    have c0 : ∀ ob, ((w.alloc (.cells #[.pointer (some ⟨b, 0, none⟩)] 81)).alloc ob).cell? ⟨b, 0, none⟩ = some (.int .u8 115) := fun ob => (hrow2 _ ob).get 0
    clear hrow2 hrow
    go_enter Try.func101, Try.ntmps101
    go_wp2_with fail
    refine (i_assert 15 _ (by omega)).mono ?_
    rw [HFIN.out]
    rintro e w1 ⟨rfl, hb⟩
    have hr := r2.later hb
    go_wp2_with (refine wpList_store_row rfl 68 _ _ rfl (w.heap.size + 1) (row 16 (Ct.leaf 115 F).tr) rfl rfl 68 _ hr (by rw [row_size]; kernel_rfl) (by first | rfl | (rw [row_size, row_size]) | (simp [row_size]; done)) (row_one _ _) ?_)
    exact bodyPost_ret (results_cell_row rfl _ _ (w.heap.size + 1) 68 _ (0, 0) _ rfl (hr.put _) Try.underlying68 rfl (by rw [row_size]; kernel_rfl)) rfl ⟨rfl, bel_setRow (bel_on (bel_2 w _ _) hb (by simp; omega)) (by omega) _⟩
  case inl.inr.inl =>
    clear hl hF
    subst h
    have hfin : row 16 (fun q => 0 &&& q) = row 16 (Ct.leaf 97 F).tr := row_congr fun q _ => (tr_a F q).symm
    have HFIN := Lib.hid hfin; clear hfin
    have hrow2 := fun (o o' : Obj) => (hrow.alloc o).alloc o'
    have cp : ∀ ob, ((w.alloc (.cells #[.pointer (some ⟨b, 0, none⟩)] 81)).alloc ob).cell? ⟨w.heap.size, 0, none⟩ = some (.pointer (some ⟨b, 0, none⟩)) := fun ob => ((RowAt.fresh w 81 #[.pointer (some ⟨b, 0, none⟩)]).alloc ob).get 0
    have r2 := RowAt.fresh1 w (.cells #[.pointer (some ⟨b, 0, none⟩)] 81) 68 (row 16 (fun _ => 0))
    have c0 : ∀ ob, ((w.alloc (.cells #[.pointer (some ⟨b, 0, none⟩)] 81)).alloc ob).cell? ⟨b, 0, none⟩ = some (.int .u8 97) := fun ob => (hrow2 _ ob).get 0
    clear hrow2 hrow
    go_enter Try.func101, Try.ntmps101
    go_wp2_with fail
    refine (i_assert 0 _ (by omega)).mono ?_
    rw [HFIN.out]
    rintro e w1 ⟨rfl, hb⟩
    have hr := r2.later hb
    go_wp2_with (refine wpList_store_row rfl 68 _ _ rfl (w.heap.size + 1) (row 16 (Ct.leaf 97 F).tr) rfl rfl 68 _ hr (by rw [row_size]; kernel_rfl) (by first | rfl | (rw [row_size, row_size]) | (simp [row_size]; done)) (row_one _ _) ?_)
    exact bodyPost_ret (results_cell_row rfl _ _ (w.heap.size + 1) 68 _ (0, 0) _ rfl (hr.put _) Try.underlying68 rfl (by rw [row_size]; kernel_rfl)) rfl ⟨rfl, bel_setRow (bel_on (bel_2 w _ _) hb (by simp; omega)) (by omega) _⟩
  case inl.inr.inr =>
    clear hl hF
    subst h
    have hfin : row 16 (fun q => q ||| andn 15 0) = row 16 (Ct.leaf 109 F).tr := row_congr fun q _ => (tr_m F q).symm
    have HFIN := Lib.hid hfin; clear hfin
    have hrow2 := fun (o o' : Obj) => (hrow.alloc o).alloc o'
    have cp : ∀ ob, ((w.alloc (.cells #[.pointer (some ⟨b, 0, none⟩)] 81)).alloc ob).cell? ⟨w.heap.size, 0, none⟩ = some (.pointer (some ⟨b, 0, none⟩)) := fun ob => ((RowAt.fresh w 81 #[.pointer (some ⟨b, 0, none⟩)]).alloc ob).get 0
    have r2 := RowAt.fresh1 w (.cells #[.pointer (some ⟨b, 0, none⟩)] 81) 68 (row 16 (fun _ => 0))
    have c0 : ∀ ob, ((w.alloc (.cells #[.pointer (some ⟨b, 0, none⟩)] 81)).alloc ob).cell? ⟨b, 0, none⟩ = some (.int .u8 109) := fun ob => (hrow2 _ ob).get 0
    clear hrow2 hrow
    go_enter Try.func101, Try.ntmps101
    go_wp2_with fail
    refine (i_assume 0 _ (by omega)).mono ?_
    rw [HFIN.out]
    rintro e w1 ⟨rfl, hb⟩
    have hr := r2.later hb
    go_wp2_with (refine wpList_store_row rfl 68 _ _ rfl (w.heap.size + 1) (row 16 (Ct.leaf 109 F).tr) rfl rfl 68 _ hr (by rw [row_size]; kernel_rfl) (by first | rfl | (rw [row_size, row_size]) | (simp [row_size]; done)) (row_one _ _) ?_)
    exact bodyPost_ret (results_cell_row rfl _ _ (w.heap.size + 1) 68 _ (0, 0) _ rfl (hr.put _) Try.underlying68 rfl (by rw [row_size]; kernel_rfl)) rfl ⟨rfl, bel_setRow (bel_on (bel_2 w _ _) hb (by simp; omega)) (by omega) _⟩
  case inr.inl.inl =>
    subst h
    have hfin : row 16 (fun q => F 0 &&& q) = row 16 (Ct.leaf 33 F).tr := row_congr fun q _ => (tr_as F q).symm
    have HFIN := Lib.hid hfin; have HF := Lib.hid hF; clear hfin hF hl
    have hrow2 := fun (o o' : Obj) => (hrow.alloc o).alloc o'
    have cp : ∀ ob, ((w.alloc (.cells #[.pointer (some ⟨b, 0, none⟩)] 81)).alloc ob).cell? ⟨w.heap.size, 0, none⟩ = some (.pointer (some ⟨b, 0, none⟩)) := fun ob => ((RowAt.fresh w 81 #[.pointer (some ⟨b, 0, none⟩)]).alloc ob).get 0
    have r2 := RowAt.fresh1 w (.cells #[.pointer (some ⟨b, 0, none⟩)] 81) 68 (row 16 (fun _ => 0))
    have c0 : ∀ ob, ((w.alloc (.cells #[.pointer (some ⟨b, 0, none⟩)] 81)).alloc ob).cell? ⟨b, 0, none⟩ = some (.int .u8 33) := fun ob => (hrow2 _ ob).get 0
    have c1 : ∀ ob, ((w.alloc (.cells #[.pointer (some ⟨b, 0, none⟩)] 81)).alloc ob).cell? ⟨b, 1, none⟩ = some (.int .i64 (F 0 : Int)) := fun ob => (hrow2 _ ob).get 1
    clear hrow2 hrow
    go_enter Try.func101, Try.ntmps101
    go_wp2_with fail
    refine (i_assert (F 0) _ (HF.out 0)).mono ?_
    rw [HFIN.out]
    rintro e w1 ⟨rfl, hb⟩
    have hr := r2.later hb
    go_wp2_with (refine wpList_store_row rfl 68 _ _ rfl (w.heap.size + 1) (row 16 (Ct.leaf 33 F).tr) rfl rfl 68 _ hr (by rw [row_size]; kernel_rfl) (by first | rfl | (rw [row_size, row_size]) | (simp [row_size]; done)) (row_one _ _) ?_)
    exact bodyPost_ret (results_cell_row rfl _ _ (w.heap.size + 1) 68 _ (0, 0) _ rfl (hr.put _) Try.underlying68 rfl (by rw [row_size]; kernel_rfl)) rfl ⟨rfl, bel_setRow (bel_on (bel_2 w _ _) hb (by simp; omega)) (by omega) _⟩
  case inr.inl.inr =>
    subst h
    have hfin : row 16 (fun q => q ||| andn 15 (F 0)) = row 16 (Ct.leaf 63 F).tr := row_congr fun q _ => (tr_au F q).symm
    have HFIN := Lib.hid hfin; have HF := Lib.hid hF; clear hfin hF hl
    have hrow2 := fun (o o' : Obj) => (hrow.alloc o).alloc o'
    have cp : ∀ ob, ((w.alloc (.cells #[.pointer (some ⟨b, 0, none⟩)] 81)).alloc ob).cell? ⟨w.heap.size, 0, none⟩ = some (.pointer (some ⟨b, 0, none⟩)) := fun ob => ((RowAt.fresh w 81 #[.pointer (some ⟨b, 0, none⟩)]).alloc ob).get 0
    have r2 := RowAt.fresh1 w (.cells #[.pointer (some ⟨b, 0, none⟩)] 81) 68 (row 16 (fun _ => 0))
    have c0 : ∀ ob, ((w.alloc (.cells #[.pointer (some ⟨b, 0, none⟩)] 81)).alloc ob).cell? ⟨b, 0, none⟩ = some (.int .u8 63) := fun ob => (hrow2 _ ob).get 0
    have c1 : ∀ ob, ((w.alloc (.cells #[.pointer (some ⟨b, 0, none⟩)] 81)).alloc ob).cell? ⟨b, 1, none⟩ = some (.int .i64 (F 0 : Int)) := fun ob => (hrow2 _ ob).get 1
    clear hrow2 hrow
    go_enter Try.func101, Try.ntmps101
    go_wp2_with fail
    refine (i_assume (F 0) _ (HF.out 0)).mono ?_
    rw [HFIN.out]
    rintro e w1 ⟨rfl, hb⟩
    have hr := r2.later hb
    go_wp2_with (refine wpList_store_row rfl 68 _ _ rfl (w.heap.size + 1) (row 16 (Ct.leaf 63 F).tr) rfl rfl 68 _ hr (by rw [row_size]; kernel_rfl) (by first | rfl | (rw [row_size, row_size]) | (simp [row_size]; done)) (row_one _ _) ?_)
    exact bodyPost_ret (results_cell_row rfl _ _ (w.heap.size + 1) 68 _ (0, 0) _ rfl (hr.put _) Try.underlying68 rfl (by rw [row_size]; kernel_rfl)) rfl ⟨rfl, bel_setRow (bel_on (bel_2 w _ _) hb (by simp; omega)) (by omega) _⟩
  case inr.inr.inl.inl =>
    subst h
    have hfin : row 16 (fun q => fDia F q 4) = row 16 (Ct.leaf 65 F).tr := row_congr fun q _ => (tr_A F q).symm
    have hang := fun w => i_angel F w hF
    rw [row4_eq] at hang
    have HFIN := Lib.hid hfin; have HA := Lib.hid hang; clear hfin hF hl hang
    have hrow2 := fun (o o' : Obj) => (hrow.alloc o).alloc o'
    have cp : ∀ ob, ((w.alloc (.cells #[.pointer (some ⟨b, 0, none⟩)] 81)).alloc ob).cell? ⟨w.heap.size, 0, none⟩ = some (.pointer (some ⟨b, 0, none⟩)) := fun ob => ((RowAt.fresh w 81 #[.pointer (some ⟨b, 0, none⟩)]).alloc ob).get 0
    have r2 := RowAt.fresh1 w (.cells #[.pointer (some ⟨b, 0, none⟩)] 81) 68 (row 16 (fun _ => 0))
    have c0 : ∀ ob, ((w.alloc (.cells #[.pointer (some ⟨b, 0, none⟩)] 81)).alloc ob).cell? ⟨b, 0, none⟩ = some (.int .u8 65) := fun ob => (hrow2 _ ob).get 0
    have c2 : ∀ ob, ((w.alloc (.cells #[.pointer (some ⟨b, 0, none⟩)] 81)).alloc ob).cell? ⟨b, 2, none⟩ = some (.int .i64 (F 0 : Int)) := fun ob => (hrow2 _ ob).get 2
    have c3 : ∀ ob, ((w.alloc (.cells #[.pointer (some ⟨b, 0, none⟩)] 81)).alloc ob).cell? ⟨b, 3, none⟩ = some (.int .i64 (F 1 : Int)) := fun ob => (hrow2 _ ob).get 3
    have c4 : ∀ ob, ((w.alloc (.cells #[.pointer (some ⟨b, 0, none⟩)] 81)).alloc ob).cell? ⟨b, 4, none⟩ = some (.int .i64 (F 2 : Int)) := fun ob => (hrow2 _ ob).get 4
    have c5 : ∀ ob, ((w.alloc (.cells #[.pointer (some ⟨b, 0, none⟩)] 81)).alloc ob).cell? ⟨b, 5, none⟩ = some (.int .i64 (F 3 : Int)) := fun ob => (hrow2 _ ob).get 5
    clear hrow2 hrow
    go_enter Try.func101, Try.ntmps101
    go_wp2_with fail
    refine (HA.out _).mono ?_
    rw [HFIN.out]
    rintro e w1 ⟨rfl, hb⟩
    have hr := r2.later hb
    go_wp2_with (refine wpList_store_row rfl 68 _ _ rfl (w.heap.size + 1) (row 16 (Ct.leaf 65 F).tr) rfl rfl 68 _ hr (by rw [row_size]; kernel_rfl) (by first | rfl | (rw [row_size, row_size]) | (simp [row_size]; done)) (row_one _ _) ?_)
    exact bodyPost_ret (results_cell_row rfl _ _ (w.heap.size + 1) 68 _ (0, 0) _ rfl (hr.put _) Try.underlying68 rfl (by rw [row_size]; kernel_rfl)) rfl ⟨rfl, bel_setRow (bel_on (bel_2 w _ _) hb (by simp; omega)) (by omega) _⟩
  case inr.inr.inl.inr =>
    subst h
    have hfin : row 16 (fun q => fBox F q) = row 16 (Ct.leaf 68 F).tr := row_congr fun q _ => (tr_D F q).symm
    have hang := fun w => i_demon F w hF
    rw [row4_eq] at hang
    have HFIN := Lib.hid hfin; have HA := Lib.hid hang; clear hfin hF hl hang
    have hrow2 := fun (o o' : Obj) => (hrow.alloc o).alloc o'
    have cp : ∀ ob, ((w.alloc (.cells #[.pointer (some ⟨b, 0, none⟩)] 81)).alloc ob).cell? ⟨w.heap.size, 0, none⟩ = some (.pointer (some ⟨b, 0, none⟩)) := fun ob => ((RowAt.fresh w 81 #[.pointer (some ⟨b, 0, none⟩)]).alloc ob).get 0
    have r2 := RowAt.fresh1 w (.cells #[.pointer (some ⟨b, 0, none⟩)] 81) 68 (row 16 (fun _ => 0))
    have c0 : ∀ ob, ((w.alloc (.cells #[.pointer (some ⟨b, 0, none⟩)] 81)).alloc ob).cell? ⟨b, 0, none⟩ = some (.int .u8 68) := fun ob => (hrow2 _ ob).get 0
    have c2 : ∀ ob, ((w.alloc (.cells #[.pointer (some ⟨b, 0, none⟩)] 81)).alloc ob).cell? ⟨b, 2, none⟩ = some (.int .i64 (F 0 : Int)) := fun ob => (hrow2 _ ob).get 2
    have c3 : ∀ ob, ((w.alloc (.cells #[.pointer (some ⟨b, 0, none⟩)] 81)).alloc ob).cell? ⟨b, 3, none⟩ = some (.int .i64 (F 1 : Int)) := fun ob => (hrow2 _ ob).get 3
    have c4 : ∀ ob, ((w.alloc (.cells #[.pointer (some ⟨b, 0, none⟩)] 81)).alloc ob).cell? ⟨b, 4, none⟩ = some (.int .i64 (F 2 : Int)) := fun ob => (hrow2 _ ob).get 4
    have c5 : ∀ ob, ((w.alloc (.cells #[.pointer (some ⟨b, 0, none⟩)] 81)).alloc ob).cell? ⟨b, 5, none⟩ = some (.int .i64 (F 3 : Int)) := fun ob => (hrow2 _ ob).get 5
    clear hrow2 hrow
    go_enter Try.func101, Try.ntmps101
    go_wp2_with fail
    refine (HA.out _).mono ?_
    rw [HFIN.out]
    rintro e w1 ⟨rfl, hb⟩
    have hr := r2.later hb
    go_wp2_with (refine wpList_store_row rfl 68 _ _ rfl (w.heap.size + 1) (row 16 (Ct.leaf 68 F).tr) rfl rfl 68 _ hr (by rw [row_size]; kernel_rfl) (by first | rfl | (rw [row_size, row_size]) | (simp [row_size]; done)) (row_one _ _) ?_)
    exact bodyPost_ret (results_cell_row rfl _ _ (w.heap.size + 1) 68 _ (0, 0) _ rfl (hr.put _) Try.underlying68 rfl (by rw [row_size]; kernel_rfl)) rfl ⟨rfl, bel_setRow (bel_on (bel_2 w _ _) hb (by simp; omega)) (by omega) _⟩
  all_goals (subst h; cases hl)
end Go.Proofs.Ytjbfebjdegabaaa
