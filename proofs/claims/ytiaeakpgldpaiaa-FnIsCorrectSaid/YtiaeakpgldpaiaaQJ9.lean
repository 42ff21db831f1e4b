/- Joined texts: ImplU, ImplV, ImplW. -/
import Derived.Test.YtiaeakpgldpaiaaQImplT
import Derived.Test.YtiaeakpgldpaiaaQJ8
namespace Go.Proofs.Ytiaeakpgldpaiaa
set_option linter.unusedSimpArgs false
set_option linter.unusedVariables false
set_option maxRecDepth 4000
open Go.RowKit

theorem row4_eq (F : Nat → Nat) : row 4 F = #[.int .i64 (F 0 : Int), .int .i64 (F 1 : Int), .int .i64 (F 2 : Int), .int .i64 (F 3 : Int)] := rfl
set_option maxHeartbeats 2000000 in
theorem i_ctLeaf (op : UInt8) (F : Nat → Nat) (b : Nat) (w : World) (S : Nat → Prop) (hct : CtIn w S (.leaf op F) b) (hwf : (Ct.leaf op F).wf) : Calls Try.prog 115 #[.pointer (some ⟨b, 0, none⟩)] w fun e w' => e = .returned (.agg (row 16 (Ct.leaf op F).tr)) ∧ Below w.heap.size w w' := by
  obtain ⟨_, v, tx, hrow⟩ := hct
  obtain ⟨n, hl, hF, _⟩ := hwf
  rcases letters op with (h | h | h) | (h | h) | (h | h) | (h | h | h) | h | h | (h | h) | h
  case inr.inr.inr.inr.inr.inr.inr => rw [noLetter_leaf h] at hl; cases hl
  case inl.inl =>
    clear hl hF
    subst h
    have hfin : row 16 (fun q => 15 &&& q) = row 16 (Ct.leaf 115 F).tr := row_congr fun q _ => (tr_s F q).symm
    have HFIN := Lib.hid hfin; clear hfin
    have hrow2 := fun (o o' : Obj) => (hrow.alloc o).alloc o'
    have cp : ∀ ob, ((w.alloc (.cells #[.pointer (some ⟨b, 0, none⟩)] 85)).alloc ob).cell? ⟨w.heap.size, 0, none⟩ = some (.pointer (some ⟨b, 0, none⟩)) := fun ob => ((RowAt.fresh w 85 #[.pointer (some ⟨b, 0, none⟩)]).alloc ob).get 0
    have r2 := RowAt.fresh1 w (.cells #[.pointer (some ⟨b, 0, none⟩)] 85) 77 (row 16 (fun _ => 0))
    have c0 : ∀ ob, ((w.alloc (.cells #[.pointer (some ⟨b, 0, none⟩)] 85)).alloc ob).cell? ⟨b, 0, none⟩ = some (.int .u8 115) := fun ob => (hrow2 _ ob).get 0
    clear hrow2 hrow
    go_enter Try.func115, Try.ntmps115
    go_wp2_with fail
    refine (i_assert 15 _ (by omega)).mono ?_
    rw [HFIN.out]
    rintro e w1 ⟨rfl, hb⟩
    have hr := r2.later hb
    go_wp2_with (refine wpList_store_row rfl 77 _ _ rfl (w.heap.size + 1) (row 16 (Ct.leaf 115 F).tr) rfl rfl 77 _ hr (by rw [row_size]; kernel_rfl) (by first | rfl | (rw [row_size, row_size]) | (simp [row_size]; done)) (row_one _ _) ?_)
    exact bodyPost_ret (results_cell_row rfl _ _ (w.heap.size + 1) 77 _ (0, 0) _ rfl (hr.put _) Try.underlying77 rfl (by rw [row_size]; kernel_rfl)) rfl ⟨rfl, bel_setRow (bel_on (bel_2 w _ _) hb (by simp; omega)) (by omega) _⟩
  case inl.inr.inl =>
    clear hl hF
    subst h
    have hfin : row 16 (fun q => 0 &&& q) = row 16 (Ct.leaf 97 F).tr := row_congr fun q _ => (tr_a F q).symm
    have HFIN := Lib.hid hfin; clear hfin
    have hrow2 := fun (o o' : Obj) => (hrow.alloc o).alloc o'
    have cp : ∀ ob, ((w.alloc (.cells #[.pointer (some ⟨b, 0, none⟩)] 85)).alloc ob).cell? ⟨w.heap.size, 0, none⟩ = some (.pointer (some ⟨b, 0, none⟩)) := fun ob => ((RowAt.fresh w 85 #[.pointer (some ⟨b, 0, none⟩)]).alloc ob).get 0
    have r2 := RowAt.fresh1 w (.cells #[.pointer (some ⟨b, 0, none⟩)] 85) 77 (row 16 (fun _ => 0))
    have c0 : ∀ ob, ((w.alloc (.cells #[.pointer (some ⟨b, 0, none⟩)] 85)).alloc ob).cell? ⟨b, 0, none⟩ = some (.int .u8 97) := fun ob => (hrow2 _ ob).get 0
    clear hrow2 hrow
    go_enter Try.func115, Try.ntmps115
    go_wp2_with fail
    refine (i_assert 0 _ (by omega)).mono ?_
    rw [HFIN.out]
    rintro e w1 ⟨rfl, hb⟩
    have hr := r2.later hb
    go_wp2_with (refine wpList_store_row rfl 77 _ _ rfl (w.heap.size + 1) (row 16 (Ct.leaf 97 F).tr) rfl rfl 77 _ hr (by rw [row_size]; kernel_rfl) (by first | rfl | (rw [row_size, row_size]) | (simp [row_size]; done)) (row_one _ _) ?_)
    exact bodyPost_ret (results_cell_row rfl _ _ (w.heap.size + 1) 77 _ (0, 0) _ rfl (hr.put _) Try.underlying77 rfl (by rw [row_size]; kernel_rfl)) rfl ⟨rfl, bel_setRow (bel_on (bel_2 w _ _) hb (by simp; omega)) (by omega) _⟩
  case inl.inr.inr =>
    clear hl hF
    subst h
    have hfin : row 16 (fun q => q ||| andn 15 0) = row 16 (Ct.leaf 109 F).tr := row_congr fun q _ => (tr_m F q).symm
    have HFIN := Lib.hid hfin; clear hfin
    have hrow2 := fun (o o' : Obj) => (hrow.alloc o).alloc o'
    have cp : ∀ ob, ((w.alloc (.cells #[.pointer (some ⟨b, 0, none⟩)] 85)).alloc ob).cell? ⟨w.heap.size, 0, none⟩ = some (.pointer (some ⟨b, 0, none⟩)) := fun ob => ((RowAt.fresh w 85 #[.pointer (some ⟨b, 0, none⟩)]).alloc ob).get 0
    have r2 := RowAt.fresh1 w (.cells #[.pointer (some ⟨b, 0, none⟩)] 85) 77 (row 16 (fun _ => 0))
    have c0 : ∀ ob, ((w.alloc (.cells #[.pointer (some ⟨b, 0, none⟩)] 85)).alloc ob).cell? ⟨b, 0, none⟩ = some (.int .u8 109) := fun ob => (hrow2 _ ob).get 0
    clear hrow2 hrow
    go_enter Try.func115, Try.ntmps115
    go_wp2_with fail
    refine (i_assume 0 _ (by omega)).mono ?_
    rw [HFIN.out]
    rintro e w1 ⟨rfl, hb⟩
    have hr := r2.later hb
    go_wp2_with (refine wpList_store_row rfl 77 _ _ rfl (w.heap.size + 1) (row 16 (Ct.leaf 109 F).tr) rfl rfl 77 _ hr (by rw [row_size]; kernel_rfl) (by first | rfl | (rw [row_size, row_size]) | (simp [row_size]; done)) (row_one _ _) ?_)
    exact bodyPost_ret (results_cell_row rfl _ _ (w.heap.size + 1) 77 _ (0, 0) _ rfl (hr.put _) Try.underlying77 rfl (by rw [row_size]; kernel_rfl)) rfl ⟨rfl, bel_setRow (bel_on (bel_2 w _ _) hb (by simp; omega)) (by omega) _⟩
  case inr.inl.inl =>
    subst h
    have hfin : row 16 (fun q => F 0 &&& q) = row 16 (Ct.leaf 33 F).tr := row_congr fun q _ => (tr_as F q).symm
    have HFIN := Lib.hid hfin; have HF := Lib.hid hF; clear hfin hF hl
    have hrow2 := fun (o o' : Obj) => (hrow.alloc o).alloc o'
    have cp : ∀ ob, ((w.alloc (.cells #[.pointer (some ⟨b, 0, none⟩)] 85)).alloc ob).cell? ⟨w.heap.size, 0, none⟩ = some (.pointer (some ⟨b, 0, none⟩)) := fun ob => ((RowAt.fresh w 85 #[.pointer (some ⟨b, 0, none⟩)]).alloc ob).get 0
    have r2 := RowAt.fresh1 w (.cells #[.pointer (some ⟨b, 0, none⟩)] 85) 77 (row 16 (fun _ => 0))
    have c0 : ∀ ob, ((w.alloc (.cells #[.pointer (some ⟨b, 0, none⟩)] 85)).alloc ob).cell? ⟨b, 0, none⟩ = some (.int .u8 33) := fun ob => (hrow2 _ ob).get 0
    have c1 : ∀ ob, ((w.alloc (.cells #[.pointer (some ⟨b, 0, none⟩)] 85)).alloc ob).cell? ⟨b, 1, none⟩ = some (.int .i64 (F 0 : Int)) := fun ob => (hrow2 _ ob).get 1
    clear hrow2 hrow
    go_enter Try.func115, Try.ntmps115
    go_wp2_with fail
    refine (i_assert (F 0) _ (HF.out 0)).mono ?_
    rw [HFIN.out]
    rintro e w1 ⟨rfl, hb⟩
    have hr := r2.later hb
    go_wp2_with (refine wpList_store_row rfl 77 _ _ rfl (w.heap.size + 1) (row 16 (Ct.leaf 33 F).tr) rfl rfl 77 _ hr (by rw [row_size]; kernel_rfl) (by first | rfl | (rw [row_size, row_size]) | (simp [row_size]; done)) (row_one _ _) ?_)
    exact bodyPost_ret (results_cell_row rfl _ _ (w.heap.size + 1) 77 _ (0, 0) _ rfl (hr.put _) Try.underlying77 rfl (by rw [row_size]; kernel_rfl)) rfl ⟨rfl, bel_setRow (bel_on (bel_2 w _ _) hb (by simp; omega)) (by omega) _⟩
  case inr.inl.inr =>
    subst h
    have hfin : row 16 (fun q => q ||| andn 15 (F 0)) = row 16 (Ct.leaf 63 F).tr := row_congr fun q _ => (tr_au F q).symm
    have HFIN := Lib.hid hfin; have HF := Lib.hid hF; clear hfin hF hl
    have hrow2 := fun (o o' : Obj) => (hrow.alloc o).alloc o'
    have cp : ∀ ob, ((w.alloc (.cells #[.pointer (some ⟨b, 0, none⟩)] 85)).alloc ob).cell? ⟨w.heap.size, 0, none⟩ = some (.pointer (some ⟨b, 0, none⟩)) := fun ob => ((RowAt.fresh w 85 #[.pointer (some ⟨b, 0, none⟩)]).alloc ob).get 0
    have r2 := RowAt.fresh1 w (.cells #[.pointer (some ⟨b, 0, none⟩)] 85) 77 (row 16 (fun _ => 0))
    have c0 : ∀ ob, ((w.alloc (.cells #[.pointer (some ⟨b, 0, none⟩)] 85)).alloc ob).cell? ⟨b, 0, none⟩ = some (.int .u8 63) := fun ob => (hrow2 _ ob).get 0
    have c1 : ∀ ob, ((w.alloc (.cells #[.pointer (some ⟨b, 0, none⟩)] 85)).alloc ob).cell? ⟨b, 1, none⟩ = some (.int .i64 (F 0 : Int)) := fun ob => (hrow2 _ ob).get 1
    clear hrow2 hrow
    go_enter Try.func115, Try.ntmps115
    go_wp2_with fail
    refine (i_assume (F 0) _ (HF.out 0)).mono ?_
    rw [HFIN.out]
    rintro e w1 ⟨rfl, hb⟩
    have hr := r2.later hb
    go_wp2_with (refine wpList_store_row rfl 77 _ _ rfl (w.heap.size + 1) (row 16 (Ct.leaf 63 F).tr) rfl rfl 77 _ hr (by rw [row_size]; kernel_rfl) (by first | rfl | (rw [row_size, row_size]) | (simp [row_size]; done)) (row_one _ _) ?_)
    exact bodyPost_ret (results_cell_row rfl _ _ (w.heap.size + 1) 77 _ (0, 0) _ rfl (hr.put _) Try.underlying77 rfl (by rw [row_size]; kernel_rfl)) rfl ⟨rfl, bel_setRow (bel_on (bel_2 w _ _) hb (by simp; omega)) (by omega) _⟩
  case inr.inr.inl.inl =>
    subst h
    have hfin : row 16 (fun q => fDia F q 4) = row 16 (Ct.leaf 65 F).tr := row_congr fun q _ => (tr_A F q).symm
    have hang := fun w => i_angel F w hF
    rw [row4_eq] at hang
    have HFIN := Lib.hid hfin; have HA := Lib.hid hang; clear hfin hF hl hang
    have hrow2 := fun (o o' : Obj) => (hrow.alloc o).alloc o'
    have cp : ∀ ob, ((w.alloc (.cells #[.pointer (some ⟨b, 0, none⟩)] 85)).alloc ob).cell? ⟨w.heap.size, 0, none⟩ = some (.pointer (some ⟨b, 0, none⟩)) := fun ob => ((RowAt.fresh w 85 #[.pointer (some ⟨b, 0, none⟩)]).alloc ob).get 0
    have r2 := RowAt.fresh1 w (.cells #[.pointer (some ⟨b, 0, none⟩)] 85) 77 (row 16 (fun _ => 0))
    have c0 : ∀ ob, ((w.alloc (.cells #[.pointer (some ⟨b, 0, none⟩)] 85)).alloc ob).cell? ⟨b, 0, none⟩ = some (.int .u8 65) := fun ob => (hrow2 _ ob).get 0
    have c2 : ∀ ob, ((w.alloc (.cells #[.pointer (some ⟨b, 0, none⟩)] 85)).alloc ob).cell? ⟨b, 2, none⟩ = some (.int .i64 (F 0 : Int)) := fun ob => (hrow2 _ ob).get 2
    have c3 : ∀ ob, ((w.alloc (.cells #[.pointer (some ⟨b, 0, none⟩)] 85)).alloc ob).cell? ⟨b, 3, none⟩ = some (.int .i64 (F 1 : Int)) := fun ob => (hrow2 _ ob).get 3
    have c4 : ∀ ob, ((w.alloc (.cells #[.pointer (some ⟨b, 0, none⟩)] 85)).alloc ob).cell? ⟨b, 4, none⟩ = some (.int .i64 (F 2 : Int)) := fun ob => (hrow2 _ ob).get 4
    have c5 : ∀ ob, ((w.alloc (.cells #[.pointer (some ⟨b, 0, none⟩)] 85)).alloc ob).cell? ⟨b, 5, none⟩ = some (.int .i64 (F 3 : Int)) := fun ob => (hrow2 _ ob).get 5
    clear hrow2 hrow
    go_enter Try.func115, Try.ntmps115
    go_wp2_with fail
    refine (HA.out _).mono ?_
    rw [HFIN.out]
    rintro e w1 ⟨rfl, hb⟩
    have hr := r2.later hb
    go_wp2_with (refine wpList_store_row rfl 77 _ _ rfl (w.heap.size + 1) (row 16 (Ct.leaf 65 F).tr) rfl rfl 77 _ hr (by rw [row_size]; kernel_rfl) (by first | rfl | (rw [row_size, row_size]) | (simp [row_size]; done)) (row_one _ _) ?_)
    exact bodyPost_ret (results_cell_row rfl _ _ (w.heap.size + 1) 77 _ (0, 0) _ rfl (hr.put _) Try.underlying77 rfl (by rw [row_size]; kernel_rfl)) rfl ⟨rfl, bel_setRow (bel_on (bel_2 w _ _) hb (by simp; omega)) (by omega) _⟩
  case inr.inr.inl.inr =>
    subst h
    have hfin : row 16 (fun q => fBox F q) = row 16 (Ct.leaf 68 F).tr := row_congr fun q _ => (tr_D F q).symm
    have hang := fun w => i_demon F w hF
    rw [row4_eq] at hang
    have HFIN := Lib.hid hfin; have HA := Lib.hid hang; clear hfin hF hl hang
    have hrow2 := fun (o o' : Obj) => (hrow.alloc o).alloc o'
    have cp : ∀ ob, ((w.alloc (.cells #[.pointer (some ⟨b, 0, none⟩)] 85)).alloc ob).cell? ⟨w.heap.size, 0, none⟩ = some (.pointer (some ⟨b, 0, none⟩)) := fun ob => ((RowAt.fresh w 85 #[.pointer (some ⟨b, 0, none⟩)]).alloc ob).get 0
    have r2 := RowAt.fresh1 w (.cells #[.pointer (some ⟨b, 0, none⟩)] 85) 77 (row 16 (fun _ => 0))
    have c0 : ∀ ob, ((w.alloc (.cells #[.pointer (some ⟨b, 0, none⟩)] 85)).alloc ob).cell? ⟨b, 0, none⟩ = some (.int .u8 68) := fun ob => (hrow2 _ ob).get 0
    have c2 : ∀ ob, ((w.alloc (.cells #[.pointer (some ⟨b, 0, none⟩)] 85)).alloc ob).cell? ⟨b, 2, none⟩ = some (.int .i64 (F 0 : Int)) := fun ob => (hrow2 _ ob).get 2
    have c3 : ∀ ob, ((w.alloc (.cells #[.pointer (some ⟨b, 0, none⟩)] 85)).alloc ob).cell? ⟨b, 3, none⟩ = some (.int .i64 (F 1 : Int)) := fun ob => (hrow2 _ ob).get 3
    have c4 : ∀ ob, ((w.alloc (.cells #[.pointer (some ⟨b, 0, none⟩)] 85)).alloc ob).cell? ⟨b, 4, none⟩ = some (.int .i64 (F 2 : Int)) := fun ob => (hrow2 _ ob).get 4
    have c5 : ∀ ob, ((w.alloc (.cells #[.pointer (some ⟨b, 0, none⟩)] 85)).alloc ob).cell? ⟨b, 5, none⟩ = some (.int .i64 (F 3 : Int)) := fun ob => (hrow2 _ ob).get 5
    clear hrow2 hrow
    go_enter Try.func115, Try.ntmps115
    go_wp2_with fail
    refine (HA.out _).mono ?_
    rw [HFIN.out]
    rintro e w1 ⟨rfl, hb⟩
    have hr := r2.later hb
    go_wp2_with (refine wpList_store_row rfl 77 _ _ rfl (w.heap.size + 1) (row 16 (Ct.leaf 68 F).tr) rfl rfl 77 _ hr (by rw [row_size]; kernel_rfl) (by first | rfl | (rw [row_size, row_size]) | (simp [row_size]; done)) (row_one _ _) ?_)
    exact bodyPost_ret (results_cell_row rfl _ _ (w.heap.size + 1) 77 _ (0, 0) _ rfl (hr.put _) Try.underlying77 rfl (by rw [row_size]; kernel_rfl)) rfl ⟨rfl, bel_setRow (bel_on (bel_2 w _ _) hb (by simp; omega)) (by omega) _⟩
  all_goals (subst h; cases hl)
end Go.Proofs.Ytiaeakpgldpaiaa
namespace Go.Proofs.Ytiaeakpgldpaiaa
set_option linter.unusedSimpArgs false
set_option linter.unusedVariables false
set_option maxRecDepth 4000
open Go.RowKit

theorem tr_w (p : Nat) (x : Ct) (q : Nat) : (Ct.un 119 p x).tr q = lfp (eqW p x.tr q) := by rw [Ct.tr]; rfl
theorem tr_st (p : Nat) (x : Ct) (q : Nat) : (Ct.un 42 p x).tr q = lfp (eqA x.tr q) := by rw [Ct.tr]; rfl
theorem tr_pl (p : Nat) (x : Ct) (q : Nat) : (Ct.un 43 p x).tr q = lfp (eqO x.tr q) := by rw [Ct.tr]; rfl
def IhAt (x : Ct) : Prop := ∀ (b : Nat) (w : World) (S : Nat → Prop), CtIn w S x b → x.wf → (∀ k, S k → k < w.heap.size) → Calls Try.prog 115 #[.pointer (some ⟨b, 0, none⟩)] w fun e w' => e = .returned (.agg (row 16 x.tr)) ∧ Below w.heap.size w w'
set_option maxHeartbeats 2000000 in
theorem i_ctUn (op : UInt8) (p : Nat) (x : Ct) (ih : IhAt x) (b : Nat) (w : World) (S : Nat → Prop) (hct : CtIn w S (.un op p x) b) (hwf : (Ct.un op p x).wf) (hS : ∀ k, S k → k < w.heap.size) : Calls Try.prog 115 #[.pointer (some ⟨b, 0, none⟩)] w fun e w' => e = .returned (.agg (row 16 (Ct.un op p x).tr)) ∧ Below w.heap.size w w' := by
  obtain ⟨_, R, v, tx, g, cap, cur, b1, hrow, rfl, _, hkid, hk0, hcx⟩ := hct
  obtain ⟨n, hl, hu, hp, _, hwx⟩ := hwf
  have hT := Ct.tr_bd hwx
  have hm := Ct.tr_mono hwx
  have HCT := Lib.hid hcx; have HS := Lib.hid hS; have HWX := Lib.hid hwx; have HT := Lib.hid hT; have HM := Lib.hid hm
  have HIH : Hid (∀ (b : Nat) (w : World) (S : Nat → Prop), CtIn w S x b → x.wf → (∀ k, S k → k < w.heap.size) → Calls Try.prog 115 #[.pointer (some ⟨b, 0, none⟩)] w fun e w' => e = .returned (.agg (row 16 x.tr)) ∧ Below w.heap.size w w') := Lib.hid ih
  clear hcx hS hwx hT hm ih hl
  rcases letters op with (h | h | h) | (h | h) | (h | h) | (h | h | h) | h | h | (h | h) | h
  case inr.inr.inr.inr.inr.inr.inr => rw [noLetter_un h] at hu; cases hu
  case inr.inr.inr.inr.inr.inl =>
    clear hu
    subst h
    have hfin : row 16 (fun q => lfp (eqW p x.tr q)) = row 16 (Ct.un 119 p x).tr := row_congr fun q _ => (tr_w p x q).symm
    have HFIN := Lib.hid hfin; clear hfin
    have hrow2 := fun (o o' : Obj) => (hrow.alloc o).alloc o'
    have cp : ∀ ob, ((w.alloc (.cells #[.pointer (some ⟨b, 0, none⟩)] 85)).alloc ob).cell? ⟨w.heap.size, 0, none⟩ = some (.pointer (some ⟨b, 0, none⟩)) := fun ob => ((RowAt.fresh w 85 #[.pointer (some ⟨b, 0, none⟩)]).alloc ob).get 0
    have r2 := RowAt.fresh1 w (.cells #[.pointer (some ⟨b, 0, none⟩)] 85) 77 (row 16 (fun _ => 0))
    have c0 : ∀ ob, ((w.alloc (.cells #[.pointer (some ⟨b, 0, none⟩)] 85)).alloc ob).cell? ⟨b, 0, none⟩ = some (.int .u8 119) := fun ob => (hrow2 _ ob).get 0
    have c6 : ∀ ob, ((w.alloc (.cells #[.pointer (some ⟨b, 0, none⟩)] 85)).alloc ob).cell? ⟨b, 6, none⟩ = some (.slice (some ⟨g, 0, none⟩) 1 cap) := fun ob => (hrow2 _ ob).get 6
    have cg : ∀ ob, ((w.alloc (.cells #[.pointer (some ⟨b, 0, none⟩)] 85)).alloc ob).cell? ⟨g, 0, none⟩ = some (.pointer (some ⟨b1, 0, none⟩)) := fun ob => (((hkid.alloc _).alloc ob).get 0).trans hk0
    have rn := hrow2 (.cells #[.pointer (some ⟨b, 0, none⟩)] 85) (.cells (row 16 (fun _ => 0)) 77)
    have rp := (RowAt.fresh w 85 #[.pointer (some ⟨b, 0, none⟩)]).alloc (.cells (row 16 (fun _ => 0)) 77)
    clear hrow2 hrow hkid hk0
    go_enter Try.func115, Try.ntmps115
    go_wp2_with fail
    refine (HIH.out _ _ _ (HCT.out.later HS.out (bel_2 w _ _)) HWX.out (fun k hk => by have := HS.out k hk; simp; omega)).mono ?_
    rintro e w1 ⟨rfl, hb1⟩
    have rn1 := (rn.later hb1).alloc (.cells (row 16 x.tr) 77)
    have rp1 := (rp.later hb1).alloc (.cells (row 16 x.tr) 77)
    have rr1 := (r2.later hb1).alloc (.cells (row 16 x.tr) 77)
    have rt1 := RowAt.fresh w1 77 (row 16 x.tr)
    have d0 : (w1.alloc (.cells (row 16 x.tr) 77)).cell? ⟨w.heap.size, 0, none⟩ = some (.pointer (some ⟨b, 0, none⟩)) := rp1.get 0
    have d1 : (w1.alloc (.cells (row 16 x.tr) 77)).cell? ⟨b, 0, none⟩ = some (.int .u8 119) := rn1.get 0
    have hbb := bel_on (bel_2 w (.cells #[.pointer (some ⟨b, 0, none⟩)] 85) (.cells (row 16 (fun _ => 0)) 77)) (bel_on' hb1 (bel_1 w1 (.cells (row 16 x.tr) 77))) (by simp; omega)
    clear rn rp r2 cp c0 c6 cg hb1
    go_wp2_with (refine wpList_store_new rfl 77 _ _ rfl (row 16 x.tr) rfl rfl (by rw [row_size]; kernel_rfl) (by first | rfl | (rw [row_size, row_size]) | (simp [row_size]; done)) (row_one _ _) ?_)
    refine (i_makeTrans _ _ _ (fn_ct1 _ w.heap.size b w1.heap.size 119 p R (.slice (some ⟨g, 0, none⟩) 1 cap) tx x.tr HT.out HM.out hp rp1 rn1 rt1)).mono ?_
    rw [HFIN.out]
    rintro e w2 ⟨rfl, hb2⟩
    have hr := rr1.later hb2
    go_wp2_with (refine wpList_store_row rfl 77 _ _ rfl (w.heap.size + 1) (row 16 (Ct.un 119 p x).tr) rfl rfl 77 _ hr (by rw [row_size]; kernel_rfl) (by first | rfl | (rw [row_size, row_size]) | (simp [row_size]; done)) (row_one _ _) ?_)
    exact bodyPost_ret (results_cell_row rfl _ _ (w.heap.size + 1) 77 _ (0, 0) _ rfl (hr.put _) Try.underlying77 rfl (by rw [row_size]; kernel_rfl)) rfl ⟨rfl, bel_setRow (bel_on hbb hb2 hbb.size) (by omega) _⟩
  case inr.inr.inr.inr.inr.inr.inl.inl =>
    clear hu
    subst h
    have hfin : row 16 (fun q => lfp (eqA x.tr q)) = row 16 (Ct.un 42 p x).tr := row_congr fun q _ => (tr_st p x q).symm
    have HFIN := Lib.hid hfin; clear hfin
    have hrow2 := fun (o o' : Obj) => (hrow.alloc o).alloc o'
    have cp : ∀ ob, ((w.alloc (.cells #[.pointer (some ⟨b, 0, none⟩)] 85)).alloc ob).cell? ⟨w.heap.size, 0, none⟩ = some (.pointer (some ⟨b, 0, none⟩)) := fun ob => ((RowAt.fresh w 85 #[.pointer (some ⟨b, 0, none⟩)]).alloc ob).get 0
    have r2 := RowAt.fresh1 w (.cells #[.pointer (some ⟨b, 0, none⟩)] 85) 77 (row 16 (fun _ => 0))
    have c0 : ∀ ob, ((w.alloc (.cells #[.pointer (some ⟨b, 0, none⟩)] 85)).alloc ob).cell? ⟨b, 0, none⟩ = some (.int .u8 42) := fun ob => (hrow2 _ ob).get 0
    have c6 : ∀ ob, ((w.alloc (.cells #[.pointer (some ⟨b, 0, none⟩)] 85)).alloc ob).cell? ⟨b, 6, none⟩ = some (.slice (some ⟨g, 0, none⟩) 1 cap) := fun ob => (hrow2 _ ob).get 6
    have cg : ∀ ob, ((w.alloc (.cells #[.pointer (some ⟨b, 0, none⟩)] 85)).alloc ob).cell? ⟨g, 0, none⟩ = some (.pointer (some ⟨b1, 0, none⟩)) := fun ob => (((hkid.alloc _).alloc ob).get 0).trans hk0
    have rn := hrow2 (.cells #[.pointer (some ⟨b, 0, none⟩)] 85) (.cells (row 16 (fun _ => 0)) 77)
    have rp := (RowAt.fresh w 85 #[.pointer (some ⟨b, 0, none⟩)]).alloc (.cells (row 16 (fun _ => 0)) 77)
    clear hrow2 hrow hkid hk0
    go_enter Try.func115, Try.ntmps115
    go_wp2_with fail
    refine (HIH.out _ _ _ (HCT.out.later HS.out (bel_2 w _ _)) HWX.out (fun k hk => by have := HS.out k hk; simp; omega)).mono ?_
    rintro e w1 ⟨rfl, hb1⟩
    have rn1 := (rn.later hb1).alloc (.cells (row 16 x.tr) 77)
    have rp1 := (rp.later hb1).alloc (.cells (row 16 x.tr) 77)
    have rr1 := (r2.later hb1).alloc (.cells (row 16 x.tr) 77)
    have rt1 := RowAt.fresh w1 77 (row 16 x.tr)
    have d0 : (w1.alloc (.cells (row 16 x.tr) 77)).cell? ⟨w.heap.size, 0, none⟩ = some (.pointer (some ⟨b, 0, none⟩)) := rp1.get 0
    have d1 : (w1.alloc (.cells (row 16 x.tr) 77)).cell? ⟨b, 0, none⟩ = some (.int .u8 42) := rn1.get 0
    have hbb := bel_on (bel_2 w (.cells #[.pointer (some ⟨b, 0, none⟩)] 85) (.cells (row 16 (fun _ => 0)) 77)) (bel_on' hb1 (bel_1 w1 (.cells (row 16 x.tr) 77))) (by simp; omega)
    clear rn rp r2 cp c0 c6 cg hb1
    go_wp2_with (refine wpList_store_new rfl 77 _ _ rfl (row 16 x.tr) rfl rfl (by rw [row_size]; kernel_rfl) (by first | rfl | (rw [row_size, row_size]) | (simp [row_size]; done)) (row_one _ _) ?_)
    refine (i_makeTrans _ _ _ (fn_ct2 _ w1.heap.size x.tr HT.out HM.out rt1)).mono ?_
    rw [HFIN.out]
    rintro e w2 ⟨rfl, hb2⟩
    have hr := rr1.later hb2
    go_wp2_with (refine wpList_store_row rfl 77 _ _ rfl (w.heap.size + 1) (row 16 (Ct.un 42 p x).tr) rfl rfl 77 _ hr (by rw [row_size]; kernel_rfl) (by first | rfl | (rw [row_size, row_size]) | (simp [row_size]; done)) (row_one _ _) ?_)
    exact bodyPost_ret (results_cell_row rfl _ _ (w.heap.size + 1) 77 _ (0, 0) _ rfl (hr.put _) Try.underlying77 rfl (by rw [row_size]; kernel_rfl)) rfl ⟨rfl, bel_setRow (bel_on hbb hb2 hbb.size) (by omega) _⟩
  case inr.inr.inr.inr.inr.inr.inl.inr =>
    clear hu
    subst h
    have hfin : row 16 (fun q => lfp (eqO x.tr q)) = row 16 (Ct.un 43 p x).tr := row_congr fun q _ => (tr_pl p x q).symm
    have HFIN := Lib.hid hfin; clear hfin
    have hrow2 := fun (o o' : Obj) => (hrow.alloc o).alloc o'
    have cp : ∀ ob, ((w.alloc (.cells #[.pointer (some ⟨b, 0, none⟩)] 85)).alloc ob).cell? ⟨w.heap.size, 0, none⟩ = some (.pointer (some ⟨b, 0, none⟩)) := fun ob => ((RowAt.fresh w 85 #[.pointer (some ⟨b, 0, none⟩)]).alloc ob).get 0
    have r2 := RowAt.fresh1 w (.cells #[.pointer (some ⟨b, 0, none⟩)] 85) 77 (row 16 (fun _ => 0))
    have c0 : ∀ ob, ((w.alloc (.cells #[.pointer (some ⟨b, 0, none⟩)] 85)).alloc ob).cell? ⟨b, 0, none⟩ = some (.int .u8 43) := fun ob => (hrow2 _ ob).get 0
    have c6 : ∀ ob, ((w.alloc (.cells #[.pointer (some ⟨b, 0, none⟩)] 85)).alloc ob).cell? ⟨b, 6, none⟩ = some (.slice (some ⟨g, 0, none⟩) 1 cap) := fun ob => (hrow2 _ ob).get 6
    have cg : ∀ ob, ((w.alloc (.cells #[.pointer (some ⟨b, 0, none⟩)] 85)).alloc ob).cell? ⟨g, 0, none⟩ = some (.pointer (some ⟨b1, 0, none⟩)) := fun ob => (((hkid.alloc _).alloc ob).get 0).trans hk0
    have rn := hrow2 (.cells #[.pointer (some ⟨b, 0, none⟩)] 85) (.cells (row 16 (fun _ => 0)) 77)
    have rp := (RowAt.fresh w 85 #[.pointer (some ⟨b, 0, none⟩)]).alloc (.cells (row 16 (fun _ => 0)) 77)
    clear hrow2 hrow hkid hk0
    go_enter Try.func115, Try.ntmps115
    go_wp2_with fail
    refine (HIH.out _ _ _ (HCT.out.later HS.out (bel_2 w _ _)) HWX.out (fun k hk => by have := HS.out k hk; simp; omega)).mono ?_
    rintro e w1 ⟨rfl, hb1⟩
    have rn1 := (rn.later hb1).alloc (.cells (row 16 x.tr) 77)
    have rp1 := (rp.later hb1).alloc (.cells (row 16 x.tr) 77)
    have rr1 := (r2.later hb1).alloc (.cells (row 16 x.tr) 77)
    have rt1 := RowAt.fresh w1 77 (row 16 x.tr)
    have d0 : (w1.alloc (.cells (row 16 x.tr) 77)).cell? ⟨w.heap.size, 0, none⟩ = some (.pointer (some ⟨b, 0, none⟩)) := rp1.get 0
    have d1 : (w1.alloc (.cells (row 16 x.tr) 77)).cell? ⟨b, 0, none⟩ = some (.int .u8 43) := rn1.get 0
    have hbb := bel_on (bel_2 w (.cells #[.pointer (some ⟨b, 0, none⟩)] 85) (.cells (row 16 (fun _ => 0)) 77)) (bel_on' hb1 (bel_1 w1 (.cells (row 16 x.tr) 77))) (by simp; omega)
    clear rn rp r2 cp c0 c6 cg hb1
    go_wp2_with (refine wpList_store_new rfl 77 _ _ rfl (row 16 x.tr) rfl rfl (by rw [row_size]; kernel_rfl) (by first | rfl | (rw [row_size, row_size]) | (simp [row_size]; done)) (row_one _ _) ?_)
    refine (i_makeTrans _ _ _ (fn_ct3 _ w1.heap.size x.tr HT.out HM.out rt1)).mono ?_
    rw [HFIN.out]
    rintro e w2 ⟨rfl, hb2⟩
    have hr := rr1.later hb2
    go_wp2_with (refine wpList_store_row rfl 77 _ _ rfl (w.heap.size + 1) (row 16 (Ct.un 43 p x).tr) rfl rfl 77 _ hr (by rw [row_size]; kernel_rfl) (by first | rfl | (rw [row_size, row_size]) | (simp [row_size]; done)) (row_one _ _) ?_)
    exact bodyPost_ret (results_cell_row rfl _ _ (w.heap.size + 1) 77 _ (0, 0) _ rfl (hr.put _) Try.underlying77 rfl (by rw [row_size]; kernel_rfl)) rfl ⟨rfl, bel_setRow (bel_on hbb hb2 hbb.size) (by omega) _⟩
  all_goals (subst h; cases hu)
end Go.Proofs.Ytiaeakpgldpaiaa
namespace Go.Proofs.Ytiaeakpgldpaiaa
set_option linter.unusedSimpArgs false
set_option linter.unusedVariables false
set_option maxRecDepth 4000
open Go.RowKit

set_option maxHeartbeats 4000000 in
theorem i_ctBin (op : UInt8) (p : Nat) (x y : Ct) (ihx : IhAt x) (ihy : IhAt y) (b : Nat) (w : World) (S : Nat → Prop) (hct : CtIn w S (.bin op p x y) b) (hwf : (Ct.bin op p x y).wf) (hS : ∀ k, S k → k < w.heap.size) : Calls Try.prog 115 #[.pointer (some ⟨b, 0, none⟩)] w fun e w' => e = .returned (.agg (row 16 (Ct.bin op p x y).tr)) ∧ Below w.heap.size w w' := by
  obtain ⟨_, R, v, tx, g, cap, cur, b1, b2, hrow, rfl, _, hkid, hk0, hk1, hcx, hcy⟩ := hct
  obtain ⟨n, hl, hu, hbn, hp, _, hwx, hwy⟩ := hwf
  have HCX := Lib.hid hcx; have HCY := Lib.hid hcy; have HS := Lib.hid hS; have HWX := Lib.hid hwx; have HWY := Lib.hid hwy
  have HTX := Lib.hid (Ct.tr_bd hwx); have HTY := Lib.hid (Ct.tr_bd hwy)
  have HIX : Hid (∀ (b : Nat) (w : World) (S : Nat → Prop), CtIn w S x b → x.wf → (∀ k, S k → k < w.heap.size) → Calls Try.prog 115 #[.pointer (some ⟨b, 0, none⟩)] w fun e w' => e = .returned (.agg (row 16 x.tr)) ∧ Below w.heap.size w w') := Lib.hid ihx
  have HIY : Hid (∀ (b : Nat) (w : World) (S : Nat → Prop), CtIn w S y b → y.wf → (∀ k, S k → k < w.heap.size) → Calls Try.prog 115 #[.pointer (some ⟨b, 0, none⟩)] w fun e w' => e = .returned (.agg (row 16 y.tr)) ∧ Below w.heap.size w w') := Lib.hid ihy
  clear hcx hcy hS hwx hwy ihx ihy hl hu
  rcases letters op with (h | h | h) | (h | h) | (h | h) | (h | h | h) | h | h | (h | h) | h
  case inr.inr.inr.inr.inr.inr.inr => rw [noLetter_bin h] at hbn; cases hbn
  case inr.inr.inr.inl.inl =>
    clear hbn
    subst h
    have hfin : row 16 (fun q => x.tr (y.tr q)) = row 16 (Ct.bin 59 p x y).tr := row_congr fun q _ => (tr_seq p x y q).symm
    have HFIN := Lib.hid hfin; clear hfin
    have hrow2 := fun (o o' : Obj) => (hrow.alloc o).alloc o'
    have cp : ∀ ob, ((w.alloc (.cells #[.pointer (some ⟨b, 0, none⟩)] 85)).alloc ob).cell? ⟨w.heap.size, 0, none⟩ = some (.pointer (some ⟨b, 0, none⟩)) := fun ob => ((RowAt.fresh w 85 #[.pointer (some ⟨b, 0, none⟩)]).alloc ob).get 0
    have r2 := RowAt.fresh1 w (.cells #[.pointer (some ⟨b, 0, none⟩)] 85) 77 (row 16 (fun _ => 0))
    have c0 : ∀ ob, ((w.alloc (.cells #[.pointer (some ⟨b, 0, none⟩)] 85)).alloc ob).cell? ⟨b, 0, none⟩ = some (.int .u8 59) := fun ob => (hrow2 _ ob).get 0
    have c6 : ∀ ob, ((w.alloc (.cells #[.pointer (some ⟨b, 0, none⟩)] 85)).alloc ob).cell? ⟨b, 6, none⟩ = some (.slice (some ⟨g, 0, none⟩) 2 cap) := fun ob => (hrow2 _ ob).get 6
    have cg : ∀ ob, ((w.alloc (.cells #[.pointer (some ⟨b, 0, none⟩)] 85)).alloc ob).cell? ⟨g, 0, none⟩ = some (.pointer (some ⟨b1, 0, none⟩)) := fun ob => (((hkid.alloc _).alloc ob).get 0).trans hk0
    have rn := hrow2 (.cells #[.pointer (some ⟨b, 0, none⟩)] 85) (.cells (row 16 (fun _ => 0)) 77)
    have rp := (RowAt.fresh w 85 #[.pointer (some ⟨b, 0, none⟩)]).alloc (.cells (row 16 (fun _ => 0)) 77)
    have rk := (hkid.alloc (.cells #[.pointer (some ⟨b, 0, none⟩)] 85)).alloc (.cells (row 16 (fun _ => 0)) 77)
    have HK1 := Lib.hid hk1
    clear hrow2 hrow hkid hk0 hk1
    go_enter Try.func115, Try.ntmps115
    go_wp2_with fail
    refine (HIX.out _ _ _ (HCX.out.later HS.out (bel_2 w _ _)) HWX.out (fun k hk => by have := HS.out k hk; simp; omega)).mono ?_
    rintro e w1 ⟨rfl, hb1⟩
    have rn1 := (rn.later hb1).alloc (.cells (row 16 x.tr) 77)
    have rp1 := (rp.later hb1).alloc (.cells (row 16 x.tr) 77)
    have rr1 := (r2.later hb1).alloc (.cells (row 16 x.tr) 77)
    have rk1 := (rk.later hb1).alloc (.cells (row 16 x.tr) 77)
    have rt1 := RowAt.fresh w1 77 (row 16 x.tr)
    have d0 : (w1.alloc (.cells (row 16 x.tr) 77)).cell? ⟨w.heap.size, 0, none⟩ = some (.pointer (some ⟨b, 0, none⟩)) := rp1.get 0
    have d1 : (w1.alloc (.cells (row 16 x.tr) 77)).cell? ⟨b, 0, none⟩ = some (.int .u8 59) := rn1.get 0
    have d6 : (w1.alloc (.cells (row 16 x.tr) 77)).cell? ⟨b, 6, none⟩ = some (.slice (some ⟨g, 0, none⟩) 2 cap) := rn1.get 6
    have dg : (w1.alloc (.cells (row 16 x.tr) 77)).cell? ⟨g, 1, none⟩ = some (.pointer (some ⟨b2, 0, none⟩)) := (rk1.get 1).trans HK1.out
    have hbb := bel_on (bel_2 w (.cells #[.pointer (some ⟨b, 0, none⟩)] 85) (.cells (row 16 (fun _ => 0)) 77)) (bel_on' hb1 (bel_1 w1 (.cells (row 16 x.tr) 77))) (by simp; omega)
    have hct2 := HCY.out.later HS.out hbb
    have hS2 : ∀ k, S k → k < (w1.alloc (.cells (row 16 x.tr) 77)).heap.size := fun k hk => by have := HS.out k hk; have := hbb.size; omega
    have HCT2 := Lib.hid hct2; have HS2 := Lib.hid hS2
    clear rn rp rk r2 cp c0 c6 cg hb1 hct2 hS2
    go_wp2_with (refine wpList_store_new rfl 77 _ _ rfl (row 16 x.tr) rfl rfl (by rw [row_size]; kernel_rfl) (by first | rfl | (rw [row_size, row_size]) | (simp [row_size]; done)) (row_one _ _) ?_)
    refine (HIY.out _ _ _ HCT2.out HWY.out HS2.out).mono ?_
    rintro e w2 ⟨rfl, hb2⟩
    have rn2 := (rn1.later hb2).alloc (.cells (row 16 y.tr) 77)
    have rp2 := (rp1.later hb2).alloc (.cells (row 16 y.tr) 77)
    have rr2 := (rr1.later hb2).alloc (.cells (row 16 y.tr) 77)
    have rt2 := (rt1.later hb2).alloc (.cells (row 16 y.tr) 77)
    have ru2 := RowAt.fresh w2 77 (row 16 y.tr)
    have g0 : (w2.alloc (.cells (row 16 y.tr) 77)).cell? ⟨w.heap.size, 0, none⟩ = some (.pointer (some ⟨b, 0, none⟩)) := rp2.get 0
    have g1 : (w2.alloc (.cells (row 16 y.tr) 77)).cell? ⟨b, 0, none⟩ = some (.int .u8 59) := rn2.get 0
    have hbc := bel_on' (bel_on hbb hb2 hbb.size) (bel_1 w2 (.cells (row 16 y.tr) 77))
    clear rn1 rp1 rr1 rk1 rt1 d0 d1 d6 dg hb2 hbb
    go_wp2_with (first | (refine wpList_store_new rfl 77 _ _ rfl (row 16 y.tr) rfl rfl (by rw [row_size]; kernel_rfl) (by first | rfl | (rw [row_size, row_size]) | (simp [row_size]; done)) (row_one _ _) ?_) | (refine wpList_load_row rfl 77 _ rfl (w1.heap.size) rfl 77 (row 16 x.tr) (0, 0) _ rt2 Try.underlying77 rfl (by rw [row_size]; kernel_rfl) ?_) | (refine wpList_load_row rfl 77 _ rfl (w2.heap.size) rfl 77 (row 16 y.tr) (0, 0) _ ru2 Try.underlying77 rfl (by rw [row_size]; kernel_rfl) ?_))
    refine (i_then x.tr y.tr _ HTY.out).mono ?_
    rw [HFIN.out]
    rintro e w3 ⟨rfl, hb3⟩
    have hr := rr2.later hb3
    go_wp2_with (refine wpList_store_row rfl 77 _ _ rfl (w.heap.size + 1) (row 16 (Ct.bin 59 p x y).tr) rfl rfl 77 _ hr (by rw [row_size]; kernel_rfl) (by first | rfl | (rw [row_size, row_size]) | (simp [row_size]; done)) (row_one _ _) ?_)
    exact bodyPost_ret (results_cell_row rfl _ _ (w.heap.size + 1) 77 _ (0, 0) _ rfl (hr.put _) Try.underlying77 rfl (by rw [row_size]; kernel_rfl)) rfl ⟨rfl, bel_setRow (bel_on hbc hb3 hbc.size) (by omega) _⟩
  case inr.inr.inr.inl.inr.inl =>
    clear hbn
    subst h
    have hfin : row 16 (fun q => x.tr q &&& y.tr q) = row 16 (Ct.bin 38 p x y).tr := row_congr fun q _ => (tr_and p x y q).symm
    have HFIN := Lib.hid hfin; clear hfin
    have hrow2 := fun (o o' : Obj) => (hrow.alloc o).alloc o'
    have cp : ∀ ob, ((w.alloc (.cells #[.pointer (some ⟨b, 0, none⟩)] 85)).alloc ob).cell? ⟨w.heap.size, 0, none⟩ = some (.pointer (some ⟨b, 0, none⟩)) := fun ob => ((RowAt.fresh w 85 #[.pointer (some ⟨b, 0, none⟩)]).alloc ob).get 0
    have r2 := RowAt.fresh1 w (.cells #[.pointer (some ⟨b, 0, none⟩)] 85) 77 (row 16 (fun _ => 0))
    have c0 : ∀ ob, ((w.alloc (.cells #[.pointer (some ⟨b, 0, none⟩)] 85)).alloc ob).cell? ⟨b, 0, none⟩ = some (.int .u8 38) := fun ob => (hrow2 _ ob).get 0
    have c6 : ∀ ob, ((w.alloc (.cells #[.pointer (some ⟨b, 0, none⟩)] 85)).alloc ob).cell? ⟨b, 6, none⟩ = some (.slice (some ⟨g, 0, none⟩) 2 cap) := fun ob => (hrow2 _ ob).get 6
    have cg : ∀ ob, ((w.alloc (.cells #[.pointer (some ⟨b, 0, none⟩)] 85)).alloc ob).cell? ⟨g, 0, none⟩ = some (.pointer (some ⟨b1, 0, none⟩)) := fun ob => (((hkid.alloc _).alloc ob).get 0).trans hk0
    have rn := hrow2 (.cells #[.pointer (some ⟨b, 0, none⟩)] 85) (.cells (row 16 (fun _ => 0)) 77)
    have rp := (RowAt.fresh w 85 #[.pointer (some ⟨b, 0, none⟩)]).alloc (.cells (row 16 (fun _ => 0)) 77)
    have rk := (hkid.alloc (.cells #[.pointer (some ⟨b, 0, none⟩)] 85)).alloc (.cells (row 16 (fun _ => 0)) 77)
    have HK1 := Lib.hid hk1
    clear hrow2 hrow hkid hk0 hk1
    go_enter Try.func115, Try.ntmps115
    go_wp2_with fail
    refine (HIX.out _ _ _ (HCX.out.later HS.out (bel_2 w _ _)) HWX.out (fun k hk => by have := HS.out k hk; simp; omega)).mono ?_
    rintro e w1 ⟨rfl, hb1⟩
    have rn1 := (rn.later hb1).alloc (.cells (row 16 x.tr) 77)
    have rp1 := (rp.later hb1).alloc (.cells (row 16 x.tr) 77)
    have rr1 := (r2.later hb1).alloc (.cells (row 16 x.tr) 77)
    have rk1 := (rk.later hb1).alloc (.cells (row 16 x.tr) 77)
    have rt1 := RowAt.fresh w1 77 (row 16 x.tr)
    have d0 : (w1.alloc (.cells (row 16 x.tr) 77)).cell? ⟨w.heap.size, 0, none⟩ = some (.pointer (some ⟨b, 0, none⟩)) := rp1.get 0
    have d1 : (w1.alloc (.cells (row 16 x.tr) 77)).cell? ⟨b, 0, none⟩ = some (.int .u8 38) := rn1.get 0
    have d6 : (w1.alloc (.cells (row 16 x.tr) 77)).cell? ⟨b, 6, none⟩ = some (.slice (some ⟨g, 0, none⟩) 2 cap) := rn1.get 6
    have dg : (w1.alloc (.cells (row 16 x.tr) 77)).cell? ⟨g, 1, none⟩ = some (.pointer (some ⟨b2, 0, none⟩)) := (rk1.get 1).trans HK1.out
    have hbb := bel_on (bel_2 w (.cells #[.pointer (some ⟨b, 0, none⟩)] 85) (.cells (row 16 (fun _ => 0)) 77)) (bel_on' hb1 (bel_1 w1 (.cells (row 16 x.tr) 77))) (by simp; omega)
    have hct2 := HCY.out.later HS.out hbb
    have hS2 : ∀ k, S k → k < (w1.alloc (.cells (row 16 x.tr) 77)).heap.size := fun k hk => by have := HS.out k hk; have := hbb.size; omega
    have HCT2 := Lib.hid hct2; have HS2 := Lib.hid hS2
    clear rn rp rk r2 cp c0 c6 cg hb1 hct2 hS2
    go_wp2_with (refine wpList_store_new rfl 77 _ _ rfl (row 16 x.tr) rfl rfl (by rw [row_size]; kernel_rfl) (by first | rfl | (rw [row_size, row_size]) | (simp [row_size]; done)) (row_one _ _) ?_)
    refine (HIY.out _ _ _ HCT2.out HWY.out HS2.out).mono ?_
    rintro e w2 ⟨rfl, hb2⟩
    have rn2 := (rn1.later hb2).alloc (.cells (row 16 y.tr) 77)
    have rp2 := (rp1.later hb2).alloc (.cells (row 16 y.tr) 77)
    have rr2 := (rr1.later hb2).alloc (.cells (row 16 y.tr) 77)
    have rt2 := (rt1.later hb2).alloc (.cells (row 16 y.tr) 77)
    have ru2 := RowAt.fresh w2 77 (row 16 y.tr)
    have g0 : (w2.alloc (.cells (row 16 y.tr) 77)).cell? ⟨w.heap.size, 0, none⟩ = some (.pointer (some ⟨b, 0, none⟩)) := rp2.get 0
    have g1 : (w2.alloc (.cells (row 16 y.tr) 77)).cell? ⟨b, 0, none⟩ = some (.int .u8 38) := rn2.get 0
    have hbc := bel_on' (bel_on hbb hb2 hbb.size) (bel_1 w2 (.cells (row 16 y.tr) 77))
    clear rn1 rp1 rr1 rk1 rt1 d0 d1 d6 dg hb2 hbb
    go_wp2_with (first | (refine wpList_store_new rfl 77 _ _ rfl (row 16 y.tr) rfl rfl (by rw [row_size]; kernel_rfl) (by first | rfl | (rw [row_size, row_size]) | (simp [row_size]; done)) (row_one _ _) ?_) | (refine wpList_load_row rfl 77 _ rfl (w1.heap.size) rfl 77 (row 16 x.tr) (0, 0) _ rt2 Try.underlying77 rfl (by rw [row_size]; kernel_rfl) ?_) | (refine wpList_load_row rfl 77 _ rfl (w2.heap.size) rfl 77 (row 16 y.tr) (0, 0) _ ru2 Try.underlying77 rfl (by rw [row_size]; kernel_rfl) ?_))
    refine (i_meet x.tr y.tr _ HTX.out HTY.out).mono ?_
    rw [HFIN.out]
    rintro e w3 ⟨rfl, hb3⟩
    have hr := rr2.later hb3
    go_wp2_with (refine wpList_store_row rfl 77 _ _ rfl (w.heap.size + 1) (row 16 (Ct.bin 38 p x y).tr) rfl rfl 77 _ hr (by rw [row_size]; kernel_rfl) (by first | rfl | (rw [row_size, row_size]) | (simp [row_size]; done)) (row_one _ _) ?_)
    exact bodyPost_ret (results_cell_row rfl _ _ (w.heap.size + 1) 77 _ (0, 0) _ rfl (hr.put _) Try.underlying77 rfl (by rw [row_size]; kernel_rfl)) rfl ⟨rfl, bel_setRow (bel_on hbc hb3 hbc.size) (by omega) _⟩
  case inr.inr.inr.inl.inr.inr =>
    clear hbn
    subst h
    have hfin : row 16 (fun q => x.tr q ||| y.tr q) = row 16 (Ct.bin 124 p x y).tr := row_congr fun q _ => (tr_or p x y q).symm
    have HFIN := Lib.hid hfin; clear hfin
    have hrow2 := fun (o o' : Obj) => (hrow.alloc o).alloc o'
    have cp : ∀ ob, ((w.alloc (.cells #[.pointer (some ⟨b, 0, none⟩)] 85)).alloc ob).cell? ⟨w.heap.size, 0, none⟩ = some (.pointer (some ⟨b, 0, none⟩)) := fun ob => ((RowAt.fresh w 85 #[.pointer (some ⟨b, 0, none⟩)]).alloc ob).get 0
    have r2 := RowAt.fresh1 w (.cells #[.pointer (some ⟨b, 0, none⟩)] 85) 77 (row 16 (fun _ => 0))
    have c0 : ∀ ob, ((w.alloc (.cells #[.pointer (some ⟨b, 0, none⟩)] 85)).alloc ob).cell? ⟨b, 0, none⟩ = some (.int .u8 124) := fun ob => (hrow2 _ ob).get 0
    have c6 : ∀ ob, ((w.alloc (.cells #[.pointer (some ⟨b, 0, none⟩)] 85)).alloc ob).cell? ⟨b, 6, none⟩ = some (.slice (some ⟨g, 0, none⟩) 2 cap) := fun ob => (hrow2 _ ob).get 6
    have cg : ∀ ob, ((w.alloc (.cells #[.pointer (some ⟨b, 0, none⟩)] 85)).alloc ob).cell? ⟨g, 0, none⟩ = some (.pointer (some ⟨b1, 0, none⟩)) := fun ob => (((hkid.alloc _).alloc ob).get 0).trans hk0
    have rn := hrow2 (.cells #[.pointer (some ⟨b, 0, none⟩)] 85) (.cells (row 16 (fun _ => 0)) 77)
    have rp := (RowAt.fresh w 85 #[.pointer (some ⟨b, 0, none⟩)]).alloc (.cells (row 16 (fun _ => 0)) 77)
    have rk := (hkid.alloc (.cells #[.pointer (some ⟨b, 0, none⟩)] 85)).alloc (.cells (row 16 (fun _ => 0)) 77)
    have HK1 := Lib.hid hk1
    clear hrow2 hrow hkid hk0 hk1
    go_enter Try.func115, Try.ntmps115
    go_wp2_with fail
    refine (HIX.out _ _ _ (HCX.out.later HS.out (bel_2 w _ _)) HWX.out (fun k hk => by have := HS.out k hk; simp; omega)).mono ?_
    rintro e w1 ⟨rfl, hb1⟩
    have rn1 := (rn.later hb1).alloc (.cells (row 16 x.tr) 77)
    have rp1 := (rp.later hb1).alloc (.cells (row 16 x.tr) 77)
    have rr1 := (r2.later hb1).alloc (.cells (row 16 x.tr) 77)
    have rk1 := (rk.later hb1).alloc (.cells (row 16 x.tr) 77)
    have rt1 := RowAt.fresh w1 77 (row 16 x.tr)
    have d0 : (w1.alloc (.cells (row 16 x.tr) 77)).cell? ⟨w.heap.size, 0, none⟩ = some (.pointer (some ⟨b, 0, none⟩)) := rp1.get 0
    have d1 : (w1.alloc (.cells (row 16 x.tr) 77)).cell? ⟨b, 0, none⟩ = some (.int .u8 124) := rn1.get 0
    have d6 : (w1.alloc (.cells (row 16 x.tr) 77)).cell? ⟨b, 6, none⟩ = some (.slice (some ⟨g, 0, none⟩) 2 cap) := rn1.get 6
    have dg : (w1.alloc (.cells (row 16 x.tr) 77)).cell? ⟨g, 1, none⟩ = some (.pointer (some ⟨b2, 0, none⟩)) := (rk1.get 1).trans HK1.out
    have hbb := bel_on (bel_2 w (.cells #[.pointer (some ⟨b, 0, none⟩)] 85) (.cells (row 16 (fun _ => 0)) 77)) (bel_on' hb1 (bel_1 w1 (.cells (row 16 x.tr) 77))) (by simp; omega)
    have hct2 := HCY.out.later HS.out hbb
    have hS2 : ∀ k, S k → k < (w1.alloc (.cells (row 16 x.tr) 77)).heap.size := fun k hk => by have := HS.out k hk; have := hbb.size; omega
    have HCT2 := Lib.hid hct2; have HS2 := Lib.hid hS2
    clear rn rp rk r2 cp c0 c6 cg hb1 hct2 hS2
    go_wp2_with (refine wpList_store_new rfl 77 _ _ rfl (row 16 x.tr) rfl rfl (by rw [row_size]; kernel_rfl) (by first | rfl | (rw [row_size, row_size]) | (simp [row_size]; done)) (row_one _ _) ?_)
    refine (HIY.out _ _ _ HCT2.out HWY.out HS2.out).mono ?_
    rintro e w2 ⟨rfl, hb2⟩
    have rn2 := (rn1.later hb2).alloc (.cells (row 16 y.tr) 77)
    have rp2 := (rp1.later hb2).alloc (.cells (row 16 y.tr) 77)
    have rr2 := (rr1.later hb2).alloc (.cells (row 16 y.tr) 77)
    have rt2 := (rt1.later hb2).alloc (.cells (row 16 y.tr) 77)
    have ru2 := RowAt.fresh w2 77 (row 16 y.tr)
    have g0 : (w2.alloc (.cells (row 16 y.tr) 77)).cell? ⟨w.heap.size, 0, none⟩ = some (.pointer (some ⟨b, 0, none⟩)) := rp2.get 0
    have g1 : (w2.alloc (.cells (row 16 y.tr) 77)).cell? ⟨b, 0, none⟩ = some (.int .u8 124) := rn2.get 0
    have hbc := bel_on' (bel_on hbb hb2 hbb.size) (bel_1 w2 (.cells (row 16 y.tr) 77))
    clear rn1 rp1 rr1 rk1 rt1 d0 d1 d6 dg hb2 hbb
    go_wp2_with (first | (refine wpList_store_new rfl 77 _ _ rfl (row 16 y.tr) rfl rfl (by rw [row_size]; kernel_rfl) (by first | rfl | (rw [row_size, row_size]) | (simp [row_size]; done)) (row_one _ _) ?_) | (refine wpList_load_row rfl 77 _ rfl (w1.heap.size) rfl 77 (row 16 x.tr) (0, 0) _ rt2 Try.underlying77 rfl (by rw [row_size]; kernel_rfl) ?_) | (refine wpList_load_row rfl 77 _ rfl (w2.heap.size) rfl 77 (row 16 y.tr) (0, 0) _ ru2 Try.underlying77 rfl (by rw [row_size]; kernel_rfl) ?_))
    refine (i_join x.tr y.tr _ HTX.out HTY.out).mono ?_
    rw [HFIN.out]
    rintro e w3 ⟨rfl, hb3⟩
    have hr := rr2.later hb3
    go_wp2_with (refine wpList_store_row rfl 77 _ _ rfl (w.heap.size + 1) (row 16 (Ct.bin 124 p x y).tr) rfl rfl 77 _ hr (by rw [row_size]; kernel_rfl) (by first | rfl | (rw [row_size, row_size]) | (simp [row_size]; done)) (row_one _ _) ?_)
    exact bodyPost_ret (results_cell_row rfl _ _ (w.heap.size + 1) 77 _ (0, 0) _ rfl (hr.put _) Try.underlying77 rfl (by rw [row_size]; kernel_rfl)) rfl ⟨rfl, bel_setRow (bel_on hbc hb3 hbc.size) (by omega) _⟩
  case inr.inr.inr.inr.inl =>
    clear hbn
    subst h
    have hfin : row 16 (fun q => turn p (x.tr q) (y.tr q)) = row 16 (Ct.bin 105 p x y).tr := row_congr fun q _ => (tr_if p x y q).symm
    have HFIN := Lib.hid hfin; clear hfin
    have hrow2 := fun (o o' : Obj) => (hrow.alloc o).alloc o'
    have cp : ∀ ob, ((w.alloc (.cells #[.pointer (some ⟨b, 0, none⟩)] 85)).alloc ob).cell? ⟨w.heap.size, 0, none⟩ = some (.pointer (some ⟨b, 0, none⟩)) := fun ob => ((RowAt.fresh w 85 #[.pointer (some ⟨b, 0, none⟩)]).alloc ob).get 0
    have r2 := RowAt.fresh1 w (.cells #[.pointer (some ⟨b, 0, none⟩)] 85) 77 (row 16 (fun _ => 0))
    have c0 : ∀ ob, ((w.alloc (.cells #[.pointer (some ⟨b, 0, none⟩)] 85)).alloc ob).cell? ⟨b, 0, none⟩ = some (.int .u8 105) := fun ob => (hrow2 _ ob).get 0
    have c6 : ∀ ob, ((w.alloc (.cells #[.pointer (some ⟨b, 0, none⟩)] 85)).alloc ob).cell? ⟨b, 6, none⟩ = some (.slice (some ⟨g, 0, none⟩) 2 cap) := fun ob => (hrow2 _ ob).get 6
    have cg : ∀ ob, ((w.alloc (.cells #[.pointer (some ⟨b, 0, none⟩)] 85)).alloc ob).cell? ⟨g, 0, none⟩ = some (.pointer (some ⟨b1, 0, none⟩)) := fun ob => (((hkid.alloc _).alloc ob).get 0).trans hk0
    have rn := hrow2 (.cells #[.pointer (some ⟨b, 0, none⟩)] 85) (.cells (row 16 (fun _ => 0)) 77)
    have rp := (RowAt.fresh w 85 #[.pointer (some ⟨b, 0, none⟩)]).alloc (.cells (row 16 (fun _ => 0)) 77)
    have rk := (hkid.alloc (.cells #[.pointer (some ⟨b, 0, none⟩)] 85)).alloc (.cells (row 16 (fun _ => 0)) 77)
    have HK1 := Lib.hid hk1
    clear hrow2 hrow hkid hk0 hk1
    go_enter Try.func115, Try.ntmps115
    go_wp2_with fail
    refine (HIX.out _ _ _ (HCX.out.later HS.out (bel_2 w _ _)) HWX.out (fun k hk => by have := HS.out k hk; simp; omega)).mono ?_
    rintro e w1 ⟨rfl, hb1⟩
    have rn1 := (rn.later hb1).alloc (.cells (row 16 x.tr) 77)
    have rp1 := (rp.later hb1).alloc (.cells (row 16 x.tr) 77)
    have rr1 := (r2.later hb1).alloc (.cells (row 16 x.tr) 77)
    have rk1 := (rk.later hb1).alloc (.cells (row 16 x.tr) 77)
    have rt1 := RowAt.fresh w1 77 (row 16 x.tr)
    have d0 : (w1.alloc (.cells (row 16 x.tr) 77)).cell? ⟨w.heap.size, 0, none⟩ = some (.pointer (some ⟨b, 0, none⟩)) := rp1.get 0
    have d1 : (w1.alloc (.cells (row 16 x.tr) 77)).cell? ⟨b, 0, none⟩ = some (.int .u8 105) := rn1.get 0
    have d6 : (w1.alloc (.cells (row 16 x.tr) 77)).cell? ⟨b, 6, none⟩ = some (.slice (some ⟨g, 0, none⟩) 2 cap) := rn1.get 6
    have dg : (w1.alloc (.cells (row 16 x.tr) 77)).cell? ⟨g, 1, none⟩ = some (.pointer (some ⟨b2, 0, none⟩)) := (rk1.get 1).trans HK1.out
    have hbb := bel_on (bel_2 w (.cells #[.pointer (some ⟨b, 0, none⟩)] 85) (.cells (row 16 (fun _ => 0)) 77)) (bel_on' hb1 (bel_1 w1 (.cells (row 16 x.tr) 77))) (by simp; omega)
    have hct2 := HCY.out.later HS.out hbb
    have hS2 : ∀ k, S k → k < (w1.alloc (.cells (row 16 x.tr) 77)).heap.size := fun k hk => by have := HS.out k hk; have := hbb.size; omega
    have HCT2 := Lib.hid hct2; have HS2 := Lib.hid hS2
    clear rn rp rk r2 cp c0 c6 cg hb1 hct2 hS2
    go_wp2_with (refine wpList_store_new rfl 77 _ _ rfl (row 16 x.tr) rfl rfl (by rw [row_size]; kernel_rfl) (by first | rfl | (rw [row_size, row_size]) | (simp [row_size]; done)) (row_one _ _) ?_)
    refine (HIY.out _ _ _ HCT2.out HWY.out HS2.out).mono ?_
    rintro e w2 ⟨rfl, hb2⟩
    have rn2 := (rn1.later hb2).alloc (.cells (row 16 y.tr) 77)
    have rp2 := (rp1.later hb2).alloc (.cells (row 16 y.tr) 77)
    have rr2 := (rr1.later hb2).alloc (.cells (row 16 y.tr) 77)
    have rt2 := (rt1.later hb2).alloc (.cells (row 16 y.tr) 77)
    have ru2 := RowAt.fresh w2 77 (row 16 y.tr)
    have g0 : (w2.alloc (.cells (row 16 y.tr) 77)).cell? ⟨w.heap.size, 0, none⟩ = some (.pointer (some ⟨b, 0, none⟩)) := rp2.get 0
    have g1 : (w2.alloc (.cells (row 16 y.tr) 77)).cell? ⟨b, 0, none⟩ = some (.int .u8 105) := rn2.get 0
    have hbc := bel_on' (bel_on hbb hb2 hbb.size) (bel_1 w2 (.cells (row 16 y.tr) 77))
    clear rn1 rp1 rr1 rk1 rt1 d0 d1 d6 dg hb2 hbb
    go_wp2_with (first | (refine wpList_store_new rfl 77 _ _ rfl (row 16 y.tr) rfl rfl (by rw [row_size]; kernel_rfl) (by first | rfl | (rw [row_size, row_size]) | (simp [row_size]; done)) (row_one _ _) ?_))
    refine (i_makeTrans _ _ _ (fn_ct4 _ w.heap.size b w1.heap.size w2.heap.size 105 p R (.slice (some ⟨g, 0, none⟩) 2 cap) tx x.tr y.tr HTX.out HTY.out hp rp2 rn2 rt2 ru2)).mono ?_
    rw [HFIN.out]
    rintro e w3 ⟨rfl, hb3⟩
    have hr := rr2.later hb3
    go_wp2_with (refine wpList_store_row rfl 77 _ _ rfl (w.heap.size + 1) (row 16 (Ct.bin 105 p x y).tr) rfl rfl 77 _ hr (by rw [row_size]; kernel_rfl) (by first | rfl | (rw [row_size, row_size]) | (simp [row_size]; done)) (row_one _ _) ?_)
    exact bodyPost_ret (results_cell_row rfl _ _ (w.heap.size + 1) 77 _ (0, 0) _ rfl (hr.put _) Try.underlying77 rfl (by rw [row_size]; kernel_rfl)) rfl ⟨rfl, bel_setRow (bel_on hbc hb3 hbc.size) (by omega) _⟩
  all_goals (subst h; cases hbn)
theorem i_ctTrans : ∀ (x : Ct), IhAt x
  | .leaf op F => fun b w S h hwf _ => i_ctLeaf op F b w S h hwf
  | .un op p x => fun b w S h hwf hS => i_ctUn op p x (i_ctTrans x) b w S h hwf hS
  | .bin op p x y => fun b w S h hwf hS => i_ctBin op p x y (i_ctTrans x) (i_ctTrans y) b w S h hwf hS
end Go.Proofs.Ytiaeakpgldpaiaa
