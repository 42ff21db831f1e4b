/- The program's transformers of contracts with parts. -/
import Derived.Test.YtjbfebjdegabaaaImplU
namespace Go.Proofs.Ytjbfebjdegabaaa
set_option linter.unusedSimpArgs false
set_option linter.unusedVariables false
set_option maxRecDepth 4000
open Go.RowKit

theorem tr_w (p : Nat) (x : Ct) (q : Nat) : (Ct.un 119 p x).tr q = lfp (eqW p x.tr q) := by rw [Ct.tr]; rfl
theorem tr_st (p : Nat) (x : Ct) (q : Nat) : (Ct.un 42 p x).tr q = lfp (eqA x.tr q) := by rw [Ct.tr]; rfl
theorem tr_pl (p : Nat) (x : Ct) (q : Nat) : (Ct.un 43 p x).tr q = lfp (eqO x.tr q) := by rw [Ct.tr]; rfl
def IhAt (x : Ct) : Prop := ∀ (b : Nat) (w : World) (S : Nat → Prop), CtIn w S x b → x.wf → (∀ k, S k → k < w.heap.size) → Calls Try.prog 101 #[.pointer (some ⟨b, 0, none⟩)] w fun e w' => e = .returned (.agg (row 16 x.tr)) ∧ Below w.heap.size w w'
set_option maxHeartbeats 2000000 in
theorem i_ctUn (op : UInt8) (p : Nat) (x : Ct) (ih : IhAt x) (b : Nat) (w : World) (S : Nat → Prop) (hct : CtIn w S (.un op p x) b) (hwf : (Ct.un op p x).wf) (hS : ∀ k, S k → k < w.heap.size) : Calls Try.prog 101 #[.pointer (some ⟨b, 0, none⟩)] w fun e w' => e = .returned (.agg (row 16 (Ct.un op p x).tr)) ∧ Below w.heap.size w w' := by
  obtain ⟨_, R, v, tx, g, cap, cur, b1, hrow, rfl, _, hkid, hk0, hcx⟩ := hct
  obtain ⟨n, hl, hu, hp, _, hwx⟩ := hwf
  have hT := Ct.tr_bd hwx
  have hm := Ct.tr_mono hwx
  have HCT := Lib.hid hcx; have HS := Lib.hid hS; have HWX := Lib.hid hwx; have HT := Lib.hid hT; have HM := Lib.hid hm
  have HIH : Hid (∀ (b : Nat) (w : World) (S : Nat → Prop), CtIn w S x b → x.wf → (∀ k, S k → k < w.heap.size) → Calls Try.prog 101 #[.pointer (some ⟨b, 0, none⟩)] w fun e w' => e = .returned (.agg (row 16 x.tr)) ∧ Below w.heap.size w w') := Lib.hid ih
  clear hcx hS hwx hT hm ih hl
  rcases letters op with (h | h | h) | (h | h) | (h | h) | (h | h | h) | h | h | (h | h) | h
  case inr.inr.inr.inr.inr.inr.inr => rw [noLetter_un h] at hu; cases hu
  case inr.inr.inr.inr.inr.inl =>
    clear hu
    subst h
    have hfin : row 16 (fun q => lfp (eqW p x.tr q)) = row 16 (Ct.un 119 p x).tr := row_congr fun q _ => (tr_w p x q).symm
    have HFIN := Lib.hid hfin; clear hfin
    have hrow2 := fun (o o' : Obj) => (hrow.alloc o).alloc o'
    have cp : ∀ ob, ((w.alloc (.cells #[.pointer (some ⟨b, 0, none⟩)] 81)).alloc ob).cell? ⟨w.heap.size, 0, none⟩ = some (.pointer (some ⟨b, 0, none⟩)) := fun ob => ((RowAt.fresh w 81 #[.pointer (some ⟨b, 0, none⟩)]).alloc ob).get 0
    have r2 := RowAt.fresh1 w (.cells #[.pointer (some ⟨b, 0, none⟩)] 81) 68 (row 16 (fun _ => 0))
    have c0 : ∀ ob, ((w.alloc (.cells #[.pointer (some ⟨b, 0, none⟩)] 81)).alloc ob).cell? ⟨b, 0, none⟩ = some (.int .u8 119) := fun ob => (hrow2 _ ob).get 0
    have c6 : ∀ ob, ((w.alloc (.cells #[.pointer (some ⟨b, 0, none⟩)] 81)).alloc ob).cell? ⟨b, 6, none⟩ = some (.slice (some ⟨g, 0, none⟩) 1 cap) := fun ob => (hrow2 _ ob).get 6
    have cg : ∀ ob, ((w.alloc (.cells #[.pointer (some ⟨b, 0, none⟩)] 81)).alloc ob).cell? ⟨g, 0, none⟩ = some (.pointer (some ⟨b1, 0, none⟩)) := fun ob => (((hkid.alloc _).alloc ob).get 0).trans hk0
    have rn := hrow2 (.cells #[.pointer (some ⟨b, 0, none⟩)] 81) (.cells (row 16 (fun _ => 0)) 68)
    have rp := (RowAt.fresh w 81 #[.pointer (some ⟨b, 0, none⟩)]).alloc (.cells (row 16 (fun _ => 0)) 68)
    clear hrow2 hrow hkid hk0
    go_enter Try.func101, Try.ntmps101
    go_wp2_with fail
    refine (HIH.out _ _ _ (HCT.out.later HS.out (bel_2 w _ _)) HWX.out (fun k hk => by have := HS.out k hk; simp; omega)).mono ?_
    rintro e w1 ⟨rfl, hb1⟩
    have rn1 := (rn.later hb1).alloc (.cells (row 16 x.tr) 68)
    have rp1 := (rp.later hb1).alloc (.cells (row 16 x.tr) 68)
    have rr1 := (r2.later hb1).alloc (.cells (row 16 x.tr) 68)
    have rt1 := RowAt.fresh w1 68 (row 16 x.tr)
    have d0 : (w1.alloc (.cells (row 16 x.tr) 68)).cell? ⟨w.heap.size, 0, none⟩ = some (.pointer (some ⟨b, 0, none⟩)) := rp1.get 0
    have d1 : (w1.alloc (.cells (row 16 x.tr) 68)).cell? ⟨b, 0, none⟩ = some (.int .u8 119) := rn1.get 0
    have hbb := bel_on (bel_2 w (.cells #[.pointer (some ⟨b, 0, none⟩)] 81) (.cells (row 16 (fun _ => 0)) 68)) (bel_on' hb1 (bel_1 w1 (.cells (row 16 x.tr) 68))) (by simp; omega)
    clear rn rp r2 cp c0 c6 cg hb1
    go_wp2_with (refine wpList_store_new rfl 68 _ _ rfl (row 16 x.tr) rfl rfl (by rw [row_size]; kernel_rfl) (by first | rfl | (rw [row_size, row_size]) | (simp [row_size]; done)) (row_one _ _) ?_)
    refine (i_makeTrans _ _ _ (fn_ct1 _ w.heap.size b w1.heap.size 119 p R (.slice (some ⟨g, 0, none⟩) 1 cap) tx x.tr HT.out HM.out hp rp1 rn1 rt1)).mono ?_
    rw [HFIN.out]
    rintro e w2 ⟨rfl, hb2⟩
    have hr := rr1.later hb2
    go_wp2_with (refine wpList_store_row rfl 68 _ _ rfl (w.heap.size + 1) (row 16 (Ct.un 119 p x).tr) rfl rfl 68 _ hr (by rw [row_size]; kernel_rfl) (by first | rfl | (rw [row_size, row_size]) | (simp [row_size]; done)) (row_one _ _) ?_)
    exact bodyPost_ret (results_cell_row rfl _ _ (w.heap.size + 1) 68 _ (0, 0) _ rfl (hr.put _) Try.underlying68 rfl (by rw [row_size]; kernel_rfl)) rfl ⟨rfl, bel_setRow (bel_on hbb hb2 hbb.size) (by omega) _⟩
  case inr.inr.inr.inr.inr.inr.inl.inl =>
    clear hu
    subst h
    have hfin : row 16 (fun q => lfp (eqA x.tr q)) = row 16 (Ct.un 42 p x).tr := row_congr fun q _ => (tr_st p x q).symm
    have HFIN := Lib.hid hfin; clear hfin
    have hrow2 := fun (o o' : Obj) => (hrow.alloc o).alloc o'
    have cp : ∀ ob, ((w.alloc (.cells #[.pointer (some ⟨b, 0, none⟩)] 81)).alloc ob).cell? ⟨w.heap.size, 0, none⟩ = some (.pointer (some ⟨b, 0, none⟩)) := fun ob => ((RowAt.fresh w 81 #[.pointer (some ⟨b, 0, none⟩)]).alloc ob).get 0
    have r2 := RowAt.fresh1 w (.cells #[.pointer (some ⟨b, 0, none⟩)] 81) 68 (row 16 (fun _ => 0))
    have c0 : ∀ ob, ((w.alloc (.cells #[.pointer (some ⟨b, 0, none⟩)] 81)).alloc ob).cell? ⟨b, 0, none⟩ = some (.int .u8 42) := fun ob => (hrow2 _ ob).get 0
    have c6 : ∀ ob, ((w.alloc (.cells #[.pointer (some ⟨b, 0, none⟩)] 81)).alloc ob).cell? ⟨b, 6, none⟩ = some (.slice (some ⟨g, 0, none⟩) 1 cap) := fun ob => (hrow2 _ ob).get 6
    have cg : ∀ ob, ((w.alloc (.cells #[.pointer (some ⟨b, 0, none⟩)] 81)).alloc ob).cell? ⟨g, 0, none⟩ = some (.pointer (some ⟨b1, 0, none⟩)) := fun ob => (((hkid.alloc _).alloc ob).get 0).trans hk0
    have rn := hrow2 (.cells #[.pointer (some ⟨b, 0, none⟩)] 81) (.cells (row 16 (fun _ => 0)) 68)
    have rp := (RowAt.fresh w 81 #[.pointer (some ⟨b, 0, none⟩)]).alloc (.cells (row 16 (fun _ => 0)) 68)
    clear hrow2 hrow hkid hk0
    go_enter Try.func101, Try.ntmps101
    go_wp2_with fail
    refine (HIH.out _ _ _ (HCT.out.later HS.out (bel_2 w _ _)) HWX.out (fun k hk => by have := HS.out k hk; simp; omega)).mono ?_
    rintro e w1 ⟨rfl, hb1⟩
    have rn1 := (rn.later hb1).alloc (.cells (row 16 x.tr) 68)
    have rp1 := (rp.later hb1).alloc (.cells (row 16 x.tr) 68)
    have rr1 := (r2.later hb1).alloc (.cells (row 16 x.tr) 68)
    have rt1 := RowAt.fresh w1 68 (row 16 x.tr)
    have d0 : (w1.alloc (.cells (row 16 x.tr) 68)).cell? ⟨w.heap.size, 0, none⟩ = some (.pointer (some ⟨b, 0, none⟩)) := rp1.get 0
    have d1 : (w1.alloc (.cells (row 16 x.tr) 68)).cell? ⟨b, 0, none⟩ = some (.int .u8 42) := rn1.get 0
    have hbb := bel_on (bel_2 w (.cells #[.pointer (some ⟨b, 0, none⟩)] 81) (.cells (row 16 (fun _ => 0)) 68)) (bel_on' hb1 (bel_1 w1 (.cells (row 16 x.tr) 68))) (by simp; omega)
    clear rn rp r2 cp c0 c6 cg hb1
    go_wp2_with (refine wpList_store_new rfl 68 _ _ rfl (row 16 x.tr) rfl rfl (by rw [row_size]; kernel_rfl) (by first | rfl | (rw [row_size, row_size]) | (simp [row_size]; done)) (row_one _ _) ?_)
    refine (i_makeTrans _ _ _ (fn_ct2 _ w1.heap.size x.tr HT.out HM.out rt1)).mono ?_
    rw [HFIN.out]
    rintro e w2 ⟨rfl, hb2⟩
    have hr := rr1.later hb2
    go_wp2_with (refine wpList_store_row rfl 68 _ _ rfl (w.heap.size + 1) (row 16 (Ct.un 42 p x).tr) rfl rfl 68 _ hr (by rw [row_size]; kernel_rfl) (by first | rfl | (rw [row_size, row_size]) | (simp [row_size]; done)) (row_one _ _) ?_)
    exact bodyPost_ret (results_cell_row rfl _ _ (w.heap.size + 1) 68 _ (0, 0) _ rfl (hr.put _) Try.underlying68 rfl (by rw [row_size]; kernel_rfl)) rfl ⟨rfl, bel_setRow (bel_on hbb hb2 hbb.size) (by omega) _⟩
  case inr.inr.inr.inr.inr.inr.inl.inr =>
    clear hu
    subst h
    have hfin : row 16 (fun q => lfp (eqO x.tr q)) = row 16 (Ct.un 43 p x).tr := row_congr fun q _ => (tr_pl p x q).symm
    have HFIN := Lib.hid hfin; clear hfin
    have hrow2 := fun (o o' : Obj) => (hrow.alloc o).alloc o'
    have cp : ∀ ob, ((w.alloc (.cells #[.pointer (some ⟨b, 0, none⟩)] 81)).alloc ob).cell? ⟨w.heap.size, 0, none⟩ = some (.pointer (some ⟨b, 0, none⟩)) := fun ob => ((RowAt.fresh w 81 #[.pointer (some ⟨b, 0, none⟩)]).alloc ob).get 0
    have r2 := RowAt.fresh1 w (.cells #[.pointer (some ⟨b, 0, none⟩)] 81) 68 (row 16 (fun _ => 0))
    have c0 : ∀ ob, ((w.alloc (.cells #[.pointer (some ⟨b, 0, none⟩)] 81)).alloc ob).cell? ⟨b, 0, none⟩ = some (.int .u8 43) := fun ob => (hrow2 _ ob).get 0
    have c6 : ∀ ob, ((w.alloc (.cells #[.pointer (some ⟨b, 0, none⟩)] 81)).alloc ob).cell? ⟨b, 6, none⟩ = some (.slice (some ⟨g, 0, none⟩) 1 cap) := fun ob => (hrow2 _ ob).get 6
    have cg : ∀ ob, ((w.alloc (.cells #[.pointer (some ⟨b, 0, none⟩)] 81)).alloc ob).cell? ⟨g, 0, none⟩ = some (.pointer (some ⟨b1, 0, none⟩)) := fun ob => (((hkid.alloc _).alloc ob).get 0).trans hk0
    have rn := hrow2 (.cells #[.pointer (some ⟨b, 0, none⟩)] 81) (.cells (row 16 (fun _ => 0)) 68)
    have rp := (RowAt.fresh w 81 #[.pointer (some ⟨b, 0, none⟩)]).alloc (.cells (row 16 (fun _ => 0)) 68)
    clear hrow2 hrow hkid hk0
    go_enter Try.func101, Try.ntmps101
    go_wp2_with fail
    refine (HIH.out _ _ _ (HCT.out.later HS.out (bel_2 w _ _)) HWX.out (fun k hk => by have := HS.out k hk; simp; omega)).mono ?_
    rintro e w1 ⟨rfl, hb1⟩
    have rn1 := (rn.later hb1).alloc (.cells (row 16 x.tr) 68)
    have rp1 := (rp.later hb1).alloc (.cells (row 16 x.tr) 68)
    have rr1 := (r2.later hb1).alloc (.cells (row 16 x.tr) 68)
    have rt1 := RowAt.fresh w1 68 (row 16 x.tr)
    have d0 : (w1.alloc (.cells (row 16 x.tr) 68)).cell? ⟨w.heap.size, 0, none⟩ = some (.pointer (some ⟨b, 0, none⟩)) := rp1.get 0
    have d1 : (w1.alloc (.cells (row 16 x.tr) 68)).cell? ⟨b, 0, none⟩ = some (.int .u8 43) := rn1.get 0
    have hbb := bel_on (bel_2 w (.cells #[.pointer (some ⟨b, 0, none⟩)] 81) (.cells (row 16 (fun _ => 0)) 68)) (bel_on' hb1 (bel_1 w1 (.cells (row 16 x.tr) 68))) (by simp; omega)
    clear rn rp r2 cp c0 c6 cg hb1
    go_wp2_with (refine wpList_store_new rfl 68 _ _ rfl (row 16 x.tr) rfl rfl (by rw [row_size]; kernel_rfl) (by first | rfl | (rw [row_size, row_size]) | (simp [row_size]; done)) (row_one _ _) ?_)
    refine (i_makeTrans _ _ _ (fn_ct3 _ w1.heap.size x.tr HT.out HM.out rt1)).mono ?_
    rw [HFIN.out]
    rintro e w2 ⟨rfl, hb2⟩
    have hr := rr1.later hb2
    go_wp2_with (refine wpList_store_row rfl 68 _ _ rfl (w.heap.size + 1) (row 16 (Ct.un 43 p x).tr) rfl rfl 68 _ hr (by rw [row_size]; kernel_rfl) (by first | rfl | (rw [row_size, row_size]) | (simp [row_size]; done)) (row_one _ _) ?_)
    exact bodyPost_ret (results_cell_row rfl _ _ (w.heap.size + 1) 68 _ (0, 0) _ rfl (hr.put _) Try.underlying68 rfl (by rw [row_size]; kernel_rfl)) rfl ⟨rfl, bel_setRow (bel_on hbb hb2 hbb.size) (by omega) _⟩
  all_goals (subst h; cases hu)
end Go.Proofs.Ytjbfebjdegabaaa
