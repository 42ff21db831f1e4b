/- The program's transformers of contracts of two parts, and of all. -/
import Derived.Test.YtjbfebjdegabaaaImplV
namespace Go.Proofs.Ytjbfebjdegabaaa
set_option linter.unusedSimpArgs false
set_option linter.unusedVariables false
set_option maxRecDepth 4000
open Go.RowKit

set_option maxHeartbeats 4000000 in
theorem i_ctBin (op : UInt8) (p : Nat) (x y : Ct) (ihx : IhAt x) (ihy : IhAt y) (b : Nat) (w : World) (S : Nat → Prop) (hct : CtIn w S (.bin op p x y) b) (hwf : (Ct.bin op p x y).wf) (hS : ∀ k, S k → k < w.heap.size) : Calls Try.prog 101 #[.pointer (some ⟨b, 0, none⟩)] w fun e w' => e = .returned (.agg (row 16 (Ct.bin op p x y).tr)) ∧ Below w.heap.size w w' := by
  obtain ⟨_, R, v, tx, g, cap, cur, b1, b2, hrow, rfl, _, hkid, hk0, hk1, hcx, hcy⟩ := hct
  obtain ⟨n, hl, hu, hbn, hp, _, hwx, hwy⟩ := hwf
  have HCX := Lib.hid hcx; have HCY := Lib.hid hcy; have HS := Lib.hid hS; have HWX := Lib.hid hwx; have HWY := Lib.hid hwy
  have HTX := Lib.hid (Ct.tr_bd hwx); have HTY := Lib.hid (Ct.tr_bd hwy)
  have HIX : Hid (∀ (b : Nat) (w : World) (S : Nat → Prop), CtIn w S x b → x.wf → (∀ k, S k → k < w.heap.size) → Calls Try.prog 101 #[.pointer (some ⟨b, 0, none⟩)] w fun e w' => e = .returned (.agg (row 16 x.tr)) ∧ Below w.heap.size w w') := Lib.hid ihx
  have HIY : Hid (∀ (b : Nat) (w : World) (S : Nat → Prop), CtIn w S y b → y.wf → (∀ k, S k → k < w.heap.size) → Calls Try.prog 101 #[.pointer (some ⟨b, 0, none⟩)] w fun e w' => e = .returned (.agg (row 16 y.tr)) ∧ Below w.heap.size w w') := Lib.hid ihy
  clear hcx hcy hS hwx hwy ihx ihy hl hu
  rcases letters op with (h | h | h) | (h | h) | (h | h) | (h | h | h) | h | h | (h | h) | h
  case inr.inr.inr.inr.inr.inr.inr => rw [noLetter_bin h] at hbn; cases hbn
  case inr.inr.inr.inl.inl =>
    clear hbn
    subst h
    have hfin : row 16 (fun q => x.tr (y.tr q)) = row 16 (Ct.bin 59 p x y).tr := row_congr fun q _ => (tr_seq p x y q).symm
    have HFIN := Lib.hid hfin; clear hfin
    have hrow2 := fun (o o' : Obj) => (hrow.alloc o).alloc o'
    have cp : ∀ ob, ((w.alloc (.cells #[.pointer (some ⟨b, 0, none⟩)] 81)).alloc ob).cell? ⟨w.heap.size, 0, none⟩ = some (.pointer (some ⟨b, 0, none⟩)) := fun ob => ((RowAt.fresh w 81 #[.pointer (some ⟨b, 0, none⟩)]).alloc ob).get 0
    have r2 := RowAt.fresh1 w (.cells #[.pointer (some ⟨b, 0, none⟩)] 81) 68 (row 16 (fun _ => 0))
    have c0 : ∀ ob, ((w.alloc (.cells #[.pointer (some ⟨b, 0, none⟩)] 81)).alloc ob).cell? ⟨b, 0, none⟩ = some (.int .u8 59) := fun ob => (hrow2 _ ob).get 0
    have c6 : ∀ ob, ((w.alloc (.cells #[.pointer (some ⟨b, 0, none⟩)] 81)).alloc ob).cell? ⟨b, 6, none⟩ = some (.slice (some ⟨g, 0, none⟩) 2 cap) := fun ob => (hrow2 _ ob).get 6
    have cg : ∀ ob, ((w.alloc (.cells #[.pointer (some ⟨b, 0, none⟩)] 81)).alloc ob).cell? ⟨g, 0, none⟩ = some (.pointer (some ⟨b1, 0, none⟩)) := fun ob => (((hkid.alloc _).alloc ob).get 0).trans hk0
    have rn := hrow2 (.cells #[.pointer (some ⟨b, 0, none⟩)] 81) (.cells (row 16 (fun _ => 0)) 68)
    have rp := (RowAt.fresh w 81 #[.pointer (some ⟨b, 0, none⟩)]).alloc (.cells (row 16 (fun _ => 0)) 68)
    have rk := (hkid.alloc (.cells #[.pointer (some ⟨b, 0, none⟩)] 81)).alloc (.cells (row 16 (fun _ => 0)) 68)
    have HK1 := Lib.hid hk1
    clear hrow2 hrow hkid hk0 hk1
    go_enter Try.func101, Try.ntmps101
    go_wp2_with fail
    refine (HIX.out _ _ _ (HCX.out.later HS.out (bel_2 w _ _)) HWX.out (fun k hk => by have := HS.out k hk; simp; omega)).mono ?_
    rintro e w1 ⟨rfl, hb1⟩
    have rn1 := (rn.later hb1).alloc (.cells (row 16 x.tr) 68)
    have rp1 := (rp.later hb1).alloc (.cells (row 16 x.tr) 68)
    have rr1 := (r2.later hb1).alloc (.cells (row 16 x.tr) 68)
    have rk1 := (rk.later hb1).alloc (.cells (row 16 x.tr) 68)
    have rt1 := RowAt.fresh w1 68 (row 16 x.tr)
    have d0 : (w1.alloc (.cells (row 16 x.tr) 68)).cell? ⟨w.heap.size, 0, none⟩ = some (.pointer (some ⟨b, 0, none⟩)) := rp1.get 0
    have d1 : (w1.alloc (.cells (row 16 x.tr) 68)).cell? ⟨b, 0, none⟩ = some (.int .u8 59) := rn1.get 0
    have d6 : (w1.alloc (.cells (row 16 x.tr) 68)).cell? ⟨b, 6, none⟩ = some (.slice (some ⟨g, 0, none⟩) 2 cap) := rn1.get 6
    have dg : (w1.alloc (.cells (row 16 x.tr) 68)).cell? ⟨g, 1, none⟩ = some (.pointer (some ⟨b2, 0, none⟩)) := (rk1.get 1).trans HK1.out
    have hbb := bel_on (bel_2 w (.cells #[.pointer (some ⟨b, 0, none⟩)] 81) (.cells (row 16 (fun _ => 0)) 68)) (bel_on' hb1 (bel_1 w1 (.cells (row 16 x.tr) 68))) (by simp; omega)
    have hct2 := HCY.out.later HS.out hbb
    have hS2 : ∀ k, S k → k < (w1.alloc (.cells (row 16 x.tr) 68)).heap.size := fun k hk => by have := HS.out k hk; have := hbb.size; omega
    have HCT2 := Lib.hid hct2; have HS2 := Lib.hid hS2
    clear rn rp rk r2 cp c0 c6 cg hb1 hct2 hS2
    go_wp2_with (refine wpList_store_new rfl 68 _ _ rfl (row 16 x.tr) rfl rfl (by rw [row_size]; kernel_rfl) (by first | rfl | (rw [row_size, row_size]) | (simp [row_size]; done)) (row_one _ _) ?_)
    refine (HIY.out _ _ _ HCT2.out HWY.out HS2.out).mono ?_
    rintro e w2 ⟨rfl, hb2⟩
    have rn2 := (rn1.later hb2).alloc (.cells (row 16 y.tr) 68)
    have rp2 := (rp1.later hb2).alloc (.cells (row 16 y.tr) 68)
    have rr2 := (rr1.later hb2).alloc (.cells (row 16 y.tr) 68)
    have rt2 := (rt1.later hb2).alloc (.cells (row 16 y.tr) 68)
    have ru2 := RowAt.fresh w2 68 (row 16 y.tr)
    have g0 : (w2.alloc (.cells (row 16 y.tr) 68)).cell? ⟨w.heap.size, 0, none⟩ = some (.pointer (some ⟨b, 0, none⟩)) := rp2.get 0
    have g1 : (w2.alloc (.cells (row 16 y.tr) 68)).cell? ⟨b, 0, none⟩ = some (.int .u8 59) := rn2.get 0
    have hbc := bel_on' (bel_on hbb hb2 hbb.size) (bel_1 w2 (.cells (row 16 y.tr) 68))
    clear rn1 rp1 rr1 rk1 rt1 d0 d1 d6 dg hb2 hbb
    go_wp2_with (first | (refine wpList_store_new rfl 68 _ _ rfl (row 16 y.tr) rfl rfl (by rw [row_size]; kernel_rfl) (by first | rfl | (rw [row_size, row_size]) | (simp [row_size]; done)) (row_one _ _) ?_) | (refine wpList_load_row rfl 68 _ rfl (w1.heap.size) rfl 68 (row 16 x.tr) (0, 0) _ rt2 Try.underlying68 rfl (by rw [row_size]; kernel_rfl) ?_) | (refine wpList_load_row rfl 68 _ rfl (w2.heap.size) rfl 68 (row 16 y.tr) (0, 0) _ ru2 Try.underlying68 rfl (by rw [row_size]; kernel_rfl) ?_))
    refine (i_then x.tr y.tr _ HTY.out).mono ?_
    rw [HFIN.out]
    rintro e w3 ⟨rfl, hb3⟩
    have hr := rr2.later hb3
    go_wp2_with (refine wpList_store_row rfl 68 _ _ rfl (w.heap.size + 1) (row 16 (Ct.bin 59 p x y).tr) rfl rfl 68 _ hr (by rw [row_size]; kernel_rfl) (by first | rfl | (rw [row_size, row_size]) | (simp [row_size]; done)) (row_one _ _) ?_)
    exact bodyPost_ret (results_cell_row rfl _ _ (w.heap.size + 1) 68 _ (0, 0) _ rfl (hr.put _) Try.underlying68 rfl (by rw [row_size]; kernel_rfl)) rfl ⟨rfl, bel_setRow (bel_on hbc hb3 hbc.size) (by omega) _⟩
  case inr.inr.inr.inl.inr.inl =>
    clear hbn
    subst h
    have hfin : row 16 (fun q => x.tr q &&& y.tr q) = row 16 (Ct.bin 38 p x y).tr := row_congr fun q _ => (tr_and p x y q).symm
    have HFIN := Lib.hid hfin; clear hfin
    have hrow2 := fun (o o' : Obj) => (hrow.alloc o).alloc o'
    have cp : ∀ ob, ((w.alloc (.cells #[.pointer (some ⟨b, 0, none⟩)] 81)).alloc ob).cell? ⟨w.heap.size, 0, none⟩ = some (.pointer (some ⟨b, 0, none⟩)) := fun ob => ((RowAt.fresh w 81 #[.pointer (some ⟨b, 0, none⟩)]).alloc ob).get 0
    have r2 := RowAt.fresh1 w (.cells #[.pointer (some ⟨b, 0, none⟩)] 81) 68 (row 16 (fun _ => 0))
    have c0 : ∀ ob, ((w.alloc (.cells #[.pointer (some ⟨b, 0, none⟩)] 81)).alloc ob).cell? ⟨b, 0, none⟩ = some (.int .u8 38) := fun ob => (hrow2 _ ob).get 0
    have c6 : ∀ ob, ((w.alloc (.cells #[.pointer (some ⟨b, 0, none⟩)] 81)).alloc ob).cell? ⟨b, 6, none⟩ = some (.slice (some ⟨g, 0, none⟩) 2 cap) := fun ob => (hrow2 _ ob).get 6
    have cg : ∀ ob, ((w.alloc (.cells #[.pointer (some ⟨b, 0, none⟩)] 81)).alloc ob).cell? ⟨g, 0, none⟩ = some (.pointer (some ⟨b1, 0, none⟩)) := fun ob => (((hkid.alloc _).alloc ob).get 0).trans hk0
    have rn := hrow2 (.cells #[.pointer (some ⟨b, 0, none⟩)] 81) (.cells (row 16 (fun _ => 0)) 68)
    have rp := (RowAt.fresh w 81 #[.pointer (some ⟨b, 0, none⟩)]).alloc (.cells (row 16 (fun _ => 0)) 68)
    have rk := (hkid.alloc (.cells #[.pointer (some ⟨b, 0, none⟩)] 81)).alloc (.cells (row 16 (fun _ => 0)) 68)
    have HK1 := Lib.hid hk1
    clear hrow2 hrow hkid hk0 hk1
    go_enter Try.func101, Try.ntmps101
    go_wp2_with fail
    refine (HIX.out _ _ _ (HCX.out.later HS.out (bel_2 w _ _)) HWX.out (fun k hk => by have := HS.out k hk; simp; omega)).mono ?_
    rintro e w1 ⟨rfl, hb1⟩
    have rn1 := (rn.later hb1).alloc (.cells (row 16 x.tr) 68)
    have rp1 := (rp.later hb1).alloc (.cells (row 16 x.tr) 68)
    have rr1 := (r2.later hb1).alloc (.cells (row 16 x.tr) 68)
    have rk1 := (rk.later hb1).alloc (.cells (row 16 x.tr) 68)
    have rt1 := RowAt.fresh w1 68 (row 16 x.tr)
    have d0 : (w1.alloc (.cells (row 16 x.tr) 68)).cell? ⟨w.heap.size, 0, none⟩ = some (.pointer (some ⟨b, 0, none⟩)) := rp1.get 0
    have d1 : (w1.alloc (.cells (row 16 x.tr) 68)).cell? ⟨b, 0, none⟩ = some (.int .u8 38) := rn1.get 0
    have d6 : (w1.alloc (.cells (row 16 x.tr) 68)).cell? ⟨b, 6, none⟩ = some (.slice (some ⟨g, 0, none⟩) 2 cap) := rn1.get 6
    have dg : (w1.alloc (.cells (row 16 x.tr) 68)).cell? ⟨g, 1, none⟩ = some (.pointer (some ⟨b2, 0, none⟩)) := (rk1.get 1).trans HK1.out
    have hbb := bel_on (bel_2 w (.cells #[.pointer (some ⟨b, 0, none⟩)] 81) (.cells (row 16 (fun _ => 0)) 68)) (bel_on' hb1 (bel_1 w1 (.cells (row 16 x.tr) 68))) (by simp; omega)
    have hct2 := HCY.out.later HS.out hbb
    have hS2 : ∀ k, S k → k < (w1.alloc (.cells (row 16 x.tr) 68)).heap.size := fun k hk => by have := HS.out k hk; have := hbb.size; omega
    have HCT2 := Lib.hid hct2; have HS2 := Lib.hid hS2
    clear rn rp rk r2 cp c0 c6 cg hb1 hct2 hS2
    go_wp2_with (refine wpList_store_new rfl 68 _ _ rfl (row 16 x.tr) rfl rfl (by rw [row_size]; kernel_rfl) (by first | rfl | (rw [row_size, row_size]) | (simp [row_size]; done)) (row_one _ _) ?_)
    refine (HIY.out _ _ _ HCT2.out HWY.out HS2.out).mono ?_
    rintro e w2 ⟨rfl, hb2⟩
    have rn2 := (rn1.later hb2).alloc (.cells (row 16 y.tr) 68)
    have rp2 := (rp1.later hb2).alloc (.cells (row 16 y.tr) 68)
    have rr2 := (rr1.later hb2).alloc (.cells (row 16 y.tr) 68)
    have rt2 := (rt1.later hb2).alloc (.cells (row 16 y.tr) 68)
    have ru2 := RowAt.fresh w2 68 (row 16 y.tr)
    have g0 : (w2.alloc (.cells (row 16 y.tr) 68)).cell? ⟨w.heap.size, 0, none⟩ = some (.pointer (some ⟨b, 0, none⟩)) := rp2.get 0
    have g1 : (w2.alloc (.cells (row 16 y.tr) 68)).cell? ⟨b, 0, none⟩ = some (.int .u8 38) := rn2.get 0
    have hbc := bel_on' (bel_on hbb hb2 hbb.size) (bel_1 w2 (.cells (row 16 y.tr) 68))
    clear rn1 rp1 rr1 rk1 rt1 d0 d1 d6 dg hb2 hbb
    go_wp2_with (first | (refine wpList_store_new rfl 68 _ _ rfl (row 16 y.tr) rfl rfl (by rw [row_size]; kernel_rfl) (by first | rfl | (rw [row_size, row_size]) | (simp [row_size]; done)) (row_one _ _) ?_) | (refine wpList_load_row rfl 68 _ rfl (w1.heap.size) rfl 68 (row 16 x.tr) (0, 0) _ rt2 Try.underlying68 rfl (by rw [row_size]; kernel_rfl) ?_) | (refine wpList_load_row rfl 68 _ rfl (w2.heap.size) rfl 68 (row 16 y.tr) (0, 0) _ ru2 Try.underlying68 rfl (by rw [row_size]; kernel_rfl) ?_))
    refine (i_meet x.tr y.tr _ HTX.out HTY.out).mono ?_
    rw [HFIN.out]
    rintro e w3 ⟨rfl, hb3⟩
    have hr := rr2.later hb3
    go_wp2_with (refine wpList_store_row rfl 68 _ _ rfl (w.heap.size + 1) (row 16 (Ct.bin 38 p x y).tr) rfl rfl 68 _ hr (by rw [row_size]; kernel_rfl) (by first | rfl | (rw [row_size, row_size]) | (simp [row_size]; done)) (row_one _ _) ?_)
    exact bodyPost_ret (results_cell_row rfl _ _ (w.heap.size + 1) 68 _ (0, 0) _ rfl (hr.put _) Try.underlying68 rfl (by rw [row_size]; kernel_rfl)) rfl ⟨rfl, bel_setRow (bel_on hbc hb3 hbc.size) (by omega) _⟩
  case inr.inr.inr.inl.inr.inr =>
    clear hbn
    subst h
    have hfin : row 16 (fun q => x.tr q ||| y.tr q) = row 16 (Ct.bin 124 p x y).tr := row_congr fun q _ => (tr_or p x y q).symm
    have HFIN := Lib.hid hfin; clear hfin
    have hrow2 := fun (o o' : Obj) => (hrow.alloc o).alloc o'
    have cp : ∀ ob, ((w.alloc (.cells #[.pointer (some ⟨b, 0, none⟩)] 81)).alloc ob).cell? ⟨w.heap.size, 0, none⟩ = some (.pointer (some ⟨b, 0, none⟩)) := fun ob => ((RowAt.fresh w 81 #[.pointer (some ⟨b, 0, none⟩)]).alloc ob).get 0
    have r2 := RowAt.fresh1 w (.cells #[.pointer (some ⟨b, 0, none⟩)] 81) 68 (row 16 (fun _ => 0))
    have c0 : ∀ ob, ((w.alloc (.cells #[.pointer (some ⟨b, 0, none⟩)] 81)).alloc ob).cell? ⟨b, 0, none⟩ = some (.int .u8 124) := fun ob => (hrow2 _ ob).get 0
    have c6 : ∀ ob, ((w.alloc (.cells #[.pointer (some ⟨b, 0, none⟩)] 81)).alloc ob).cell? ⟨b, 6, none⟩ = some (.slice (some ⟨g, 0, none⟩) 2 cap) := fun ob => (hrow2 _ ob).get 6
    have cg : ∀ ob, ((w.alloc (.cells #[.pointer (some ⟨b, 0, none⟩)] 81)).alloc ob).cell? ⟨g, 0, none⟩ = some (.pointer (some ⟨b1, 0, none⟩)) := fun ob => (((hkid.alloc _).alloc ob).get 0).trans hk0
    have rn := hrow2 (.cells #[.pointer (some ⟨b, 0, none⟩)] 81) (.cells (row 16 (fun _ => 0)) 68)
    have rp := (RowAt.fresh w 81 #[.pointer (some ⟨b, 0, none⟩)]).alloc (.cells (row 16 (fun _ => 0)) 68)
    have rk := (hkid.alloc (.cells #[.pointer (some ⟨b, 0, none⟩)] 81)).alloc (.cells (row 16 (fun _ => 0)) 68)
    have HK1 := Lib.hid hk1
    clear hrow2 hrow hkid hk0 hk1
    go_enter Try.func101, Try.ntmps101
    go_wp2_with fail
    refine (HIX.out _ _ _ (HCX.out.later HS.out (bel_2 w _ _)) HWX.out (fun k hk => by have := HS.out k hk; simp; omega)).mono ?_
    rintro e w1 ⟨rfl, hb1⟩
    have rn1 := (rn.later hb1).alloc (.cells (row 16 x.tr) 68)
    have rp1 := (rp.later hb1).alloc (.cells (row 16 x.tr) 68)
    have rr1 := (r2.later hb1).alloc (.cells (row 16 x.tr) 68)
    have rk1 := (rk.later hb1).alloc (.cells (row 16 x.tr) 68)
    have rt1 := RowAt.fresh w1 68 (row 16 x.tr)
    have d0 : (w1.alloc (.cells (row 16 x.tr) 68)).cell? ⟨w.heap.size, 0, none⟩ = some (.pointer (some ⟨b, 0, none⟩)) := rp1.get 0
    have d1 : (w1.alloc (.cells (row 16 x.tr) 68)).cell? ⟨b, 0, none⟩ = some (.int .u8 124) := rn1.get 0
    have d6 : (w1.alloc (.cells (row 16 x.tr) 68)).cell? ⟨b, 6, none⟩ = some (.slice (some ⟨g, 0, none⟩) 2 cap) := rn1.get 6
    have dg : (w1.alloc (.cells (row 16 x.tr) 68)).cell? ⟨g, 1, none⟩ = some (.pointer (some ⟨b2, 0, none⟩)) := (rk1.get 1).trans HK1.out
    have hbb := bel_on (bel_2 w (.cells #[.pointer (some ⟨b, 0, none⟩)] 81) (.cells (row 16 (fun _ => 0)) 68)) (bel_on' hb1 (bel_1 w1 (.cells (row 16 x.tr) 68))) (by simp; omega)
    have hct2 := HCY.out.later HS.out hbb
    have hS2 : ∀ k, S k → k < (w1.alloc (.cells (row 16 x.tr) 68)).heap.size := fun k hk => by have := HS.out k hk; have := hbb.size; omega
    have HCT2 := Lib.hid hct2; have HS2 := Lib.hid hS2
    clear rn rp rk r2 cp c0 c6 cg hb1 hct2 hS2
    go_wp2_with (refine wpList_store_new rfl 68 _ _ rfl (row 16 x.tr) rfl rfl (by rw [row_size]; kernel_rfl) (by first | rfl | (rw [row_size, row_size]) | (simp [row_size]; done)) (row_one _ _) ?_)
    refine (HIY.out _ _ _ HCT2.out HWY.out HS2.out).mono ?_
    rintro e w2 ⟨rfl, hb2⟩
    have rn2 := (rn1.later hb2).alloc (.cells (row 16 y.tr) 68)
    have rp2 := (rp1.later hb2).alloc (.cells (row 16 y.tr) 68)
    have rr2 := (rr1.later hb2).alloc (.cells (row 16 y.tr) 68)
    have rt2 := (rt1.later hb2).alloc (.cells (row 16 y.tr) 68)
    have ru2 := RowAt.fresh w2 68 (row 16 y.tr)
    have g0 : (w2.alloc (.cells (row 16 y.tr) 68)).cell? ⟨w.heap.size, 0, none⟩ = some (.pointer (some ⟨b, 0, none⟩)) := rp2.get 0
    have g1 : (w2.alloc (.cells (row 16 y.tr) 68)).cell? ⟨b, 0, none⟩ = some (.int .u8 124) := rn2.get 0
    have hbc := bel_on' (bel_on hbb hb2 hbb.size) (bel_1 w2 (.cells (row 16 y.tr) 68))
    clear rn1 rp1 rr1 rk1 rt1 d0 d1 d6 dg hb2 hbb
    go_wp2_with (first | (refine wpList_store_new rfl 68 _ _ rfl (row 16 y.tr) rfl rfl (by rw [row_size]; kernel_rfl) (by first | rfl | (rw [row_size, row_size]) | (simp [row_size]; done)) (row_one _ _) ?_) | (refine wpList_load_row rfl 68 _ rfl (w1.heap.size) rfl 68 (row 16 x.tr) (0, 0) _ rt2 Try.underlying68 rfl (by rw [row_size]; kernel_rfl) ?_) | (refine wpList_load_row rfl 68 _ rfl (w2.heap.size) rfl 68 (row 16 y.tr) (0, 0) _ ru2 Try.underlying68 rfl (by rw [row_size]; kernel_rfl) ?_))
    refine (i_join x.tr y.tr _ HTX.out HTY.out).mono ?_
    rw [HFIN.out]
    rintro e w3 ⟨rfl, hb3⟩
    have hr := rr2.later hb3
    go_wp2_with (refine wpList_store_row rfl 68 _ _ rfl (w.heap.size + 1) (row 16 (Ct.bin 124 p x y).tr) rfl rfl 68 _ hr (by rw [row_size]; kernel_rfl) (by first | rfl | (rw [row_size, row_size]) | (simp [row_size]; done)) (row_one _ _) ?_)
    exact bodyPost_ret (results_cell_row rfl _ _ (w.heap.size + 1) 68 _ (0, 0) _ rfl (hr.put _) Try.underlying68 rfl (by rw [row_size]; kernel_rfl)) rfl ⟨rfl, bel_setRow (bel_on hbc hb3 hbc.size) (by omega) _⟩
  case inr.inr.inr.inr.inl =>
    clear hbn
    subst h
    have hfin : row 16 (fun q => turn p (x.tr q) (y.tr q)) = row 16 (Ct.bin 105 p x y).tr := row_congr fun q _ => (tr_if p x y q).symm
    have HFIN := Lib.hid hfin; clear hfin
    have hrow2 := fun (o o' : Obj) => (hrow.alloc o).alloc o'
    have cp : ∀ ob, ((w.alloc (.cells #[.pointer (some ⟨b, 0, none⟩)] 81)).alloc ob).cell? ⟨w.heap.size, 0, none⟩ = some (.pointer (some ⟨b, 0, none⟩)) := fun ob => ((RowAt.fresh w 81 #[.pointer (some ⟨b, 0, none⟩)]).alloc ob).get 0
    have r2 := RowAt.fresh1 w (.cells #[.pointer (some ⟨b, 0, none⟩)] 81) 68 (row 16 (fun _ => 0))
    have c0 : ∀ ob, ((w.alloc (.cells #[.pointer (some ⟨b, 0, none⟩)] 81)).alloc ob).cell? ⟨b, 0, none⟩ = some (.int .u8 105) := fun ob => (hrow2 _ ob).get 0
    have c6 : ∀ ob, ((w.alloc (.cells #[.pointer (some ⟨b, 0, none⟩)] 81)).alloc ob).cell? ⟨b, 6, none⟩ = some (.slice (some ⟨g, 0, none⟩) 2 cap) := fun ob => (hrow2 _ ob).get 6
    have cg : ∀ ob, ((w.alloc (.cells #[.pointer (some ⟨b, 0, none⟩)] 81)).alloc ob).cell? ⟨g, 0, none⟩ = some (.pointer (some ⟨b1, 0, none⟩)) := fun ob => (((hkid.alloc _).alloc ob).get 0).trans hk0
    have rn := hrow2 (.cells #[.pointer (some ⟨b, 0, none⟩)] 81) (.cells (row 16 (fun _ => 0)) 68)
    have rp := (RowAt.fresh w 81 #[.pointer (some ⟨b, 0, none⟩)]).alloc (.cells (row 16 (fun _ => 0)) 68)
    have rk := (hkid.alloc (.cells #[.pointer (some ⟨b, 0, none⟩)] 81)).alloc (.cells (row 16 (fun _ => 0)) 68)
    have HK1 := Lib.hid hk1
    clear hrow2 hrow hkid hk0 hk1
    go_enter Try.func101, Try.ntmps101
    go_wp2_with fail
    refine (HIX.out _ _ _ (HCX.out.later HS.out (bel_2 w _ _)) HWX.out (fun k hk => by have := HS.out k hk; simp; omega)).mono ?_
    rintro e w1 ⟨rfl, hb1⟩
    have rn1 := (rn.later hb1).alloc (.cells (row 16 x.tr) 68)
    have rp1 := (rp.later hb1).alloc (.cells (row 16 x.tr) 68)
    have rr1 := (r2.later hb1).alloc (.cells (row 16 x.tr) 68)
    have rk1 := (rk.later hb1).alloc (.cells (row 16 x.tr) 68)
    have rt1 := RowAt.fresh w1 68 (row 16 x.tr)
    have d0 : (w1.alloc (.cells (row 16 x.tr) 68)).cell? ⟨w.heap.size, 0, none⟩ = some (.pointer (some ⟨b, 0, none⟩)) := rp1.get 0
    have d1 : (w1.alloc (.cells (row 16 x.tr) 68)).cell? ⟨b, 0, none⟩ = some (.int .u8 105) := rn1.get 0
    have d6 : (w1.alloc (.cells (row 16 x.tr) 68)).cell? ⟨b, 6, none⟩ = some (.slice (some ⟨g, 0, none⟩) 2 cap) := rn1.get 6
    have dg : (w1.alloc (.cells (row 16 x.tr) 68)).cell? ⟨g, 1, none⟩ = some (.pointer (some ⟨b2, 0, none⟩)) := (rk1.get 1).trans HK1.out
    have hbb := bel_on (bel_2 w (.cells #[.pointer (some ⟨b, 0, none⟩)] 81) (.cells (row 16 (fun _ => 0)) 68)) (bel_on' hb1 (bel_1 w1 (.cells (row 16 x.tr) 68))) (by simp; omega)
    have hct2 := HCY.out.later HS.out hbb
    have hS2 : ∀ k, S k → k < (w1.alloc (.cells (row 16 x.tr) 68)).heap.size := fun k hk => by have := HS.out k hk; have := hbb.size; omega
    have HCT2 := Lib.hid hct2; have HS2 := Lib.hid hS2
    clear rn rp rk r2 cp c0 c6 cg hb1 hct2 hS2
    go_wp2_with (refine wpList_store_new rfl 68 _ _ rfl (row 16 x.tr) rfl rfl (by rw [row_size]; kernel_rfl) (by first | rfl | (rw [row_size, row_size]) | (simp [row_size]; done)) (row_one _ _) ?_)
    refine (HIY.out _ _ _ HCT2.out HWY.out HS2.out).mono ?_
    rintro e w2 ⟨rfl, hb2⟩
    have rn2 := (rn1.later hb2).alloc (.cells (row 16 y.tr) 68)
    have rp2 := (rp1.later hb2).alloc (.cells (row 16 y.tr) 68)
    have rr2 := (rr1.later hb2).alloc (.cells (row 16 y.tr) 68)
    have rt2 := (rt1.later hb2).alloc (.cells (row 16 y.tr) 68)
    have ru2 := RowAt.fresh w2 68 (row 16 y.tr)
    have g0 : (w2.alloc (.cells (row 16 y.tr) 68)).cell? ⟨w.heap.size, 0, none⟩ = some (.pointer (some ⟨b, 0, none⟩)) := rp2.get 0
    have g1 : (w2.alloc (.cells (row 16 y.tr) 68)).cell? ⟨b, 0, none⟩ = some (.int .u8 105) := rn2.get 0
    have hbc := bel_on' (bel_on hbb hb2 hbb.size) (bel_1 w2 (.cells (row 16 y.tr) 68))
    clear rn1 rp1 rr1 rk1 rt1 d0 d1 d6 dg hb2 hbb
    go_wp2_with (first | (refine wpList_store_new rfl 68 _ _ rfl (row 16 y.tr) rfl rfl (by rw [row_size]; kernel_rfl) (by first | rfl | (rw [row_size, row_size]) | (simp [row_size]; done)) (row_one _ _) ?_))
    refine (i_makeTrans _ _ _ (fn_ct4 _ w.heap.size b w1.heap.size w2.heap.size 105 p R (.slice (some ⟨g, 0, none⟩) 2 cap) tx x.tr y.tr HTX.out HTY.out hp rp2 rn2 rt2 ru2)).mono ?_
    rw [HFIN.out]
    rintro e w3 ⟨rfl, hb3⟩
    have hr := rr2.later hb3
    go_wp2_with (refine wpList_store_row rfl 68 _ _ rfl (w.heap.size + 1) (row 16 (Ct.bin 105 p x y).tr) rfl rfl 68 _ hr (by rw [row_size]; kernel_rfl) (by first | rfl | (rw [row_size, row_size]) | (simp [row_size]; done)) (row_one _ _) ?_)
    exact bodyPost_ret (results_cell_row rfl _ _ (w.heap.size + 1) 68 _ (0, 0) _ rfl (hr.put _) Try.underlying68 rfl (by rw [row_size]; kernel_rfl)) rfl ⟨rfl, bel_setRow (bel_on hbc hb3 hbc.size) (by omega) _⟩
  all_goals (subst h; cases hbn)
theorem i_ctTrans : ∀ (x : Ct), IhAt x
  | .leaf op F => fun b w S h hwf _ => i_ctLeaf op F b w S h hwf
  | .un op p x => fun b w S h hwf hS => i_ctUn op p x (i_ctTrans x) b w S h hwf hS
  | .bin op p x y => fun b w S h hwf hS => i_ctBin op p x y (i_ctTrans x) (i_ctTrans y) b w S h hwf hS
end Go.Proofs.Ytjbfebjdegabaaa
