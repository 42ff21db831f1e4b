/- The program's listed functions on fixed points, codes and invariants. -/
import Derived.Test.YtiaeakpgldpaiaaQJ3
namespace Go.Proofs.Ytiaeakpgldpaiaa
set_option linter.unusedSimpArgs false
set_option linter.unusedVariables false
set_option maxRecDepth 4000
open Go.RowKit

theorem i_LeastPoint (t : ByteArray) (w : World) : Calls Try.prog 49 #[.string t] w fun e w' => e = .returned (.int .i64 (optI (trOk t) (lfp (dig t)))) ∧ Below w.heap.size w w' := by
  cases hok : trOk t
  · go_enter Try.func49, Try.ntmps49
    go_wp2_with (first | (go_at_call 116; refine (i_readTrans _ _).mono ?_; rw [hok]; rintro e w' ⟨rfl, hb⟩) | (refine wpList_store_new rfl 77 _ _ rfl (row 16 (trF t)) rfl rfl (by rw [row_size]; kernel_rfl) (by first | rfl | (rw [row_size, row_size]) | (simp [row_size]; done)) (row_one _ _) ?_))
    go_ret
    exact ⟨rfl, hb.alloc hb.size _⟩
  · go_enter Try.func49, Try.ntmps49
    go_wp2_with (first | (go_at_call 116; refine (i_readTrans _ _).mono ?_; rw [hok]; rintro e w' ⟨rfl, hb⟩) | (refine wpList_store_new rfl 77 _ _ rfl (row 16 (trF t)) rfl rfl (by rw [row_size]; kernel_rfl) (by first | rfl | (rw [row_size, row_size]) | (simp [row_size]; done)) (row_one _ _) ?_))
    refine (i_leastPoint _ (trF t) _ (fn_leastPoint _ _ _ (RowAt.fresh _ _ _)) (trF_bd t) (trF_mono t)).mono ?_
    rintro e w2 ⟨rfl, hb2⟩
    go_wp2_with fail
    go_ret
    exact ⟨by rw [trF_ok hok]; rfl, bel_on (hb.alloc hb.size _) hb2 (by have := hb.size; simp; omega)⟩
theorem i_GreatestPoint (t : ByteArray) (w : World) : Calls Try.prog 51 #[.string t] w fun e w' => e = .returned (.int .i64 (optI (trOk t) (gfp (dig t)))) ∧ Below w.heap.size w w' := by
  cases hok : trOk t
  · go_enter Try.func51, Try.ntmps51
    go_wp2_with (first | (go_at_call 116; refine (i_readTrans _ _).mono ?_; rw [hok]; rintro e w' ⟨rfl, hb⟩) | (refine wpList_store_new rfl 77 _ _ rfl (row 16 (trF t)) rfl rfl (by rw [row_size]; kernel_rfl) (by first | rfl | (rw [row_size, row_size]) | (simp [row_size]; done)) (row_one _ _) ?_))
    go_ret
    exact ⟨rfl, hb.alloc hb.size _⟩
  · go_enter Try.func51, Try.ntmps51
    go_wp2_with (first | (go_at_call 116; refine (i_readTrans _ _).mono ?_; rw [hok]; rintro e w' ⟨rfl, hb⟩) | (refine wpList_store_new rfl 77 _ _ rfl (row 16 (trF t)) rfl rfl (by rw [row_size]; kernel_rfl) (by first | rfl | (rw [row_size, row_size]) | (simp [row_size]; done)) (row_one _ _) ?_))
    refine (i_greatestPoint _ (trF t) _ (fn_greatestPoint _ _ _ (RowAt.fresh _ _ _)) (trF_bd t) (trF_mono t)).mono ?_
    rintro e w2 ⟨rfl, hb2⟩
    go_wp2_with fail
    go_ret
    exact ⟨by rw [trF_ok hok]; rfl, bel_on (hb.alloc hb.size _) hb2 (by have := hb.size; simp; omega)⟩
theorem i_LeastFrom (t : ByteArray) (p : Int) (w : World) : Calls Try.prog 39 #[.string t, .int .i64 p] w fun e w' => e = .returned (.int .i64 (optI (trOk t && cvB p) (lfp (eqO (dig t) p.toNat)))) ∧ Below w.heap.size w w' := by
  have hp0 := RowAt.fresh w 3 #[.int .i64 p]
  have hw0 : Below w.heap.size w (w.alloc (.cells #[.int .i64 p] 3)) := (Below.refl _ _).alloc (Nat.le_refl _) _
  cases hok : trOk t
  · go_enter Try.func39, Try.ntmps39
    go_wp2_with fail
    refine (i_readTrans _ _).mono ?_
    rw [hok]
    rintro e w1 ⟨rfl, hb⟩
    have hs := hb.size
    rw [World.size_alloc] at hs
    go_wp2_with (refine wpList_store_new rfl 77 _ _ rfl (row 16 (trF t)) rfl rfl (by rw [row_size]; kernel_rfl) (by first | rfl | (rw [row_size, row_size]) | (simp [row_size]; done)) (row_one _ _) ?_)
    go_ret
    exact ⟨rfl, (bel_on hw0 hb (by simp)).alloc (by omega) _⟩
  cases hp : cvB p
  · go_enter Try.func39, Try.ntmps39
    go_wp2_with fail
    refine (i_readTrans _ _).mono ?_
    rw [hok]
    rintro e w1 ⟨rfl, hb⟩
    have hs := hb.size
    rw [World.size_alloc] at hs
    have hs' : w.heap.size < w1.heap.size := by omega
    have hc : w1.cell? ⟨w.heap.size, 0, none⟩ = some (.int .i64 p) := (hp0.later hb).get 0
    go_wp2_with (first | (refine wpList_store_new rfl 77 _ _ rfl (row 16 (trF t)) rfl rfl (by rw [row_size]; kernel_rfl) (by first | rfl | (rw [row_size, row_size]) | (simp [row_size]; done)) (row_one _ _) ?_) | (go_at_call 56; refine (i_ConditionValid _ _).mono ?_; rw [hp]; rintro e w2 ⟨rfl, rfl⟩))
    go_ret
    exact ⟨rfl, (bel_on hw0 hb (by simp)).alloc (by omega) _⟩
  · obtain ⟨n, hn, rfl⟩ := (cvB_iff p).1 hp
    go_enter Try.func39, Try.ntmps39
    go_wp2_with fail
    refine (i_readTrans _ _).mono ?_
    rw [hok]
    rintro e w1 ⟨rfl, hb⟩
    have hs := hb.size
    rw [World.size_alloc] at hs
    have hs' : w.heap.size < w1.heap.size := by omega
    have hc : w1.cell? ⟨w.heap.size, 0, none⟩ = some (.int .i64 (n : Int)) := (hp0.later hb).get 0
    go_wp2_with (first | (refine wpList_store_new rfl 77 _ _ rfl (row 16 (trF t)) rfl rfl (by rw [row_size]; kernel_rfl) (by first | rfl | (rw [row_size, row_size]) | (simp [row_size]; done)) (row_one _ _) ?_) | (go_at_call 56; refine (i_ConditionValid _ _).mono ?_; rw [hp]; rintro e w2 ⟨rfl, rfl⟩))
    refine (i_leastPoint _ (eqO (trF t) n) _ (fn_leastFrom _ _ _ (trF t) n (trF_lt t) hn (RowAt.fresh _ _ _) ((hp0.later hb).alloc _)) (eqO_bd (trF_bd t) hn) (eqO_mono (trF_mono t) n)).mono ?_
    rintro e w2 ⟨rfl, hb2⟩
    go_wp2_with fail
    go_ret
    exact ⟨by rw [trF_ok hok]; rfl, bel_on ((bel_on hw0 hb (by simp)).alloc (by omega) _) hb2 (by simp; omega)⟩
theorem i_GreatestIn (t : ByteArray) (p : Int) (w : World) : Calls Try.prog 40 #[.string t, .int .i64 p] w fun e w' => e = .returned (.int .i64 (optI (trOk t && cvB p) (gfp (eqA (dig t) p.toNat)))) ∧ Below w.heap.size w w' := by
  have hp0 := RowAt.fresh w 3 #[.int .i64 p]
  have hw0 : Below w.heap.size w (w.alloc (.cells #[.int .i64 p] 3)) := (Below.refl _ _).alloc (Nat.le_refl _) _
  cases hok : trOk t
  · go_enter Try.func40, Try.ntmps40
    go_wp2_with fail
    refine (i_readTrans _ _).mono ?_
    rw [hok]
    rintro e w1 ⟨rfl, hb⟩
    have hs := hb.size
    rw [World.size_alloc] at hs
    go_wp2_with (refine wpList_store_new rfl 77 _ _ rfl (row 16 (trF t)) rfl rfl (by rw [row_size]; kernel_rfl) (by first | rfl | (rw [row_size, row_size]) | (simp [row_size]; done)) (row_one _ _) ?_)
    go_ret
    exact ⟨rfl, (bel_on hw0 hb (by simp)).alloc (by omega) _⟩
  cases hp : cvB p
  · go_enter Try.func40, Try.ntmps40
    go_wp2_with fail
    refine (i_readTrans _ _).mono ?_
    rw [hok]
    rintro e w1 ⟨rfl, hb⟩
    have hs := hb.size
    rw [World.size_alloc] at hs
    have hs' : w.heap.size < w1.heap.size := by omega
    have hc : w1.cell? ⟨w.heap.size, 0, none⟩ = some (.int .i64 p) := (hp0.later hb).get 0
    go_wp2_with (first | (refine wpList_store_new rfl 77 _ _ rfl (row 16 (trF t)) rfl rfl (by rw [row_size]; kernel_rfl) (by first | rfl | (rw [row_size, row_size]) | (simp [row_size]; done)) (row_one _ _) ?_) | (go_at_call 56; refine (i_ConditionValid _ _).mono ?_; rw [hp]; rintro e w2 ⟨rfl, rfl⟩))
    go_ret
    exact ⟨rfl, (bel_on hw0 hb (by simp)).alloc (by omega) _⟩
  · obtain ⟨n, hn, rfl⟩ := (cvB_iff p).1 hp
    go_enter Try.func40, Try.ntmps40
    go_wp2_with fail
    refine (i_readTrans _ _).mono ?_
    rw [hok]
    rintro e w1 ⟨rfl, hb⟩
    have hs := hb.size
    rw [World.size_alloc] at hs
    have hs' : w.heap.size < w1.heap.size := by omega
    have hc : w1.cell? ⟨w.heap.size, 0, none⟩ = some (.int .i64 (n : Int)) := (hp0.later hb).get 0
    go_wp2_with (first | (refine wpList_store_new rfl 77 _ _ rfl (row 16 (trF t)) rfl rfl (by rw [row_size]; kernel_rfl) (by first | rfl | (rw [row_size, row_size]) | (simp [row_size]; done)) (row_one _ _) ?_) | (go_at_call 56; refine (i_ConditionValid _ _).mono ?_; rw [hp]; rintro e w2 ⟨rfl, rfl⟩))
    refine (i_greatestPoint _ (eqA (trF t) n) _ (fn_greatestIn _ _ _ (trF t) n (trF_lt t) hn (RowAt.fresh _ _ _) ((hp0.later hb).alloc _)) (eqA_bd hn) (eqA_mono (trF_mono t) n)).mono ?_
    rintro e w2 ⟨rfl, hb2⟩
    go_wp2_with fail
    go_ret
    exact ⟨by rw [trF_ok hok]; rfl, bel_on ((bel_on hw0 hb (by simp)).alloc (by omega) _) hb2 (by simp; omega)⟩
theorem i_KeepsInvariant (p : Int) (t : ByteArray) (v : Int) (w : World) : Calls Try.prog 53 #[.int .i64 p, .string t, .int .i64 v] w fun e w' => e = .returned (.bool (((trOk t && cvB p) && cvB v) && decide (andn (p.toNat &&& v.toNat) (dig t v.toNat) = 0))) ∧ Below w.heap.size w w' := by
  cases hok : (trOk t && cvB p)
  · go_enter Try.func53, Try.ntmps53
    go_wp2_with (first | (go_at_call 147; refine (i_body _ _ _).mono ?_; rw [hok]; rintro e w' ⟨rfl, hb⟩) | (refine wpList_store_new rfl 77 _ _ rfl (row 16 (trF t)) rfl rfl (by rw [row_size]; kernel_rfl) (by first | rfl | (rw [row_size, row_size]) | (simp [row_size]; done)) (row_one _ _) ?_))
    go_ret
    exact ⟨rfl, hb.alloc hb.size _⟩
  cases hv : cvB v
  · go_enter Try.func53, Try.ntmps53
    go_wp2_with (first | (go_at_call 147; refine (i_body _ _ _).mono ?_; rw [hok]; rintro e w' ⟨rfl, hb⟩) | (refine wpList_store_new rfl 77 _ _ rfl (row 16 (trF t)) rfl rfl (by rw [row_size]; kernel_rfl) (by first | rfl | (rw [row_size, row_size]) | (simp [row_size]; done)) (row_one _ _) ?_) | (go_at_call 56; refine (i_ConditionValid _ _).mono ?_; rw [hv]; rintro e w2 ⟨rfl, rfl⟩))
    go_ret
    exact ⟨rfl, hb.alloc hb.size _⟩
  · have hok' := hok
    rw [Bool.and_eq_true] at hok'
    have h1 := hok'.1
    have H1 := Lib.hid h1; clear h1
    obtain ⟨n, hn, rfl⟩ := (cvB_iff p).1 hok'.2
    obtain ⟨m, hm, rfl⟩ := (cvB_iff v).1 hv
    clear hok'
    have e1 := bits_and_nat n m (by omega) (by omega)
    have e2 := bits_andn_nat (n &&& m) (trF t m) (and_lt hn) (trF_lt _ _)
    go_enter Try.func53, Try.ntmps53
    go_wp2_with (first | (go_at_call 147; refine (i_body _ _ _).mono ?_; rw [hok]; rintro e w' ⟨rfl, hb⟩) | (refine wpList_store_new rfl 77 _ _ rfl (row 16 (trF t)) rfl rfl (by rw [row_size]; kernel_rfl) (by first | rfl | (rw [row_size, row_size]) | (simp [row_size]; done)) (row_one _ _) ?_) | (go_at_call 56; refine (i_ConditionValid _ _).mono ?_; rw [hv]; rintro e w2 ⟨rfl, rfl⟩; have hc : (w'.alloc (.cells (row 16 (trF t)) 77)).cell? ⟨w'.heap.size, m, none⟩ = _ := (RowAt.fresh w' 77 (row 16 (trF t))).cell m hm))
    go_ret
    refine ⟨ret_bool ?_, hb.alloc hb.size _⟩
    show ((andn (n &&& m) (trF t m) : Int) == 0) = decide (andn (n &&& m) (dig t m) = 0)
    rw [trF_ok H1.out]
    by_cases h : andn (n &&& m) (dig t m) = 0 <;> simp [h]
end Go.Proofs.Ytiaeakpgldpaiaa
