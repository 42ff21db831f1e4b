/- The program's relations: diamonds, boxes, turns, compositions, and the transformers made of them. -/
import Derived.Test.YtiaeakpgldpaiaaQImplI
import Derived.Test.YtiaeakpgldpaiaaQImplS
import Derived.Test.YtiaeakpgldpaiaaQJ1
namespace Go.Proofs.Ytiaeakpgldpaiaa
set_option linter.unusedSimpArgs false
set_option linter.unusedVariables false
set_option maxRecDepth 4000
open Go.RowKit

set_option maxHeartbeats 400000 in
theorem i_states (fv : Value) (f : Nat → Bool) (w : World) (hf : PrIs Try.prog fv w f 4) : Calls Try.prog 152 #[fv] w fun e w' => e = .returned (.int .i64 (mkC f 4 : Int)) ∧ Below w.heap.size w w' := by
  obtain ⟨g, lb, rfl, hent, hcall⟩ := hf
  have HC := Lib.hid hcall; clear hcall
  go_enter Try.func152, Try.ntmps152
  go_wp2_with fail
  go_loopw [3, 5] (fun o t wr => ∃ k : Nat, k ≤ 4 ∧ t = .int .i64 k ∧ o = .int .i64 (mkC f k : Int) ∧ Below w.heap.size w wr) (fun _ t _ => (4 - intOf t).toNat)
  case atStart => exact ⟨0, by omega, rfl, rfl, Below.refl _ _⟩
  case round =>
    obtain ⟨k, hk, rfl, rfl, hb⟩ := hrel
    by_cases hlt : k < 4
    · have e1 := wrap_one (t := k) (by omega)
      have hz : mkC f k < 16 := Nat.lt_of_lt_of_le (mkC_lt _ k) (Nat.pow_le_pow_right (n := 2) (j := 4) (by decide) hk)
      have e2 := bits_or_nat (mkC f k) (one k) (by omega) (one_lt16 (by omega))
      cases hp : f k
      all_goals
        have HP := Lib.hid hp; clear hp
        go_wp2_with fail
        refine (HC.out _ k hb hlt).mono ?_
        rw [HP.out]
        rintro e w1 ⟨rfl, hb1⟩
        go_wp2_with fail
        go_roundw
        case rel => exact ⟨k + 1, by omega, by go_num, by rw [mkC, HP.out]; rfl, bel_on hb hb1 hb.size⟩
        case measure => simp [intOf]; omega
    · obtain rfl : k = 4 := by omega
      go_wp2_with fail
      go_ret
      exact ⟨rfl, hb⟩
theorem fn_diamond (w : World) (B C : Nat) (R : Nat → Nat) (q : Nat) (hR : ∀ k, R k < 16) (hq : q < 16) (h1 : RowAt w B 68 (row 4 R)) (h2 : RowAt w C 3 #[.int .i64 (q : Int)]) : PrIs Try.prog (.func (.func 205) #[] #[.pointer (some ⟨B, 0, none⟩), .pointer (some ⟨C, 0, none⟩)]) w (fun s => decide (R s &&& q ≠ 0)) 4 :=
  ⟨205, _, rfl, enters_of Try.func205 (by kernel_rfl) rfl, fun W s hb hs => by
    have c1 := (h1.later hb).cell s hs
    have c2 : W.cell? ⟨C, 0, none⟩ = some (.int .i64 (q : Int)) := (h2.later hb).get 0
    have e1 := bits_and_nat (R s) q (by have := hR s; omega) (by omega)
    have i1 := lt_cast hs
    show Calls Try.prog 205 #[.int .i64 (s : Int), .pointer (some ⟨B, 0, none⟩), .pointer (some ⟨C, 0, none⟩)] W _
    clear h1 h2 hR hb
    go_enter Try.func205, Try.ntmps205
    go_wp2
    go_quiet (fail)
    go_wp2
    go_ret
    refine ⟨ret_bool ?_, bel_drewN (Below.refl _ _) _⟩
    show (((R s &&& q : Nat) : Int) != 0) = decide (R s &&& q ≠ 0)
    by_cases h : R s &&& q = 0
    · simp [h]
    · rw [decide_eq_true h, bne_iff_ne]; omega⟩
theorem i_diamond (R : Nat → Nat) (p : Nat) (w : World) (hR : ∀ k, R k < 16) (hp : p < 16) : Calls Try.prog 127 #[.agg (row 4 R), .int .i64 (p : Int)] w fun e w' => e = .returned (.int .i64 ((fDia R p 4 : Nat) : Int)) ∧ Below w.heap.size w w' := by
  have h1 := (RowAt.fresh w 68 (row 4 R)).alloc (.cells #[.int .i64 (p : Int)] 3)
  have h2 := RowAt.fresh1 w (.cells (row 4 R) 68) 3 #[.int .i64 (p : Int)]
  have HF := Lib.hid (fn_diamond _ _ _ R p hR hp h1 h2); clear h1 h2
  go_enter Try.func127, Try.ntmps127
  go_wp2_with fail
  refine (i_states _ _ _ HF.out).mono fun e w1 (h : e = .returned (.int .i64 ((fDia R p 4 : Nat) : Int)) ∧ Below _ _ w1) => ?_
  obtain ⟨rfl, hb⟩ := h
  go_wp2_with fail
  go_ret
  exact ⟨rfl, bel_on (bel_2 w _ _) hb (by simp; omega)⟩
theorem fn_box (w : World) (B C : Nat) (R : Nat → Nat) (q : Nat) (hR : ∀ k, R k < 16) (hq : q < 16) (h1 : RowAt w B 68 (row 4 R)) (h2 : RowAt w C 3 #[.int .i64 (q : Int)]) : PrIs Try.prog (.func (.func 201) #[] #[.pointer (some ⟨B, 0, none⟩), .pointer (some ⟨C, 0, none⟩)]) w (fun s => decide (andn (R s) q = 0)) 4 :=
  ⟨201, _, rfl, enters_of Try.func201 (by kernel_rfl) rfl, fun W s hb hs => by
    have c1 := (h1.later hb).cell s hs
    have c2 : W.cell? ⟨C, 0, none⟩ = some (.int .i64 (q : Int)) := (h2.later hb).get 0
    have e1 := bits_andn_nat (R s) q (hR s) hq
    have i1 := lt_cast hs
    show Calls Try.prog 201 #[.int .i64 (s : Int), .pointer (some ⟨B, 0, none⟩), .pointer (some ⟨C, 0, none⟩)] W _
    clear h1 h2 hR hb
    go_enter Try.func201, Try.ntmps201
    go_wp2
    go_quiet (fail)
    go_wp2
    go_ret
    refine ⟨ret_bool ?_, bel_drewN (Below.refl _ _) _⟩
    show ((andn (R s) q : Int) == 0) = decide (andn (R s) q = 0)
    by_cases h : andn (R s) q = 0
    · simp [h]
    · rw [decide_eq_false h, beq_eq_false_iff_ne]; omega⟩
theorem i_box (R : Nat → Nat) (p : Nat) (w : World) (hR : ∀ k, R k < 16) (hp : p < 16) : Calls Try.prog 117 #[.agg (row 4 R), .int .i64 (p : Int)] w fun e w' => e = .returned (.int .i64 ((fBox R p : Nat) : Int)) ∧ Below w.heap.size w w' := by
  have h1 := (RowAt.fresh w 68 (row 4 R)).alloc (.cells #[.int .i64 (p : Int)] 3)
  have h2 := RowAt.fresh1 w (.cells (row 4 R) 68) 3 #[.int .i64 (p : Int)]
  have HF := Lib.hid (fn_box _ _ _ R p hR hp h1 h2); clear h1 h2
  go_enter Try.func117, Try.ntmps117
  go_wp2_with fail
  refine (i_states _ _ _ HF.out).mono fun e w1 (h : e = .returned (.int .i64 ((fBox R p : Nat) : Int)) ∧ Below _ _ w1) => ?_
  obtain ⟨rfl, hb⟩ := h
  go_wp2_with fail
  go_ret
  exact ⟨rfl, bel_on (bel_2 w _ _) hb (by simp; omega)⟩
theorem i_has (R : Nat → Nat) (s t : Nat) (w : World) (hR : ∀ k, R k < 16) (hs : s < 4) (ht : t < 4) : Calls Try.prog 121 #[.agg (row 4 R), .int .i64 (s : Int), .int .i64 (t : Int)] w fun e w' => e = .returned (.bool ((R s).testBit t)) ∧ Below w.heap.size w w' := by
  have h1 := RowAt.fresh w 68 (row 4 R)
  have c1 := h1.cell s hs
  have e1 := bits_has' (R s) t (by have := hR s; omega)
  clear h1 hR
  go_enter Try.func121, Try.ntmps121
  go_wp2_with fail
  go_ret
  exact ⟨rfl, bel_1 w _⟩
set_option maxHeartbeats 400000 in
/-- A table made by a method that holds its receiver. -/
theorem i_makeTransB (g : Nat) (x : Value) (F : Nat → Nat) (w : World) (hent : ∀ args w, (callFunc g args).run Try.prog w = .ok (.enter g args) w) (hcall : ∀ (W : World) (p : Nat), p < 16 → Calls Try.prog g #[x, .int .i64 (p : Int)] W fun e W' => e = .returned (.int .i64 (F p : Int)) ∧ Below W.heap.size W W') : Calls Try.prog 192 #[.func (.func g) #[x] #[]] w fun e w' => e = .returned (.agg (row 16 F)) ∧ Below w.heap.size w w' := by
  have HC := Lib.hid hcall; clear hcall
  go_enter Try.func192, Try.ntmps192
  go_wp2
  go_loopw [6] (fun t wr => ∃ k : Nat, k ≤ 16 ∧ t = .int .i64 k ∧ RowAt wr (w.heap.size + 1) 77 (row 16 (fun i => if i < k then F i else 0)) ∧ RowAt wr w.heap.size 77 (row 16 (fun _ => 0)) ∧ Below w.heap.size w wr) (fun t _ => (16 - intOf t).toNat)
  case atStart =>
    exact ⟨0, by omega, rfl, RowAt.fresh1 _ _ _ _, (RowAt.fresh _ _ _).alloc _, ((Below.refl _ _).alloc (Nat.le_refl _) _).alloc (by simp) _⟩
  case round =>
    obtain ⟨k, hk, rfl, hr1, hr0, hb⟩ := hrel
    by_cases hlt : k < 16
    · go_wp2
      refine (HC.out _ k hlt).mono ?_
      rintro e w1 ⟨rfl, hb1⟩
      have hr1' := hr1.later hb1
      have hr0' := hr0.later hb1
      have hc := hr1'.cell k hlt
      have hf := hr1'.free k
      go_wp2
      go_roundw
      case rel =>
        exact ⟨k + 1, by omega, by go_num, (hr1'.set k (F k)).of (row_congr fun i hi => by unfold upd; split <;> split <;> simp_all <;> omega), hr0'.other _ _ (by simp), (bel_on hb hb1 (by have := hb.size; omega)).setCell (by simp) _⟩
      case measure => simp [intOf]; omega
    · obtain rfl : k = 16 := by omega
      have hr1 := hr1.of (row_congr (G := F) (fun i hi => by simp [hi]))
      go_wp2_with (first | (refine wpList_load_row rfl 77 _ rfl (w.heap.size + 1) rfl 77 (row 16 F) (0, 0) _ hr1 Try.underlying77 rfl (by rw [row_size]; kernel_rfl) ?_) | (refine wpList_store_row rfl 77 _ _ rfl w.heap.size (row 16 F) rfl rfl 77 _ hr0 (by rw [row_size]; kernel_rfl) (by rw [row_size, row_size]) (row_one _ _) ?_))
      have hr := hr0.put (row 16 F)
      exact bodyPost_ret (results_cell_row rfl _ _ w.heap.size 77 (row 16 F) (0, 0) _ rfl hr Try.underlying77 rfl (by rw [row_size]; kernel_rfl)) rfl ⟨rfl, bel_setRow hb (Nat.le_refl _) _⟩
theorem i_angel (R : Nat → Nat) (w : World) (hR : ∀ k, R k < 16) : Calls Try.prog 191 #[.agg (row 4 R)] w fun e w' => e = .returned (.agg (row 16 (fun p => fDia R p 4))) ∧ Below w.heap.size w w' := by
  have r1 := (RowAt.fresh w 68 (row 4 R)).alloc (.cells (row 16 (fun _ => 0)) 77)
  have r2 := RowAt.fresh1 w (.cells (row 4 R) 68) 77 (row 16 (fun _ => 0))
  go_enter Try.func191, Try.ntmps191
  go_wp2_with (refine wpList_load_row rfl 68 _ rfl (w.heap.size) rfl 68 (row 4 R) (0, 0) _ r1 Try.underlying68 rfl (by rw [row_size]; kernel_rfl) ?_)
  refine (i_makeTransB 127 (.agg (row 4 R)) (fun p => fDia R p 4) _ (enters_of Try.func127 (by kernel_rfl) rfl) (fun W p hp => i_diamond R p W hR hp)).mono ?_
  rintro e w1 ⟨rfl, hb⟩
  have hr := r2.later hb
  go_wp2_with (refine wpList_store_row rfl 77 _ _ rfl (w.heap.size + 1) (row 16 (fun p => fDia R p 4)) rfl rfl 77 _ hr (by rw [row_size]; kernel_rfl) (by first | rfl | (rw [row_size, row_size]) | (simp [row_size]; done)) (row_one _ _) ?_)
  refine bodyPost_ret (results_cell_row rfl _ _ (w.heap.size + 1) 77 _ (0, 0) _ rfl (hr.put _) Try.underlying77 rfl (by rw [row_size]; kernel_rfl)) rfl ⟨rfl, ?_⟩
  exact bel_setRow (bel_on (bel_2 w _ _) hb (by simp; omega)) (by omega) _
theorem i_demon (R : Nat → Nat) (w : World) (hR : ∀ k, R k < 16) : Calls Try.prog 181 #[.agg (row 4 R)] w fun e w' => e = .returned (.agg (row 16 (fun p => fBox R p))) ∧ Below w.heap.size w w' := by
  have r1 := (RowAt.fresh w 68 (row 4 R)).alloc (.cells (row 16 (fun _ => 0)) 77)
  have r2 := RowAt.fresh1 w (.cells (row 4 R) 68) 77 (row 16 (fun _ => 0))
  go_enter Try.func181, Try.ntmps181
  go_wp2_with (refine wpList_load_row rfl 68 _ rfl (w.heap.size) rfl 68 (row 4 R) (0, 0) _ r1 Try.underlying68 rfl (by rw [row_size]; kernel_rfl) ?_)
  refine (i_makeTransB 117 (.agg (row 4 R)) (fun p => fBox R p) _ (enters_of Try.func117 (by kernel_rfl) rfl) (fun W p hp => i_box R p W hR hp)).mono ?_
  rintro e w1 ⟨rfl, hb⟩
  have hr := r2.later hb
  go_wp2_with (refine wpList_store_row rfl 77 _ _ rfl (w.heap.size + 1) (row 16 (fun p => fBox R p)) rfl rfl 77 _ hr (by rw [row_size]; kernel_rfl) (by first | rfl | (rw [row_size, row_size]) | (simp [row_size]; done)) (row_one _ _) ?_)
  refine bodyPost_ret (results_cell_row rfl _ _ (w.heap.size + 1) 77 _ (0, 0) _ rfl (hr.put _) Try.underlying77 rfl (by rw [row_size]; kernel_rfl)) rfl ⟨rfl, ?_⟩
  exact bel_setRow (bel_on (bel_2 w _ _) hb (by simp; omega)) (by omega) _
end Go.Proofs.Ytiaeakpgldpaiaa
