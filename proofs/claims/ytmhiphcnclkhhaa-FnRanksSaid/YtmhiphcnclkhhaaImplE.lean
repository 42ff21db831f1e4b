/- The program's operations on transformers. -/
import Derived.Test.YtmhiphcnclkhhaaImplD
namespace Go.Proofs.Ytmhiphcnclkhhaa
set_option linter.unusedSimpArgs false
set_option linter.unusedVariables false
set_option maxRecDepth 4000
open Go.RowKit

theorem bel_3 (w : World) (a b c : Obj) : Below w.heap.size w (((w.alloc a).alloc b).alloc c) := (((Below.refl _ _).alloc (Nat.le_refl _) _).alloc (by simp) _).alloc (by simp; omega) _
theorem bel_2 (w : World) (a b : Obj) : Below w.heap.size w ((w.alloc a).alloc b) := ((Below.refl _ _).alloc (Nat.le_refl _) _).alloc (by simp) _
theorem bel_1 (w : World) (a : Obj) : Below w.heap.size w (w.alloc a) := (Below.refl _ _).alloc (Nat.le_refl _) _

theorem fn_assert (w : World) (B : Nat) (p : Nat) (hp : p < 16) (h : RowAt w B 3 #[.int .i64 (p : Int)]) : FnIs Try.prog (.func (.func 124) #[] #[.pointer (some ⟨B, 0, none⟩)]) w (fun q => p &&& q) 16 :=
  ⟨124, _, rfl, enters_of Try.func124 (by kernel_rfl) rfl, fun W q hb hq => by
    have c : W.cell? ⟨B, 0, none⟩ = some (.int .i64 (p : Int)) := (h.later hb).get 0
    have e1 := bits_and_nat p q (by omega) (by omega)
    show Calls Try.prog 124 #[.int .i64 (q : Int), .pointer (some ⟨B, 0, none⟩)] W _
    go_enter Try.func124, Try.ntmps124
    go_wp2
    go_ret
    exact ⟨rfl, Below.refl _ _⟩⟩
theorem i_assert (p : Nat) (w : World) (hp : p < 16) : Calls Try.prog 82 #[.int .i64 (p : Int)] w fun e w' => e = .returned (.agg (row 16 (fun q => p &&& q))) ∧ Below w.heap.size w w' := by
  have h1 := (RowAt.fresh w 3 #[.int .i64 (p : Int)]).alloc (.cells (row 16 (fun _ => 0)) 66)
  have h2 := RowAt.fresh1 w (.cells #[.int .i64 (p : Int)] 3) 66 (row 16 (fun _ => 0))
  go_enter Try.func82, Try.ntmps82
  go_wp2_with fail
  refine (i_makeTrans _ (fun q => p &&& q) _ (fn_assert _ _ p hp h1)).mono ?_
  rintro e w1 ⟨rfl, hb⟩
  have hr := (h2).later hb
  go_wp2_with (refine wpList_store_row rfl 66 _ _ rfl (w.heap.size + 1) (row 16 (fun q => p &&& q)) rfl rfl 66 _ hr (by rw [row_size]; kernel_rfl) (by first | rfl | (rw [row_size, row_size]) | (simp [row_size]; done)) (row_one _ _) ?_)
  refine bodyPost_ret (results_cell_row rfl _ _ (w.heap.size + 1) 66 _ (0, 0) _ rfl (hr.put _) Try.underlying66 rfl (by rw [row_size]; kernel_rfl)) rfl ⟨rfl, ?_⟩
  exact bel_setRow (bel_on (bel_2 w _ _) hb (by simp; omega)) (by omega) _
theorem fn_then (w : World) (B C : Nat) (T U : Nat → Nat) (hU : Bd U) (h1 : RowAt w B 66 (row 16 T)) (h2 : RowAt w C 66 (row 16 U)) : FnIs Try.prog (.func (.func 127) #[] #[.pointer (some ⟨B, 0, none⟩), .pointer (some ⟨C, 0, none⟩)]) w (fun p => T (U p)) 16 :=
  ⟨127, _, rfl, enters_of Try.func127 (by kernel_rfl) rfl, fun W p hb hp => by
    have c2 := (h2.later hb).cell p hp
    have c1 := (h1.later hb).cell (U p) (hU p hp)
    have hu := hU p hp
    show Calls Try.prog 127 #[.int .i64 (p : Int), .pointer (some ⟨B, 0, none⟩), .pointer (some ⟨C, 0, none⟩)] W _
    clear hU h1 h2
    go_enter Try.func127, Try.ntmps127
    go_wp2
    go_ret
    exact ⟨rfl, Below.refl _ _⟩⟩
theorem i_then (T U : Nat → Nat) (w : World) (hU : Bd U) : Calls Try.prog 87 #[.agg (row 16 T), .agg (row 16 U)] w fun e w' => e = .returned (.agg (row 16 (fun p => T (U p)))) ∧ Below w.heap.size w w' := by
  have h1 := ((RowAt.fresh w 66 (row 16 T)).alloc (.cells (row 16 U) 66)).alloc (.cells (row 16 (fun _ => 0)) 66)
  have h2 := (RowAt.fresh1 w (.cells (row 16 T) 66) 66 (row 16 U)).alloc (.cells (row 16 (fun _ => 0)) 66)
  have h3 := RowAt.fresh2 w (.cells (row 16 T) 66) (.cells (row 16 U) 66) 66 (row 16 (fun _ => 0))
  go_enter Try.func87, Try.ntmps87
  go_wp2_with fail
  refine (i_makeTrans _ (fun p => T (U p)) _ (fn_then _ _ _ T U hU h1 h2)).mono ?_
  rintro e w1 ⟨rfl, hb⟩
  have hr := (h3).later hb
  go_wp2_with (refine wpList_store_row rfl 66 _ _ rfl (w.heap.size + 2) (row 16 (fun p => T (U p))) rfl rfl 66 _ hr (by rw [row_size]; kernel_rfl) (by first | rfl | (rw [row_size, row_size]) | (simp [row_size]; done)) (row_one _ _) ?_)
  refine bodyPost_ret (results_cell_row rfl _ _ (w.heap.size + 2) 66 _ (0, 0) _ rfl (hr.put _) Try.underlying66 rfl (by rw [row_size]; kernel_rfl)) rfl ⟨rfl, ?_⟩
  exact bel_setRow (bel_on (bel_3 w _ _ _) hb (by simp; omega)) (by omega) _
theorem fn_beforeMost (w : World) (B C : Nat) (T U : Nat → Nat) (hT : ∀ k, T k < 16) (hU : ∀ k, U k < 16) (h1 : RowAt w B 66 (row 16 T)) (h2 : RowAt w C 66 (row 16 U)) : FnIs Try.prog (.func (.func 123) #[] #[.pointer (some ⟨B, 0, none⟩), .pointer (some ⟨C, 0, none⟩)]) w (fun p => fMost T U p 16) 16 :=
  ⟨123, _, rfl, enters_of Try.func123 (by kernel_rfl) rfl, fun W p hb hp => by
    have r2 := (h2.later hb)
    have r1 := (h1.later hb)
    show Calls Try.prog 123 #[.int .i64 (p : Int), .pointer (some ⟨B, 0, none⟩), .pointer (some ⟨C, 0, none⟩)] W _
    clear h1 h2 hb
    have HT := Lib.hid hT; have HU := Lib.hid hU; clear hT hU
    go_enter Try.func123, Try.ntmps123
    go_wp2
    go_loop [5, 7] (fun o t => ∃ k : Nat, k ≤ 16 ∧ t = .int .i64 k ∧ o = .int .i64 (fMost T U p k : Int)) (fun _ t => 16 - (intOf t).toNat)
    case atStart => exact ⟨0, by omega, rfl, rfl⟩
    case round =>
      obtain ⟨k, hk, rfl, rfl⟩ := hrel
      by_cases hlt : k < 16
      · have c1 := r1.cell k hlt
        have c2 := r2.cell k hlt
        have e1 := bits_andn_nat p (T k) hp (HT.out k)
        have hF := fMost_lt T U p k
        have e2 := bits_and_nat (fMost T U p k) (U k) (by omega) (by have := HU.out k; omega)
        by_cases ha : andn p (T k) = 0
        · have b1 : ((andn p (T k) : Int) == 0) = true := by simp [ha]
          have HA := Lib.hid ha; clear ha
          go_wp2
          go_round
          case rel => exact ⟨k + 1, by omega, by go_num, by rw [fMost, if_pos HA.out]⟩
          case measure => simp [intOf]; omega
        · have b1 : ((andn p (T k) : Int) == 0) = false := by rw [beq_eq_false_iff_ne]; omega
          have HA := Lib.hid ha; clear ha
          go_wp2
          go_round
          case rel => exact ⟨k + 1, by omega, by go_num, by rw [fMost, if_neg HA.out]⟩
          case measure => simp [intOf]; omega
      · obtain rfl : k = 16 := by omega
        go_wp2
        go_ret
        exact ⟨rfl, Below.refl _ _⟩⟩
theorem i_beforeMost (T U : Nat → Nat) (w : World) (hT : ∀ k, T k < 16) (hU : ∀ k, U k < 16) : Calls Try.prog 81 #[.agg (row 16 T), .agg (row 16 U)] w fun e w' => e = .returned (.agg (row 16 (fun p => fMost T U p 16))) ∧ Below w.heap.size w w' := by
  have h1 := ((RowAt.fresh w 66 (row 16 T)).alloc (.cells (row 16 U) 66)).alloc (.cells (row 16 (fun _ => 0)) 66)
  have h2 := (RowAt.fresh1 w (.cells (row 16 T) 66) 66 (row 16 U)).alloc (.cells (row 16 (fun _ => 0)) 66)
  have h3 := RowAt.fresh2 w (.cells (row 16 T) 66) (.cells (row 16 U) 66) 66 (row 16 (fun _ => 0))
  go_enter Try.func81, Try.ntmps81
  go_wp2_with fail
  refine (i_makeTrans _ (fun p => fMost T U p 16) _ (fn_beforeMost _ _ _ T U hT hU h1 h2)).mono ?_
  rintro e w1 ⟨rfl, hb⟩
  have hr := (h3).later hb
  go_wp2_with (refine wpList_store_row rfl 66 _ _ rfl (w.heap.size + 2) (row 16 (fun p => fMost T U p 16)) rfl rfl 66 _ hr (by rw [row_size]; kernel_rfl) (by first | rfl | (rw [row_size, row_size]) | (simp [row_size]; done)) (row_one _ _) ?_)
  refine bodyPost_ret (results_cell_row rfl _ _ (w.heap.size + 2) 66 _ (0, 0) _ rfl (hr.put _) Try.underlying66 rfl (by rw [row_size]; kernel_rfl)) rfl ⟨rfl, ?_⟩
  exact bel_setRow (bel_on (bel_3 w _ _ _) hb (by simp; omega)) (by omega) _
theorem fn_points (w : World) (B : Nat) (T : Nat → Nat) (h1 : RowAt w B 66 (row 16 T)) : PrIs Try.prog (.func (.func 117) #[] #[.pointer (some ⟨B, 0, none⟩)]) w (fun p => decide (T p = p)) 16 :=
  ⟨117, _, rfl, enters_of Try.func117 (by kernel_rfl) rfl, fun W p hb hp => by
    have c1 := (h1.later hb).cell p hp
    show Calls Try.prog 117 #[.int .i64 (p : Int), .pointer (some ⟨B, 0, none⟩)] W _
    go_enter Try.func117, Try.ntmps117
    go_wp2
    go_ret
    refine ⟨ret_bool ?_, Below.refl _ _⟩
    show ((T p : Int) == (p : Int)) = decide (T p = p)
    by_cases h : T p = p <;> simp [h]; omega⟩
theorem fn_leastPoint (w : World) (B : Nat) (T : Nat → Nat) (h1 : RowAt w B 66 (row 16 T)) : FnIs Try.prog (.func (.func 101) #[] #[.pointer (some ⟨B, 0, none⟩)]) w T 16 :=
  ⟨101, _, rfl, enters_of Try.func101 (by kernel_rfl) rfl, fun W p hb hp => by
    have c1 := (h1.later hb).cell p hp
    show Calls Try.prog 101 #[.int .i64 (p : Int), .pointer (some ⟨B, 0, none⟩)] W _
    go_enter Try.func101, Try.ntmps101
    go_wp2
    go_ret
    exact ⟨rfl, Below.refl _ _⟩⟩
theorem fn_greatestPoint (w : World) (B : Nat) (T : Nat → Nat) (h1 : RowAt w B 66 (row 16 T)) : FnIs Try.prog (.func (.func 103) #[] #[.pointer (some ⟨B, 0, none⟩)]) w T 16 :=
  ⟨103, _, rfl, enters_of Try.func103 (by kernel_rfl) rfl, fun W p hb hp => by
    have c1 := (h1.later hb).cell p hp
    show Calls Try.prog 103 #[.int .i64 (p : Int), .pointer (some ⟨B, 0, none⟩)] W _
    go_enter Try.func103, Try.ntmps103
    go_wp2
    go_ret
    exact ⟨rfl, Below.refl _ _⟩⟩
theorem fn_greatestIn (w : World) (B C : Nat) (T : Nat → Nat) (q : Nat) (hT : ∀ k, T k < 16) (hq : q < 16) (h1 : RowAt w B 66 (row 16 T)) (h2 : RowAt w C 3 #[.int .i64 (q : Int)]) : FnIs Try.prog (.func (.func 112) #[] #[.pointer (some ⟨B, 0, none⟩), .pointer (some ⟨C, 0, none⟩)]) w (eqA T q) 16 :=
  ⟨112, _, rfl, enters_of Try.func112 (by kernel_rfl) rfl, fun W p hb hp => by
    have c1 := (h1.later hb).cell p hp
    have c2 : W.cell? ⟨C, 0, none⟩ = some (.int .i64 (q : Int)) := (h2.later hb).get 0
    have e1 := bits_and_nat (T p) q (by have := hT p; omega) (by omega)
    have i1 := lt_cast hp
    show Calls Try.prog 112 #[.int .i64 (p : Int), .pointer (some ⟨B, 0, none⟩), .pointer (some ⟨C, 0, none⟩)] W _
    clear h1 h2 hT hb
    go_enter Try.func112, Try.ntmps112
    go_wp2
    go_quiet (fail)
    go_wp2
    go_ret
    exact ⟨rfl, bel_drewN (Below.refl _ _) _⟩⟩
theorem fn_leastFrom (w : World) (B C : Nat) (T : Nat → Nat) (q : Nat) (hT : ∀ k, T k < 16) (hq : q < 16) (h1 : RowAt w B 66 (row 16 T)) (h2 : RowAt w C 3 #[.int .i64 (q : Int)]) : FnIs Try.prog (.func (.func 97) #[] #[.pointer (some ⟨B, 0, none⟩), .pointer (some ⟨C, 0, none⟩)]) w (eqO T q) 16 :=
  ⟨97, _, rfl, enters_of Try.func97 (by kernel_rfl) rfl, fun W p hb hp => by
    have c1 := (h1.later hb).cell p hp
    have c2 : W.cell? ⟨C, 0, none⟩ = some (.int .i64 (q : Int)) := (h2.later hb).get 0
    have e1 := bits_or_nat (T p) q (by have := hT p; omega) (by omega)
    have i1 := lt_cast hp
    show Calls Try.prog 97 #[.int .i64 (p : Int), .pointer (some ⟨B, 0, none⟩), .pointer (some ⟨C, 0, none⟩)] W _
    clear h1 h2 hT hb
    go_enter Try.func97, Try.ntmps97
    go_wp2
    go_quiet (fail)
    go_wp2
    go_ret
    exact ⟨rfl, bel_drewN (Below.refl _ _) _⟩⟩
theorem fn_unroll (w : World) (A B C : Nat) (p : Nat) (T U : Nat → Nat) (hT : ∀ k, T k < 16) (hU : Bd U) (hp : p < 16) (h0 : RowAt w A 3 #[.int .i64 (p : Int)]) (h1 : RowAt w B 66 (row 16 T)) (h2 : RowAt w C 66 (row 16 U)) : FnIs Try.prog (.func (.func 109) #[] #[.pointer (some ⟨A, 0, none⟩), .pointer (some ⟨B, 0, none⟩), .pointer (some ⟨C, 0, none⟩)]) w (fun q => turn p (T (U q)) q) 16 :=
  ⟨109, _, rfl, enters_of Try.func109 (by kernel_rfl) rfl, fun W q hb hq => by
    have hu := hU q hq
    have c0 : W.cell? ⟨A, 0, none⟩ = some (.int .i64 (p : Int)) := (h0.later hb).get 0
    have c1 := (h1.later hb).cell (U q) hu
    have c2 := (h2.later hb).cell q hq
    have e1 := bits_and_nat p (T (U q)) (by omega) (by have := hT (U q); omega)
    have e2 := bits_andn_nat q p hq hp
    have e3 := bits_or_nat (p &&& T (U q)) (andn q p) (by have := and_lt (b := T (U q)) hp; omega) (by have := andn_lt (b := p) hq; omega)
    have i1 := lt_cast hu
    have i2 := lt_cast hq
    show Calls Try.prog 109 #[.int .i64 (q : Int), .pointer (some ⟨A, 0, none⟩), .pointer (some ⟨B, 0, none⟩), .pointer (some ⟨C, 0, none⟩)] W _
    clear h0 h1 h2 hT hU hb
    go_enter Try.func109, Try.ntmps109
    go_wp2
    go_quiet (fail)
    go_wp2
    go_ret
    exact ⟨rfl, bel_drewN (Below.refl _ _) _⟩⟩
end Go.Proofs.Ytmhiphcnclkhhaa
