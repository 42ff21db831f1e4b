/- The program's operations on transformers. -/
import Derived.Test.YtiaeakpgldpaiaaImplD
namespace Go.Proofs.Ytiaeakpgldpaiaa
set_option linter.unusedSimpArgs false
set_option linter.unusedVariables false
set_option maxRecDepth 4000
open Go.RowKit

theorem bel_3 (w : World) (a b c : Obj) : Below w.heap.size w (((w.alloc a).alloc b).alloc c) := (((Below.refl _ _).alloc (Nat.le_refl _) _).alloc (by simp) _).alloc (by simp; omega) _
theorem bel_2 (w : World) (a b : Obj) : Below w.heap.size w ((w.alloc a).alloc b) := ((Below.refl _ _).alloc (Nat.le_refl _) _).alloc (by simp) _
theorem bel_1 (w : World) (a : Obj) : Below w.heap.size w (w.alloc a) := (Below.refl _ _).alloc (Nat.le_refl _) _

theorem fn_assert (w : World) (B : Nat) (p : Nat) (hp : p < 16) (h : RowAt w B 3 #[.int .i64 (p : Int)]) : FnIs Try.prog (.func (.func 224) #[] #[.pointer (some ⟨B, 0, none⟩)]) w (fun q => p &&& q) 16 :=
  ⟨224, _, rfl, enters_of Try.func224 (by kernel_rfl) rfl, fun W q hb hq => by
    have c : W.cell? ⟨B, 0, none⟩ = some (.int .i64 (p : Int)) := (h.later hb).get 0
    have e1 := bits_and_nat p q (by omega) (by omega)
    show Calls Try.prog 224 #[.int .i64 (q : Int), .pointer (some ⟨B, 0, none⟩)] W _
    go_enter Try.func224, Try.ntmps224
    go_wp2
    go_ret
    exact ⟨rfl, Below.refl _ _⟩⟩
theorem i_assert (p : Nat) (w : World) (hp : p < 16) : Calls Try.prog 155 #[.int .i64 (p : Int)] w fun e w' => e = .returned (.agg (row 16 (fun q => p &&& q))) ∧ Below w.heap.size w w' := by
  have h1 := (RowAt.fresh w 3 #[.int .i64 (p : Int)]).alloc (.cells (row 16 (fun _ => 0)) 77)
  have h2 := RowAt.fresh1 w (.cells #[.int .i64 (p : Int)] 3) 77 (row 16 (fun _ => 0))
  go_enter Try.func155, Try.ntmps155
  go_wp2_with fail
  refine (i_makeTrans _ (fun q => p &&& q) _ (fn_assert _ _ p hp h1)).mono ?_
  rintro e w1 ⟨rfl, hb⟩
  have hr := (h2).later hb
  go_wp2_with (refine wpList_store_row rfl 77 _ _ rfl (w.heap.size + 1) (row 16 (fun q => p &&& q)) rfl rfl 77 _ hr (by rw [row_size]; kernel_rfl) (by first | rfl | (rw [row_size, row_size]) | (simp [row_size]; done)) (row_one _ _) ?_)
  refine bodyPost_ret (results_cell_row rfl _ _ (w.heap.size + 1) 77 _ (0, 0) _ rfl (hr.put _) Try.underlying77 rfl (by rw [row_size]; kernel_rfl)) rfl ⟨rfl, ?_⟩
  exact bel_setRow (bel_on (bel_2 w _ _) hb (by simp; omega)) (by omega) _
theorem fn_then (w : World) (B C : Nat) (T U : Nat → Nat) (hU : Bd U) (h1 : RowAt w B 77 (row 16 T)) (h2 : RowAt w C 77 (row 16 U)) : FnIs Try.prog (.func (.func 225) #[] #[.pointer (some ⟨B, 0, none⟩), .pointer (some ⟨C, 0, none⟩)]) w (fun p => T (U p)) 16 :=
  ⟨225, _, rfl, enters_of Try.func225 (by kernel_rfl) rfl, fun W p hb hp => by
    have c2 := (h2.later hb).cell p hp
    have c1 := (h1.later hb).cell (U p) (hU p hp)
    have hu := hU p hp
    show Calls Try.prog 225 #[.int .i64 (p : Int), .pointer (some ⟨B, 0, none⟩), .pointer (some ⟨C, 0, none⟩)] W _
    clear hU h1 h2
    go_enter Try.func225, Try.ntmps225
    go_wp2
    go_ret
    exact ⟨rfl, Below.refl _ _⟩⟩
theorem i_then (T U : Nat → Nat) (w : World) (hU : Bd U) : Calls Try.prog 156 #[.agg (row 16 T), .agg (row 16 U)] w fun e w' => e = .returned (.agg (row 16 (fun p => T (U p)))) ∧ Below w.heap.size w w' := by
  have h1 := ((RowAt.fresh w 77 (row 16 T)).alloc (.cells (row 16 U) 77)).alloc (.cells (row 16 (fun _ => 0)) 77)
  have h2 := (RowAt.fresh1 w (.cells (row 16 T) 77) 77 (row 16 U)).alloc (.cells (row 16 (fun _ => 0)) 77)
  have h3 := RowAt.fresh2 w (.cells (row 16 T) 77) (.cells (row 16 U) 77) 77 (row 16 (fun _ => 0))
  go_enter Try.func156, Try.ntmps156
  go_wp2_with fail
  refine (i_makeTrans _ (fun p => T (U p)) _ (fn_then _ _ _ T U hU h1 h2)).mono ?_
  rintro e w1 ⟨rfl, hb⟩
  have hr := (h3).later hb
  go_wp2_with (refine wpList_store_row rfl 77 _ _ rfl (w.heap.size + 2) (row 16 (fun p => T (U p))) rfl rfl 77 _ hr (by rw [row_size]; kernel_rfl) (by first | rfl | (rw [row_size, row_size]) | (simp [row_size]; done)) (row_one _ _) ?_)
  refine bodyPost_ret (results_cell_row rfl _ _ (w.heap.size + 2) 77 _ (0, 0) _ rfl (hr.put _) Try.underlying77 rfl (by rw [row_size]; kernel_rfl)) rfl ⟨rfl, ?_⟩
  exact bel_setRow (bel_on (bel_3 w _ _ _) hb (by simp; omega)) (by omega) _
theorem fn_leastPoint (w : World) (B : Nat) (T : Nat → Nat) (h1 : RowAt w B 77 (row 16 T)) : FnIs Try.prog (.func (.func 140) #[] #[.pointer (some ⟨B, 0, none⟩)]) w T 16 :=
  ⟨140, _, rfl, enters_of Try.func140 (by kernel_rfl) rfl, fun W p hb hp => by
    have c1 := (h1.later hb).cell p hp
    show Calls Try.prog 140 #[.int .i64 (p : Int), .pointer (some ⟨B, 0, none⟩)] W _
    go_enter Try.func140, Try.ntmps140
    go_wp2
    go_ret
    exact ⟨rfl, Below.refl _ _⟩⟩
theorem fn_greatestPoint (w : World) (B : Nat) (T : Nat → Nat) (h1 : RowAt w B 77 (row 16 T)) : FnIs Try.prog (.func (.func 141) #[] #[.pointer (some ⟨B, 0, none⟩)]) w T 16 :=
  ⟨141, _, rfl, enters_of Try.func141 (by kernel_rfl) rfl, fun W p hb hp => by
    have c1 := (h1.later hb).cell p hp
    show Calls Try.prog 141 #[.int .i64 (p : Int), .pointer (some ⟨B, 0, none⟩)] W _
    go_enter Try.func141, Try.ntmps141
    go_wp2
    go_ret
    exact ⟨rfl, Below.refl _ _⟩⟩
theorem fn_greatestIn (w : World) (B C : Nat) (T : Nat → Nat) (q : Nat) (hT : ∀ k, T k < 16) (hq : q < 16) (h1 : RowAt w B 77 (row 16 T)) (h2 : RowAt w C 3 #[.int .i64 (q : Int)]) : FnIs Try.prog (.func (.func 137) #[] #[.pointer (some ⟨B, 0, none⟩), .pointer (some ⟨C, 0, none⟩)]) w (eqA T q) 16 :=
  ⟨137, _, rfl, enters_of Try.func137 (by kernel_rfl) rfl, fun W p hb hp => by
    have c1 := (h1.later hb).cell p hp
    have c2 : W.cell? ⟨C, 0, none⟩ = some (.int .i64 (q : Int)) := (h2.later hb).get 0
    have e1 := bits_and_nat (T p) q (by have := hT p; omega) (by omega)
    have i1 := lt_cast hp
    show Calls Try.prog 137 #[.int .i64 (p : Int), .pointer (some ⟨B, 0, none⟩), .pointer (some ⟨C, 0, none⟩)] W _
    clear h1 h2 hT hb
    go_enter Try.func137, Try.ntmps137
    go_wp2
    go_quiet (fail)
    go_wp2
    go_ret
    exact ⟨rfl, bel_drewN (Below.refl _ _) _⟩⟩
theorem fn_leastFrom (w : World) (B C : Nat) (T : Nat → Nat) (q : Nat) (hT : ∀ k, T k < 16) (hq : q < 16) (h1 : RowAt w B 77 (row 16 T)) (h2 : RowAt w C 3 #[.int .i64 (q : Int)]) : FnIs Try.prog (.func (.func 136) #[] #[.pointer (some ⟨B, 0, none⟩), .pointer (some ⟨C, 0, none⟩)]) w (eqO T q) 16 :=
  ⟨136, _, rfl, enters_of Try.func136 (by kernel_rfl) rfl, fun W p hb hp => by
    have c1 := (h1.later hb).cell p hp
    have c2 : W.cell? ⟨C, 0, none⟩ = some (.int .i64 (q : Int)) := (h2.later hb).get 0
    have e1 := bits_or_nat (T p) q (by have := hT p; omega) (by omega)
    have i1 := lt_cast hp
    show Calls Try.prog 136 #[.int .i64 (p : Int), .pointer (some ⟨B, 0, none⟩), .pointer (some ⟨C, 0, none⟩)] W _
    clear h1 h2 hT hb
    go_enter Try.func136, Try.ntmps136
    go_wp2
    go_quiet (fail)
    go_wp2
    go_ret
    exact ⟨rfl, bel_drewN (Below.refl _ _) _⟩⟩
theorem fn_assign (w : World) (A B : Nat) (s t : Nat) (h0 : RowAt w A 3 #[.int .i64 (s : Int)]) (h1 : RowAt w B 3 #[.int .i64 (t : Int)]) : Pr2Is Try.prog (.func (.func 227) #[] #[.pointer (some ⟨A, 0, none⟩), .pointer (some ⟨B, 0, none⟩)]) w (fAsg s t) 4 :=
  ⟨227, _, rfl, enters_of Try.func227 (by kernel_rfl) rfl, fun W a b hb ha hb' => by
    have c0 : W.cell? ⟨A, 0, none⟩ = some (.int .i64 (s : Int)) := (h0.later hb).get 0
    have c1 : W.cell? ⟨B, 0, none⟩ = some (.int .i64 (t : Int)) := (h1.later hb).get 0
    show Calls Try.prog 227 #[.int .i64 (a : Int), .int .i64 (b : Int), .pointer (some ⟨A, 0, none⟩), .pointer (some ⟨B, 0, none⟩)] W _
    clear h0 h1 hb
    by_cases h1 : a = s
    · have b1 : ((a : Int) == (s : Int)) = true := by simp [h1]
      have b2 : ((a : Int) != (s : Int)) = false := by simp [h1]
      have H1 := Lib.hid h1; clear h1
      by_cases h2 : b = t
      · have b3 : ((b : Int) == (t : Int)) = true := by simp [h2]
        have H2 := Lib.hid h2; clear h2
        go_enter Try.func227, Try.ntmps227
        go_wp2
        go_ret
        exact ⟨ret_bool (by unfold fAsg; rw [if_pos H1.out, decide_eq_true H2.out]), Below.refl _ _⟩
      · have b3 : ((b : Int) == (t : Int)) = false := by rw [beq_eq_false_iff_ne]; omega
        have H2 := Lib.hid h2; clear h2
        go_enter Try.func227, Try.ntmps227
        go_wp2
        go_ret
        exact ⟨ret_bool (by unfold fAsg; rw [if_pos H1.out, decide_eq_false H2.out]), Below.refl _ _⟩
    · have b1 : ((a : Int) == (s : Int)) = false := by rw [beq_eq_false_iff_ne]; omega
      have b2 : ((a : Int) != (s : Int)) = true := by rw [bne_iff_ne]; omega
      have H1 := Lib.hid h1; clear h1
      go_enter Try.func227, Try.ntmps227
      go_wp2
      go_ret
      refine ⟨ret_bool ?_, Below.refl _ _⟩
      unfold fAsg
      rw [if_neg H1.out]
      show ((a : Int) == (b : Int)) = decide (a = b)
      by_cases h : a = b <;> simp [h]; omega⟩
end Go.Proofs.Ytiaeakpgldpaiaa
