/- The program's operations on transformers. -/
import Derived.Test.YtajehekoegjahaaImplD
namespace Go.Proofs.Ytajehekoegjahaa
set_option linter.unusedSimpArgs false
set_option linter.unusedVariables false
open Go.RowKit

theorem bel_3 (w : World) (a b c : Obj) : Below w.heap.size w (((w.alloc a).alloc b).alloc c) := (((Below.refl _ _).alloc (Nat.le_refl _) _).alloc (by simp) _).alloc (by simp; omega) _
theorem bel_2 (w : World) (a b : Obj) : Below w.heap.size w ((w.alloc a).alloc b) := ((Below.refl _ _).alloc (Nat.le_refl _) _).alloc (by simp) _
theorem bel_1 (w : World) (a : Obj) : Below w.heap.size w (w.alloc a) := (Below.refl _ _).alloc (Nat.le_refl _) _

theorem fn_assert (w : World) (B : Nat) (p : Nat) (hp : p < 16) (h : RowAt w B 3 #[.int .i64 (p : Int)]) : FnIs Try.prog (.func (.func 86) #[] #[.pointer (some ⟨B, 0, none⟩)]) w (fun q => p &&& q) 16 :=
  ⟨86, _, rfl, enters_of Try.func86 (by kernel_rfl) rfl, fun W q hb hq => by
    have c : W.cell? ⟨B, 0, none⟩ = some (.int .i64 (p : Int)) := (h.later hb).get 0
    have e1 := bits_and_nat p q (by omega) (by omega)
    show Calls Try.prog 86 #[.int .i64 (q : Int), .pointer (some ⟨B, 0, none⟩)] W _
    go_enter Try.func86, Try.ntmps86
    go_wp2
    go_ret
    exact ⟨rfl, Below.refl _ _⟩⟩
theorem i_assert (p : Nat) (w : World) (hp : p < 16) : Calls Try.prog 67 #[.int .i64 (p : Int)] w fun e w' => e = .returned (.agg (row 16 (fun q => p &&& q))) ∧ Below w.heap.size w w' := by
  have h1 := (RowAt.fresh w 3 #[.int .i64 (p : Int)]).alloc (.cells (row 16 (fun _ => 0)) 47)
  have h2 := RowAt.fresh1 w (.cells #[.int .i64 (p : Int)] 3) 47 (row 16 (fun _ => 0))
  go_enter Try.func67, Try.ntmps67
  go_wp2_with fail
  refine (i_makeTrans _ (fun q => p &&& q) _ (fn_assert _ _ p hp h1)).mono ?_
  rintro e w1 ⟨rfl, hb⟩
  have hr := (h2).later hb
  go_wp2_with (refine wpList_store_row rfl 47 _ _ rfl (w.heap.size + 1) (row 16 (fun q => p &&& q)) rfl rfl 47 _ hr (by rw [row_size]; kernel_rfl) (by first | rfl | (rw [row_size, row_size]) | (simp [row_size]; done)) (row_one _ _) ?_)
  refine bodyPost_ret (results_cell_row rfl _ _ (w.heap.size + 1) 47 _ (0, 0) _ rfl (hr.put _) Try.underlying47 rfl (by rw [row_size]; kernel_rfl)) rfl ⟨rfl, ?_⟩
  exact bel_setRow (bel_on (bel_2 w _ _) hb (by simp; omega)) (by omega) _
theorem fn_then (w : World) (B C : Nat) (T U : Nat → Nat) (hU : Bd U) (h1 : RowAt w B 47 (row 16 T)) (h2 : RowAt w C 47 (row 16 U)) : FnIs Try.prog (.func (.func 87) #[] #[.pointer (some ⟨B, 0, none⟩), .pointer (some ⟨C, 0, none⟩)]) w (fun p => T (U p)) 16 :=
  ⟨87, _, rfl, enters_of Try.func87 (by kernel_rfl) rfl, fun W p hb hp => by
    have c2 := (h2.later hb).cell p hp
    have c1 := (h1.later hb).cell (U p) (hU p hp)
    have hu := hU p hp
    show Calls Try.prog 87 #[.int .i64 (p : Int), .pointer (some ⟨B, 0, none⟩), .pointer (some ⟨C, 0, none⟩)] W _
    clear hU h1 h2
    go_enter Try.func87, Try.ntmps87
    go_wp2
    go_ret
    exact ⟨rfl, Below.refl _ _⟩⟩
theorem i_then (T U : Nat → Nat) (w : World) (hU : Bd U) : Calls Try.prog 69 #[.agg (row 16 T), .agg (row 16 U)] w fun e w' => e = .returned (.agg (row 16 (fun p => T (U p)))) ∧ Below w.heap.size w w' := by
  have h1 := ((RowAt.fresh w 47 (row 16 T)).alloc (.cells (row 16 U) 47)).alloc (.cells (row 16 (fun _ => 0)) 47)
  have h2 := (RowAt.fresh1 w (.cells (row 16 T) 47) 47 (row 16 U)).alloc (.cells (row 16 (fun _ => 0)) 47)
  have h3 := RowAt.fresh2 w (.cells (row 16 T) 47) (.cells (row 16 U) 47) 47 (row 16 (fun _ => 0))
  go_enter Try.func69, Try.ntmps69
  go_wp2_with fail
  refine (i_makeTrans _ (fun p => T (U p)) _ (fn_then _ _ _ T U hU h1 h2)).mono ?_
  rintro e w1 ⟨rfl, hb⟩
  have hr := (h3).later hb
  go_wp2_with (refine wpList_store_row rfl 47 _ _ rfl (w.heap.size + 2) (row 16 (fun p => T (U p))) rfl rfl 47 _ hr (by rw [row_size]; kernel_rfl) (by first | rfl | (rw [row_size, row_size]) | (simp [row_size]; done)) (row_one _ _) ?_)
  refine bodyPost_ret (results_cell_row rfl _ _ (w.heap.size + 2) 47 _ (0, 0) _ rfl (hr.put _) Try.underlying47 rfl (by rw [row_size]; kernel_rfl)) rfl ⟨rfl, ?_⟩
  exact bel_setRow (bel_on (bel_3 w _ _ _) hb (by simp; omega)) (by omega) _
theorem fn_beforeMost (w : World) (B C : Nat) (T U : Nat → Nat) (hT : ∀ k, T k < 16) (hU : ∀ k, U k < 16) (h1 : RowAt w B 47 (row 16 T)) (h2 : RowAt w C 47 (row 16 U)) : FnIs Try.prog (.func (.func 77) #[] #[.pointer (some ⟨B, 0, none⟩), .pointer (some ⟨C, 0, none⟩)]) w (fun p => fMost T U p 16) 16 :=
  ⟨77, _, rfl, enters_of Try.func77 (by kernel_rfl) rfl, fun W p hb hp => by
    have r2 := (h2.later hb)
    have r1 := (h1.later hb)
    show Calls Try.prog 77 #[.int .i64 (p : Int), .pointer (some ⟨B, 0, none⟩), .pointer (some ⟨C, 0, none⟩)] W _
    clear h1 h2 hb
    have HT := Lib.hid hT; have HU := Lib.hid hU; clear hT hU
    go_enter Try.func77, Try.ntmps77
    go_wp2
    go_loop [5, 7] (fun o t => ∃ k : Nat, k ≤ 16 ∧ t = .int .i64 k ∧ o = .int .i64 (fMost T U p k : Int)) (fun _ t => 16 - (intOf t).toNat)
    case atStart => exact ⟨0, by omega, rfl, rfl⟩
    case round =>
      obtain ⟨k, hk, rfl, rfl⟩ := hrel
      by_cases hlt : k < 16
      · have c1 := r1.cell k hlt
        have c2 := r2.cell k hlt
        have e1 := bits_andn_nat p (T k) hp (HT.out k)
        have hF := fMost_lt T U p k
        have e2 := bits_and_nat (fMost T U p k) (U k) (by omega) (by have := HU.out k; omega)
        by_cases ha : andn p (T k) = 0
        · have b1 : ((andn p (T k) : Int) == 0) = true := by simp [ha]
          have HA := Lib.hid ha; clear ha
          go_wp2
          go_round
          case rel => exact ⟨k + 1, by omega, by go_num, by rw [fMost, if_pos HA.out]⟩
          case measure => simp [intOf]; omega
        · have b1 : ((andn p (T k) : Int) == 0) = false := by rw [beq_eq_false_iff_ne]; omega
          have HA := Lib.hid ha; clear ha
          go_wp2
          go_round
          case rel => exact ⟨k + 1, by omega, by go_num, by rw [fMost, if_neg HA.out]⟩
          case measure => simp [intOf]; omega
      · obtain rfl : k = 16 := by omega
        go_wp2
        go_ret
        exact ⟨rfl, Below.refl _ _⟩⟩
theorem i_beforeMost (T U : Nat → Nat) (w : World) (hT : ∀ k, T k < 16) (hU : ∀ k, U k < 16) : Calls Try.prog 48 #[.agg (row 16 T), .agg (row 16 U)] w fun e w' => e = .returned (.agg (row 16 (fun p => fMost T U p 16))) ∧ Below w.heap.size w w' := by
  have h1 := ((RowAt.fresh w 47 (row 16 T)).alloc (.cells (row 16 U) 47)).alloc (.cells (row 16 (fun _ => 0)) 47)
  have h2 := (RowAt.fresh1 w (.cells (row 16 T) 47) 47 (row 16 U)).alloc (.cells (row 16 (fun _ => 0)) 47)
  have h3 := RowAt.fresh2 w (.cells (row 16 T) 47) (.cells (row 16 U) 47) 47 (row 16 (fun _ => 0))
  go_enter Try.func48, Try.ntmps48
  go_wp2_with fail
  refine (i_makeTrans _ (fun p => fMost T U p 16) _ (fn_beforeMost _ _ _ T U hT hU h1 h2)).mono ?_
  rintro e w1 ⟨rfl, hb⟩
  have hr := (h3).later hb
  go_wp2_with (refine wpList_store_row rfl 47 _ _ rfl (w.heap.size + 2) (row 16 (fun p => fMost T U p 16)) rfl rfl 47 _ hr (by rw [row_size]; kernel_rfl) (by first | rfl | (rw [row_size, row_size]) | (simp [row_size]; done)) (row_one _ _) ?_)
  refine bodyPost_ret (results_cell_row rfl _ _ (w.heap.size + 2) 47 _ (0, 0) _ rfl (hr.put _) Try.underlying47 rfl (by rw [row_size]; kernel_rfl)) rfl ⟨rfl, ?_⟩
  exact bel_setRow (bel_on (bel_3 w _ _ _) hb (by simp; omega)) (by omega) _
end Go.Proofs.Ytajehekoegjahaa
