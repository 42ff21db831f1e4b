/- Joined texts: App, App2, App3. -/
import Derived.Test.YtiaeakpgldpaiaaQImplI
import Derived.Test.YtiaeakpgldpaiaaQImplF
import Derived.Test.YtiaeakpgldpaiaaQImplX
import Derived.Test.YtiaeakpgldpaiaaQImplH
import Derived.Test.YtiaeakpgldpaiaaQSpecD
import Derived.Test.YtiaeakpgldpaiaaQImplT
namespace Go.Proofs.Ytiaeakpgldpaiaa
set_option linter.unusedSimpArgs false
set_option linter.unusedVariables false
set_option maxRecDepth 4000
open Go.RowKit

theorem beq_zero_nat (n : Nat) : ((n : Int) == 0) = decide (n = 0) := by
  by_cases h : n = 0
  · simp [h]
  · rw [decide_eq_false h, beq_eq_false_iff_ne]; omega
theorem beq_nat (n m : Nat) : ((n : Int) == (m : Int)) = decide (n = m) := by
  by_cases h : n = m
  · simp [h]
  · rw [decide_eq_false h, beq_eq_false_iff_ne]; omega
/-- The dual of a table. -/
def fDual (T : Nat → Nat) : Nat → Nat := fun p => andn 15 (T (andn 15 p))
theorem fDual_bd (T : Nat → Nat) : Bd (fDual T) := fun p _ => andn_lt (by omega)
theorem i_CvN (p : Nat) (w : World) (hp : p < 16) : Calls Try.prog 56 #[.int .i64 (p : Int)] w fun e w' => e = .returned (.bool true) ∧ w = w' := by
  have h := i_ConditionValid p w
  rw [cvB_nat p hp] at h
  exact h
theorem i_NotN (p : Nat) (w : World) (hp : p < 16) : Calls Try.prog 60 #[.int .i64 (p : Int)] w fun e w' => e = .returned (.int .i64 ((andn 15 p : Nat) : Int)) ∧ w = w' := by
  have e1 : bits .andNot .i64 15 (p : Int) = ((andn 15 p : Nat) : Int) := bits_andn_nat 15 p (by omega) hp
  go_enter Try.func60, Try.ntmps60
  go_wp2_with fail
  refine (i_CvN p _ hp).mono ?_
  rintro e w' ⟨rfl, rfl⟩
  go_wp2_with fail
  go_ret
  exact ⟨rfl, rfl⟩
theorem i_AndN (p q : Nat) (w : World) (hp : p < 16) (hq : q < 16) : Calls Try.prog 150 #[.int .i64 (p : Int), .int .i64 (q : Int)] w fun e w' => e = .returned (.int .i64 ((p &&& q : Nat) : Int)) ∧ w = w' := by
  have e1 := bits_and_nat p q (by omega) (by omega)
  go_enter Try.func150, Try.ntmps150
  go_wp2_with fail
  refine (i_CvN p _ hp).mono ?_
  rintro e w' ⟨rfl, rfl⟩
  go_wp2_with fail
  refine (i_CvN q _ hq).mono ?_
  rintro e w' ⟨rfl, rfl⟩
  go_wp2_with fail
  go_ret
  exact ⟨rfl, rfl⟩
theorem i_OrN (p q : Nat) (w : World) (hp : p < 16) (hq : q < 16) : Calls Try.prog 163 #[.int .i64 (p : Int), .int .i64 (q : Int)] w fun e w' => e = .returned (.int .i64 ((p ||| q : Nat) : Int)) ∧ w = w' := by
  have e1 := bits_or_nat p q (by omega) (by omega)
  go_enter Try.func163, Try.ntmps163
  go_wp2_with fail
  refine (i_CvN p _ hp).mono ?_
  rintro e w' ⟨rfl, rfl⟩
  go_wp2_with fail
  refine (i_CvN q _ hq).mono ?_
  rintro e w' ⟨rfl, rfl⟩
  go_wp2_with fail
  go_ret
  exact ⟨rfl, rfl⟩
theorem l_dcAnd (p q : Nat) (w : World) (hp : p < 16) (hq : q < 16) : Calls Try.prog 59 #[.int .i64 (p : Int), .int .i64 (q : Int)] w fun e w' => e = .returned (.int .i64 ((p &&& q : Nat) : Int)) ∧ w = w' := by
  go_enter Try.func59, Try.ntmps59
  go_wp2_with fail
  refine (i_AndN p q _ hp hq).mono ?_
  rintro e w' ⟨rfl, rfl⟩
  go_wp2_with fail
  go_ret
  exact ⟨rfl, rfl⟩
theorem l_dcOr (p q : Nat) (w : World) (hp : p < 16) (hq : q < 16) : Calls Try.prog 74 #[.int .i64 (p : Int), .int .i64 (q : Int)] w fun e w' => e = .returned (.int .i64 ((p ||| q : Nat) : Int)) ∧ w = w' := by
  go_enter Try.func74, Try.ntmps74
  go_wp2_with fail
  refine (i_OrN p q _ hp hq).mono ?_
  rintro e w' ⟨rfl, rfl⟩
  go_wp2_with fail
  go_ret
  exact ⟨rfl, rfl⟩
theorem i_ImpliesN (p q : Nat) (w : World) (hp : p < 16) (hq : q < 16) : Calls Try.prog 31 #[.int .i64 (p : Int), .int .i64 (q : Int)] w fun e w' => e = .returned (.bool (decide (imp p q))) ∧ w = w' := by
  have e1 := bits_andn_nat p q hp hq
  go_enter Try.func31, Try.ntmps31
  go_wp2_with fail
  refine (i_CvN p _ hp).mono ?_
  rintro e w' ⟨rfl, rfl⟩
  go_wp2_with fail
  refine (i_CvN q _ hq).mono ?_
  rintro e w' ⟨rfl, rfl⟩
  go_wp2_with fail
  go_ret
  exact ⟨ret_bool (beq_zero_nat (andn p q)), rfl⟩
theorem i_HasN (p s : Nat) (w : World) (hp : p < 16) (hs : s < 4) : Calls Try.prog 69 #[.int .i64 (p : Int), .int .i64 (s : Int)] w fun e w' => e = .returned (.bool (p.testBit s)) ∧ w = w' := by
  have hb := bits_has' p s (by omega)
  have hst : stB (s : Int) = true := (stB_iff _).2 ⟨s, hs, rfl⟩
  go_enter Try.func69, Try.ntmps69
  go_wp2_with fail
  refine (i_CvN p _ hp).mono ?_
  rintro e w' ⟨rfl, rfl⟩
  go_wp2_with fail
  refine (i_stateOk _ _).mono ?_
  rw [hst]
  rintro e w' ⟨rfl, rfl⟩
  go_wp2_with fail
  go_ret
  exact ⟨rfl, rfl⟩
theorem i_ApplyN (t : ByteArray) (p : Nat) (w : World) (hok : trOk t = true) (hp : p < 16) : Calls Try.prog 38 #[.string t, .int .i64 (p : Int)] w fun e w' => e = .returned (.int .i64 (dig t p : Int)) ∧ Below w.heap.size w w' := by
  have k1 := trF_ok hok
  have K1 := Lib.hid k1; clear k1
  go_enter Try.func38, Try.ntmps38
  go_wp2_with fail
  refine (i_readTrans _ _).mono ?_
  rw [hok, K1.out]
  rintro e w1 ⟨rfl, hb1⟩
  have r1 := RowAt.fresh w1 77 (row 16 (dig t))
  have c1 := r1.cell p hp
  have hbb := bel_on' hb1 (bel_1 w1 (.cells (row 16 (dig t)) 77))
  go_wp2_with (refine wpList_store_new rfl 77 _ _ rfl (row 16 (dig t)) rfl rfl (by rw [row_size]; kernel_rfl) (by first | rfl | (rw [row_size, row_size]) | (simp [row_size]; done)) (row_one _ _) ?_)
  refine (i_CvN p _ hp).mono ?_
  rintro e w' ⟨rfl, rfl⟩
  go_wp2_with fail
  go_ret
  exact ⟨rfl, hbb⟩
theorem fn_dual (w : World) (B : Nat) (T : Nat → Nat) (hT : Bd T) (h1 : RowAt w B 77 (row 16 T)) : FnIs Try.prog (.func (.func 246) #[] #[.pointer (some ⟨B, 0, none⟩)]) w (fDual T) 16 :=
  ⟨246, _, rfl, enters_of Try.func246 (by kernel_rfl) rfl, fun W p hb hp => by
    have hn : andn 15 p < 16 := andn_lt (by omega)
    have c1 := (h1.later hb).cell (andn 15 p) hn
    have hu := hT _ hn
    have e1 : bits .andNot .i64 15 (p : Int) = ((andn 15 p : Nat) : Int) := bits_andn_nat 15 p (by omega) hp
    have e2 : bits .andNot .i64 15 (T (andn 15 p) : Int) = ((andn 15 (T (andn 15 p)) : Nat) : Int) := bits_andn_nat 15 (T (andn 15 p)) (by omega) hu
    have i1 := lt_cast hn
    show Calls Try.prog 246 #[.int .i64 (p : Int), .pointer (some ⟨B, 0, none⟩)] W _
    clear hT h1
    go_enter Try.func246, Try.ntmps246
    go_wp2
    go_ret
    exact ⟨rfl, Below.refl _ _⟩⟩
theorem i_dual (T : Nat → Nat) (w : World) (hT : Bd T) : Calls Try.prog 214 #[.agg (row 16 T)] w fun e w' => e = .returned (.agg (row 16 (fDual T))) ∧ Below w.heap.size w w' := by
  have h1 := (RowAt.fresh w 77 (row 16 T)).alloc (.cells (row 16 (fun _ => 0)) 77)
  have h2 := RowAt.fresh1 w (.cells (row 16 T) 77) 77 (row 16 (fun _ => 0))
  go_enter Try.func214, Try.ntmps214
  go_wp2_with fail
  refine (i_makeTrans _ (fDual T) _ (fn_dual _ _ T hT h1)).mono ?_
  rintro e w1 ⟨rfl, hb⟩
  have hr := (h2).later hb
  go_wp2_with (refine wpList_store_row rfl 77 _ _ rfl (w.heap.size + 1) (row 16 (fDual T)) rfl rfl 77 _ hr (by rw [row_size]; kernel_rfl) (by first | rfl | (rw [row_size, row_size]) | (simp [row_size]; done)) (row_one _ _) ?_)
  refine bodyPost_ret (results_cell_row rfl _ _ (w.heap.size + 1) 77 _ (0, 0) _ rfl (hr.put _) Try.underlying77 rfl (by rw [row_size]; kernel_rfl)) rfl ⟨rfl, ?_⟩
  exact bel_setRow (bel_on (bel_2 w _ _) hb (by simp; omega)) (by omega) _
theorem i_DualTrans (t : ByteArray) (w : World) : Calls Try.prog 139 #[.string t] w fun e w' => e = .returned (.tuple #[.string (optS (trOk t) (txt 16 (fDual (dig t)))), .bool (trOk t)]) ∧ Below w.heap.size w w' := by
  have h := i_alone t (.func (.func 214) #[] #[]) (fDual (dig t)) w (fun i hi => fDual_bd _ i hi) ⟨_, _, rfl⟩ (fun W _ _ => ⟨214, _, rfl, enters_of Try.func214 (by kernel_rfl) rfl, fun W' _ => i_dual (dig t) W' (dig_bd t)⟩)
  have H := Lib.hid h; clear h
  go_enter Try.func139, Try.ntmps139
  go_wp2_with fail
  refine H.out.mono ?_
  rintro e w1 ⟨rfl, hb⟩
  go_wp2_with fail
  go_ret2
  exact ⟨rfl, hb⟩
theorem l_dcDual (t : ByteArray) (w : World) (hok : trOk t = true) : Calls Try.prog 42 #[.string t] w fun e w' => e = .returned (.string (txt 16 (fDual (dig t)))) ∧ Below w.heap.size w w' := by
  go_enter Try.func42, Try.ntmps42
  go_wp2_with fail
  refine (i_DualTrans t _).mono ?_
  rw [hok]
  rintro e w1 ⟨rfl, hb⟩
  go_wp2_with fail
  go_ret
  exact ⟨rfl, hb⟩
theorem i_ThenTrans (t u : ByteArray) (w : World) : Calls Try.prog 125 #[.string t, .string u] w fun e w' => e = .returned (.tuple #[.string (optS (trOk t && trOk u) (txt 16 (fun p => dig t (dig u p)))), .bool (trOk t && trOk u)]) ∧ Below w.heap.size w w' := by
  have h := i_both t u (.func (.func 156) #[] #[]) (fun p => dig t (dig u p)) w (fun i hi => dig_lt _ _) (fun _ _ => ⟨156, _, rfl, enters_of Try.func156 (by kernel_rfl) rfl, fun W _ => i_then (dig t) (dig u) W (dig_bd u)⟩)
  have H := Lib.hid h; clear h
  go_enter Try.func125, Try.ntmps125
  go_wp2_with fail
  refine H.out.mono ?_
  rintro e w1 ⟨rfl, hb⟩
  go_wp2_with fail
  go_ret2
  exact ⟨rfl, hb⟩
theorem l_dcThen (t u : ByteArray) (w : World) (hok : trOk t = true) (hok2 : trOk u = true) : Calls Try.prog 30 #[.string t, .string u] w fun e w' => e = .returned (.string (txt 16 (fun p => dig t (dig u p)))) ∧ Below w.heap.size w w' := by
  go_enter Try.func30, Try.ntmps30
  go_wp2_with fail
  refine (i_ThenTrans t u _).mono ?_
  rw [hok, hok2]
  rintro e w1 ⟨rfl, hb⟩
  go_wp2_with fail
  go_ret
  exact ⟨rfl, hb⟩
end Go.Proofs.Ytiaeakpgldpaiaa
namespace Go.Proofs.Ytiaeakpgldpaiaa
set_option linter.unusedSimpArgs false
set_option linter.unusedVariables false
set_option maxRecDepth 4000
open Go.RowKit

theorem i_RefinesN (t u : ByteArray) (w : World) (h1 : trOk t = true) (h2 : trOk u = true) : Calls Try.prog 26 #[.string t, .string u] w fun e w' => e = .returned (.bool (refB (dig t) (dig u) 16)) ∧ Below w.heap.size w w' := by
  have k1 := trF_ok h1
  have k2 := trF_ok h2
  have K1 := Lib.hid k1; have K2 := Lib.hid k2; clear k1 k2
  go_enter Try.func26, Try.ntmps26
  go_wp2_with fail
  refine (i_readTrans _ _).mono ?_
  rw [h1, K1.out]
  rintro e w1 ⟨rfl, hb1⟩
  go_wp2_with (refine wpList_store_new rfl 77 _ _ rfl (row 16 (dig t)) rfl rfl (by rw [row_size]; kernel_rfl) (by first | rfl | (rw [row_size, row_size]) | (simp [row_size]; done)) (row_one _ _) ?_)
  refine (i_readTrans _ _).mono ?_
  rw [h2, K2.out]
  rintro e w2 ⟨rfl, hb2⟩
  have r1 := ((RowAt.fresh w1 77 (row 16 (dig t))).later hb2).alloc (.cells (row 16 (dig u)) 77)
  have r2 := RowAt.fresh w2 77 (row 16 (dig u))
  have hbb := bel_on' (bel_on' (bel_on' hb1 (bel_1 w1 (.cells (row 16 (dig t)) 77))) hb2) (bel_1 w2 (.cells (row 16 (dig u)) 77))
  go_wp2_with (first | (refine wpList_store_new rfl 77 _ _ rfl (row 16 (dig u)) rfl rfl (by rw [row_size]; kernel_rfl) (by first | rfl | (rw [row_size, row_size]) | (simp [row_size]; done)) (row_one _ _) ?_) | (refine wpList_load_rowG (by rfl) 77 _ rfl (w1.heap.size) rfl 77 (row 16 (dig t)) (0, 0) _ r1 Try.underlying77 rfl (by rw [row_size]; kernel_rfl) ?_) | (refine wpList_load_rowG (by rfl) 77 _ rfl (w2.heap.size) rfl 77 (row 16 (dig u)) (0, 0) _ r2 Try.underlying77 rfl (by rw [row_size]; kernel_rfl) ?_))
  refine (i_refined _ _ _ (dig_bd t) (dig_bd u)).mono ?_
  rintro e w3 ⟨rfl, hb3⟩
  go_wp2_with fail
  go_ret
  exact ⟨rfl, bel_on' hbb hb3⟩
end Go.Proofs.Ytiaeakpgldpaiaa
namespace Go.Proofs.Ytiaeakpgldpaiaa
set_option linter.unusedSimpArgs false
set_option linter.unusedVariables false
set_option maxRecDepth 4000
open Go.RowKit

theorem i_MeetTrans (t u : ByteArray) (w : World) : Calls Try.prog 138 #[.string t, .string u] w fun e w' => e = .returned (.tuple #[.string (optS (trOk t && trOk u) (txt 16 (fun p => dig t p &&& dig u p))), .bool (trOk t && trOk u)]) ∧ Below w.heap.size w w' := by
  have h := i_both t u (.func (.func 199) #[] #[]) (fun p => dig t p &&& dig u p) w (fun i hi => and_lt (dig_lt _ _)) (fun _ _ => ⟨199, _, rfl, enters_of Try.func199 (by kernel_rfl) rfl, fun W _ => i_meet (dig t) (dig u) W (dig_bd t) (dig_bd u)⟩)
  have H := Lib.hid h; clear h
  go_enter Try.func138, Try.ntmps138
  go_wp2_with fail
  refine H.out.mono ?_
  rintro e w1 ⟨rfl, hb⟩
  go_wp2_with fail
  go_ret2
  exact ⟨rfl, hb⟩
theorem l_dcMeet (t u : ByteArray) (w : World) (hok : trOk t = true) (hok2 : trOk u = true) : Calls Try.prog 41 #[.string t, .string u] w fun e w' => e = .returned (.string (txt 16 (fun p => dig t p &&& dig u p))) ∧ Below w.heap.size w w' := by
  go_enter Try.func41, Try.ntmps41
  go_wp2_with fail
  refine (i_MeetTrans t u _).mono ?_
  rw [hok, hok2]
  rintro e w1 ⟨rfl, hb⟩
  go_wp2_with fail
  go_ret
  exact ⟨rfl, hb⟩
theorem i_JoinTrans (t u : ByteArray) (w : World) : Calls Try.prog 106 #[.string t, .string u] w fun e w' => e = .returned (.tuple #[.string (optS (trOk t && trOk u) (txt 16 (fun p => dig t p ||| dig u p))), .bool (trOk t && trOk u)]) ∧ Below w.heap.size w w' := by
  have h := i_both t u (.func (.func 185) #[] #[]) (fun p => dig t p ||| dig u p) w (fun i hi => or_lt (dig_lt _ _) (dig_lt _ _)) (fun _ _ => ⟨185, _, rfl, enters_of Try.func185 (by kernel_rfl) rfl, fun W _ => i_join (dig t) (dig u) W (dig_bd t) (dig_bd u)⟩)
  have H := Lib.hid h; clear h
  go_enter Try.func106, Try.ntmps106
  go_wp2_with fail
  refine H.out.mono ?_
  rintro e w1 ⟨rfl, hb⟩
  go_wp2_with fail
  go_ret2
  exact ⟨rfl, hb⟩
theorem l_dcJoin (t u : ByteArray) (w : World) (hok : trOk t = true) (hok2 : trOk u = true) : Calls Try.prog 19 #[.string t, .string u] w fun e w' => e = .returned (.string (txt 16 (fun p => dig t p ||| dig u p))) ∧ Below w.heap.size w w' := by
  go_enter Try.func19, Try.ntmps19
  go_wp2_with fail
  refine (i_JoinTrans t u _).mono ?_
  rw [hok, hok2]
  rintro e w1 ⟨rfl, hb⟩
  go_wp2_with fail
  go_ret
  exact ⟨rfl, hb⟩
theorem i_StartsN (t : ByteArray) (w : World) (hok : trOk t = true) : Calls Try.prog 48 #[.string t] w fun e w' => e = .returned (.int .i64 (dig t 15 : Int)) ∧ Below w.heap.size w w' := by
  go_enter Try.func48, Try.ntmps48
  go_wp2_with fail
  refine (i_ApplyN t 15 _ hok (by omega)).mono ?_
  rintro e w1 ⟨rfl, hb⟩
  go_wp2_with fail
  go_ret
  exact ⟨rfl, hb⟩
theorem i_MiraclesN (t : ByteArray) (w : World) (hok : trOk t = true) : Calls Try.prog 50 #[.string t] w fun e w' => e = .returned (.int .i64 (dig t 0 : Int)) ∧ Below w.heap.size w w' := by
  go_enter Try.func50, Try.ntmps50
  go_wp2_with fail
  refine (i_ApplyN t 0 _ hok (by omega)).mono ?_
  rintro e w1 ⟨rfl, hb⟩
  go_wp2_with fail
  go_ret
  exact ⟨rfl, hb⟩
/-- The text of the transformer that does nothing. -/
def skipS : ByteArray := ⟨#[48, 49, 50, 51, 52, 53, 54, 55, 56, 57, 97, 98, 99, 100, 101, 102]⟩
theorem skip_ok : trOk ⟨#[48, 49, 50, 51, 52, 53, 54, 55, 56, 57, 97, 98, 99, 100, 101, 102]⟩ = true := by decide
theorem skip_dig : ∀ q, q < 16 → dig ⟨#[48, 49, 50, 51, 52, 53, 54, 55, 56, 57, 97, 98, 99, 100, 101, 102]⟩ q = q := by decide
end Go.Proofs.Ytiaeakpgldpaiaa
