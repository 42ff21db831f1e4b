/- The reference's listed functions on contracts. -/
import Derived.Test.YtiaeakpgldpaiaaQJ8
import Derived.Test.YtiaeakpgldpaiaaQJ2
namespace Go.Proofs.Ytiaeakpgldpaiaa
set_option linter.unusedSimpArgs false
set_option linter.unusedVariables false
set_option maxRecDepth 4000
open Go.RowKit

theorem s_l1Both (p q : Int) (w : World) : Calls Try.prog 175 #[.int .i64 p, .int .i64 q] w fun e w' => e = .returned (.bool (cvB p && cvB q)) ∧ w = w' := by
  cases hp : cvB p
  all_goals
    go_enter Try.func175, Try.ntmps175
    go_wp2_with fail
    refine (s_ConditionValid p _).mono ?_
    rw [hp]
    rintro e w' ⟨rfl, rfl⟩
    go_wp2_with (go_at_call 145; refine (s_ConditionValid q _).mono ?_; rintro e w' ⟨rfl, rfl⟩)
    go_ret
    exact ⟨rfl, rfl⟩
theorem s_l5Both (c d : ByteArray) (w : World) : Calls Try.prog 176 #[.string c, .string d] w fun e w' => e = .returned (.bool (ctOk c && ctOk d)) ∧ w = w' := by
  cases hp : ctOk c
  all_goals
    go_enter Try.func176, Try.ntmps176
    go_wp2_with fail
    refine (s_ContractValid c _).mono ?_
    rw [hp]
    rintro e w' ⟨rfl, rfl⟩
    go_wp2_with (go_at_call 173; refine (s_ContractValid d _).mono ?_; rintro e w' ⟨rfl, rfl⟩)
    go_ret
    exact ⟨rfl, rfl⟩
theorem s_ctTrans (c : ByteArray) (w : World) (h : ctOk c = true) : Calls Try.prog 174 #[.string c] w fun e w' => e = .returned (.string (txt 16 (ctT c))) ∧ Below w.heap.size w w' := by
  obtain ⟨x, _, hT, hR⟩ := ctOk_some h
  rw [hT]
  exact s_l5Trans x c w hR
theorem ctT_Dg (c : ByteArray) : Dg 16 (txt 16 (ctT c)) := Dg.txt fun i hi => ctT_lt c i hi
theorem ctT_ok (c : ByteArray) : trOk (txt 16 (ctT c)) = true := trOk_txt (ctT_bd c) (ctT_mono c)
theorem ctT_dig (c : ByteArray) (q : Nat) (hq : q < 16) : dig (txt 16 (ctT c)) q = ctT c q := txt_dig 16 _ q hq (ctT_lt c q hq)
theorem s_IsCorrect (p : Int) (c : ByteArray) (q : Int) (w : World) : Calls Try.prog 87 #[.int .i64 p, .string c, .int .i64 q] w fun e w' => e = .returned (.bool (((cvB p && cvB q) && ctOk c) && decide (andn p.toNat (ctT c q.toNat) = 0))) ∧ Below w.heap.size w w' := by
  cases h1 : (cvB p && cvB q)
  · go_enter Try.func87, Try.ntmps87
    go_wp2_with fail
    refine (s_l1Both p q _).mono ?_
    rw [h1]
    rintro e w' ⟨rfl, rfl⟩
    go_wp2_with fail
    go_ret
    exact ⟨rfl, Below.refl _ _⟩
  cases h2 : ctOk c
  · go_enter Try.func87, Try.ntmps87
    go_wp2_with fail
    refine (s_l1Both p q _).mono ?_
    rw [h1]
    rintro e w' ⟨rfl, rfl⟩
    go_wp2_with fail
    refine (s_ContractValid c _).mono ?_
    rw [h2]
    rintro e w' ⟨rfl, rfl⟩
    go_wp2_with fail
    go_ret
    exact ⟨rfl, Below.refl _ _⟩
  · have g := h1
    rw [Bool.and_eq_true] at g
    obtain ⟨n, hn, rfl⟩ := (cvB_iff p).1 g.1
    obtain ⟨m, hm, rfl⟩ := (cvB_iff q).1 g.2
    have hl := ctT_lt c m hm
    have e1 := bits_andn_nat n (ctT c m) hn hl
    have HD := Lib.hid (ctT_dig c m hm)
    clear g
    go_enter Try.func87, Try.ntmps87
    go_wp2_with fail
    refine (s_l1Both _ _ _).mono ?_
    rw [h1]
    rintro e w' ⟨rfl, rfl⟩
    go_wp2_with fail
    refine (s_ContractValid c _).mono ?_
    rw [h2]
    rintro e w' ⟨rfl, rfl⟩
    go_wp2_with fail
    refine (s_ctTrans c _ h2).mono ?_
    rintro e w1 ⟨rfl, hb⟩
    go_wp2_with fail
    refine (s_l3Value _ m _ (ctT_Dg c) hm).mono ?_
    rw [HD.out]
    rintro e w' ⟨rfl, rfl⟩
    go_wp2_with fail
    go_ret
    refine ⟨ret_bool ?_, hb⟩
    show ((andn n (ctT c m) : Int) == 0) = (true && decide (andn n (ctT c m) = 0))
    rw [Bool.true_and]
    by_cases h : andn n (ctT c m) = 0
    · simp [h]
    · rw [decide_eq_false h, beq_eq_false_iff_ne]; omega
theorem s_MiddleCondition (c d : ByteArray) (q : Int) (w : World) : Calls Try.prog 91 #[.string c, .string d, .int .i64 q] w fun e w' => e = .returned (.int .i64 (optI ((ctOk c && ctOk d) && cvB q) (ctT d q.toNat))) ∧ Below w.heap.size w w' := by
  cases h1 : (ctOk c && ctOk d)
  · go_enter Try.func91, Try.ntmps91
    go_wp2_with fail
    refine (s_l5Both c d _).mono ?_
    rw [h1]
    rintro e w' ⟨rfl, rfl⟩
    go_wp2_with fail
    go_ret
    exact ⟨rfl, Below.refl _ _⟩
  cases h2 : cvB q
  · go_enter Try.func91, Try.ntmps91
    go_wp2_with fail
    refine (s_l5Both c d _).mono ?_
    rw [h1]
    rintro e w' ⟨rfl, rfl⟩
    go_wp2_with (go_at_call 145; refine (s_ConditionValid q _).mono ?_; rw [h2]; rintro e w' ⟨rfl, rfl⟩)
    go_ret
    exact ⟨rfl, Below.refl _ _⟩
  · have g := h1
    rw [Bool.and_eq_true] at g
    obtain ⟨m, hm, rfl⟩ := (cvB_iff q).1 h2
    have hl := ctT_lt d m hm
    have HD := Lib.hid (ctT_dig d m hm); have HG := Lib.hid g.2
    clear g
    go_enter Try.func91, Try.ntmps91
    go_wp2_with fail
    refine (s_l5Both c d _).mono ?_
    rw [h1]
    rintro e w' ⟨rfl, rfl⟩
    go_wp2_with (go_at_call 145; refine (s_ConditionValid _ _).mono ?_; rw [h2]; rintro e w' ⟨rfl, rfl⟩)
    refine (s_ctTrans d _ HG.out).mono ?_
    rintro e w1 ⟨rfl, hb⟩
    go_wp2_with fail
    refine (s_l3Value _ m _ (ctT_Dg d) hm).mono ?_
    rw [HD.out]
    rintro e w' ⟨rfl, rfl⟩
    go_wp2_with fail
    go_ret
    exact ⟨rfl, hb⟩
end Go.Proofs.Ytiaeakpgldpaiaa
