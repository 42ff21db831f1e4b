/- The program's listed functions on contracts. -/
import Derived.Test.YtiaeakpgldpaiaaQJ9
import Derived.Test.YtiaeakpgldpaiaaQImplX
namespace Go.Proofs.Ytiaeakpgldpaiaa
set_option linter.unusedSimpArgs false
set_option linter.unusedVariables false
set_option maxRecDepth 4000
open Go.RowKit

theorem i_ctTransOf (c : ByteArray) (x : Ct) (b : Nat) (w w1 : World) (hx : ctOf c = some x) (hct : CtIn w1 (fun k => w.heap.size ≤ k ∧ k < w1.heap.size) x b) (w2 : World) (hb : Below w1.heap.size w1 w2) : Calls Try.prog 115 #[.pointer (some ⟨b, 0, none⟩)] w2 fun e w' => e = .returned (.agg (row 16 (ctT c))) ∧ Below w2.heap.size w2 w' := by
  have hwf := ((ctOf_iff c x).1 hx).wf
  have hT : ctT c = x.tr := by unfold ctT; rw [hx]
  rw [hT]
  exact i_ctTrans x b w2 _ (hct.later (fun k hk => hk.2) hb) hwf (fun k hk => by have := hb.size; omega)
/-- What reading leaves, of a contract and of none. -/
theorem i_read_no (c : ByteArray) (w : World) (h : ctOk c = false) : Calls Try.prog 113 #[.string c] w fun e w' => e = .returned (.pointer none) ∧ Below w.heap.size w w' :=
  (i_read c w).mono fun e w' hp => by
    unfold CtPost at hp
    rw [ctOk_none h] at hp
    exact ⟨hp.2, hp.1⟩
/-- .. the pointer, and that its transformer can be asked for later. -/
def CtHeld (c : ByteArray) (w1 : World) (b : Nat) : Prop := ∀ w2, Below w1.heap.size w1 w2 → Calls Try.prog 115 #[.pointer (some ⟨b, 0, none⟩)] w2 fun e w' => e = .returned (.agg (row 16 (ctT c))) ∧ Below w2.heap.size w2 w'
theorem i_read_yes (c : ByteArray) (w : World) (h : ctOk c = true) : Calls Try.prog 113 #[.string c] w fun e w' => ∃ b, e = .returned (.pointer (some ⟨b, 0, none⟩)) ∧ CtHeld c w' b ∧ Below w.heap.size w w' :=
  (i_read c w).mono fun e w' hp => by
    obtain ⟨x, hx, _, _⟩ := ctOk_some h
    unfold CtPost at hp
    rw [hx] at hp
    obtain ⟨hb, b, he, hct⟩ := hp
    exact ⟨b, he, fun w2 hb2 => i_ctTransOf c x b w w' hx hct w2 hb2, hb⟩
theorem i_Implies (p q : Int) (w : World) : Calls Try.prog 31 #[.int .i64 p, .int .i64 q] w fun e w' => e = .returned (.bool ((cvB p && cvB q) && decide (andn p.toNat q.toNat = 0))) ∧ w = w' := by
  cases hp : cvB p
  · go_enter Try.func31, Try.ntmps31
    go_wp2_with fail
    refine (i_ConditionValid p _).mono ?_
    rw [hp]
    rintro e w' ⟨rfl, rfl⟩
    go_wp2_with fail
    go_ret
    exact ⟨rfl, rfl⟩
  cases hq : cvB q
  · go_enter Try.func31, Try.ntmps31
    go_wp2_with fail
    refine (i_ConditionValid p _).mono ?_
    rw [hp]
    rintro e w' ⟨rfl, rfl⟩
    go_wp2_with fail
    refine (i_ConditionValid q _).mono ?_
    rw [hq]
    rintro e w' ⟨rfl, rfl⟩
    go_wp2_with fail
    go_ret
    exact ⟨rfl, rfl⟩
  · obtain ⟨n, hn, rfl⟩ := (cvB_iff p).1 hp
    obtain ⟨m, hm, rfl⟩ := (cvB_iff q).1 hq
    have e1 := bits_andn_nat n m hn hm
    go_enter Try.func31, Try.ntmps31
    go_wp2_with fail
    refine (i_ConditionValid _ _).mono ?_
    rw [hp]
    rintro e w' ⟨rfl, rfl⟩
    go_wp2_with fail
    refine (i_ConditionValid _ _).mono ?_
    rw [hq]
    rintro e w' ⟨rfl, rfl⟩
    go_wp2_with fail
    go_ret
    refine ⟨ret_bool ?_, rfl⟩
    show ((andn n m : Int) == 0) = (true && decide (andn n m = 0))
    rw [Bool.true_and]
    by_cases h : andn n m = 0
    · simp [h]
    · rw [decide_eq_false h, beq_eq_false_iff_ne]; omega
theorem i_ContractValid (c : ByteArray) (w : World) : Calls Try.prog 88 #[.string c] w fun e w' => e = .returned (.bool (ctOk c)) ∧ Below w.heap.size w w' := by
  cases h : ctOk c
  · go_enter Try.func88, Try.ntmps88
    go_wp2_with fail
    refine (i_read_no c _ h).mono ?_
    rintro e w1 ⟨rfl, hb⟩
    go_wp2_with fail
    go_ret
    exact ⟨rfl, hb⟩
  · go_enter Try.func88, Try.ntmps88
    go_wp2_with fail
    refine (i_read_yes c _ h).mono ?_
    rintro e w1 ⟨b, rfl, hct, hb⟩
    clear hct
    go_wp2_with fail
    go_ret
    exact ⟨rfl, hb⟩
theorem i_NeedsBefore (c : ByteArray) (p : Int) (w : World) : Calls Try.prog 92 #[.string c, .int .i64 p] w fun e w' => e = .returned (.int .i64 (optI (ctOk c && cvB p) (ctT c p.toNat))) ∧ Below w.heap.size w w' := by
  cases h : ctOk c
  · go_enter Try.func92, Try.ntmps92
    go_wp2_with fail
    refine (i_read_no c _ h).mono ?_
    rintro e w1 ⟨rfl, hb⟩
    go_wp2_with fail
    go_ret
    exact ⟨rfl, hb⟩
  cases hp : cvB p
  · go_enter Try.func92, Try.ntmps92
    go_wp2_with fail
    refine (i_read_yes c _ h).mono ?_
    rintro e w1 ⟨b, rfl, hct, hb⟩
    clear hct
    go_wp2_with (go_at_call 56; refine (i_ConditionValid _ _).mono ?_; rw [hp]; rintro e w2 ⟨rfl, rfl⟩)
    go_ret
    exact ⟨rfl, hb⟩
  · obtain ⟨n, hn, rfl⟩ := (cvB_iff p).1 hp
    have hi := fun w => run_index_row (P := Try.prog) (F := ctT c) (T := 77) Try.underlying77 Try.underlying3 (by kernel_rfl) hn w
    go_enter Try.func92, Try.ntmps92
    go_wp2_with fail
    refine (i_read_yes c _ h).mono ?_
    rintro e w1 ⟨b, rfl, hct, hb⟩
    have HCT : Hid (CtHeld c w1 b) := Lib.hid hct; clear hct
    go_wp2_with (go_at_call 56; refine (i_ConditionValid _ _).mono ?_; rw [hp]; rintro e w2 ⟨rfl, rfl⟩)
    refine (HCT.out _ (Below.refl _ _)).mono ?_
    rintro e w2 ⟨rfl, hb2⟩
    go_wp2_with fail
    go_ret
    exact ⟨rfl, bel_on' hb hb2⟩
theorem i_IsCorrect (p : Int) (c : ByteArray) (q : Int) (w : World) : Calls Try.prog 86 #[.int .i64 p, .string c, .int .i64 q] w fun e w' => e = .returned (.bool (((cvB p && cvB q) && ctOk c) && decide (andn p.toNat (ctT c q.toNat) = 0))) ∧ Below w.heap.size w w' := by
  cases h : (ctOk c && cvB q)
  · have hr : (((cvB p && cvB q) && ctOk c) && decide (andn p.toNat (ctT c q.toNat) = 0)) = false := by
      revert h
      cases ctOk c <;> cases cvB q <;> cases cvB p <;> simp
    rw [hr]
    clear hr
    go_enter Try.func86, Try.ntmps86
    go_wp2_with fail
    refine (i_NeedsBefore c q _).mono ?_
    rw [h]
    rintro e w1 ⟨rfl, hb⟩
    go_wp2_with fail
    go_ret
    exact ⟨rfl, hb⟩
  · have g := h
    rw [Bool.and_eq_true] at g
    obtain ⟨m, hm, rfl⟩ := (cvB_iff q).1 g.2
    have hc := cvB_nat (ctT c m) (ctT_lt c m hm)
    have hl := ctT_lt c m hm
    have hr : (((cvB p && cvB (m : Int)) && ctOk c) && decide (andn p.toNat (ctT c (m : Int).toNat) = 0)) = ((cvB p && cvB (ctT c m : Int)) && decide (andn p.toNat (ctT c m : Int).toNat = 0)) := by
      rw [g.1, g.2, hc]
      simp
    rw [hr]
    clear hr hc g
    have hoi : optI true (ctT c m) = (ctT c m : Int) := rfl
    have HOI := Lib.hid hoi; clear hoi
    go_enter Try.func86, Try.ntmps86
    go_wp2_with fail
    refine (i_NeedsBefore c _ _).mono ?_
    rw [h]
    rw [show optI true (ctT c (m : Int).toNat) = (ctT c m : Int) from HOI.out]
    rintro e w1 ⟨rfl, hb⟩
    go_wp2_with fail
    refine (i_Implies p _ _).mono ?_
    rintro e w2 ⟨rfl, rfl⟩
    go_wp2_with fail
    go_ret
    exact ⟨rfl, hb⟩
theorem i_MiddleCondition (c d : ByteArray) (q : Int) (w : World) : Calls Try.prog 90 #[.string c, .string d, .int .i64 q] w fun e w' => e = .returned (.int .i64 (optI ((ctOk c && ctOk d) && cvB q) (ctT d q.toNat))) ∧ Below w.heap.size w w' := by
  cases h : ctOk c
  · go_enter Try.func90, Try.ntmps90
    go_wp2_with fail
    refine (i_ContractValid c _).mono ?_
    rw [h]
    rintro e w1 ⟨rfl, hb⟩
    go_wp2_with fail
    go_ret
    exact ⟨rfl, hb⟩
  · go_enter Try.func90, Try.ntmps90
    go_wp2_with fail
    refine (i_ContractValid c _).mono ?_
    rw [h]
    rintro e w1 ⟨rfl, hb⟩
    go_wp2_with fail
    refine (i_NeedsBefore d q _).mono ?_
    rintro e w2 ⟨rfl, hb2⟩
    go_wp2_with fail
    go_ret
    exact ⟨rfl, bel_on' hb hb2⟩
end Go.Proofs.Ytiaeakpgldpaiaa
