/- The reference's listed functions on contracts. -/
import Derived.Test.YtjbfebjdegabaaaSpecM
import Derived.Test.YtjbfebjdegabaaaSpecN
namespace Go.Proofs.Ytjbfebjdegabaaa
set_option linter.unusedSimpArgs false
set_option linter.unusedVariables false
set_option maxRecDepth 4000
open Go.RowKit

theorem s_l1Both (p q : Int) (w : World) : Calls Try.prog 89 #[.int .i64 p, .int .i64 q] w fun e w' => e = .returned (.bool (cvB p && cvB q)) ∧ w = w' := by
  cases hp : cvB p
  all_goals
    go_enter Try.func89, Try.ntmps89
    go_wp2_with fail
    refine (s_ConditionValid p _).mono ?_
    rw [hp]
    rintro e w' ⟨rfl, rfl⟩
    go_wp2_with (go_at_call 80; refine (s_ConditionValid q _).mono ?_; rintro e w' ⟨rfl, rfl⟩)
    go_ret
    exact ⟨rfl, rfl⟩
theorem s_l5Both (c d : ByteArray) (w : World) : Calls Try.prog 94 #[.string c, .string d] w fun e w' => e = .returned (.bool (ctOk c && ctOk d)) ∧ w = w' := by
  cases hp : ctOk c
  all_goals
    go_enter Try.func94, Try.ntmps94
    go_wp2_with fail
    refine (s_ContractValid c _).mono ?_
    rw [hp]
    rintro e w' ⟨rfl, rfl⟩
    go_wp2_with (go_at_call 90; refine (s_ContractValid d _).mono ?_; rintro e w' ⟨rfl, rfl⟩)
    go_ret
    exact ⟨rfl, rfl⟩
theorem s_ctTrans (c : ByteArray) (w : World) (h : ctOk c = true) : Calls Try.prog 91 #[.string c] w fun e w' => e = .returned (.string (txt 16 (ctT c))) ∧ Below w.heap.size w w' := by
  obtain ⟨x, _, hT, hR⟩ := ctOk_some h
  rw [hT]
  exact s_l5Trans x c w hR
theorem ctT_Dg (c : ByteArray) : Dg 16 (txt 16 (ctT c)) := Dg.txt fun i hi => ctT_lt c i hi
theorem ctT_ok (c : ByteArray) : trOk (txt 16 (ctT c)) = true := trOk_txt (ctT_bd c) (ctT_mono c)
theorem ctT_dig (c : ByteArray) (q : Nat) (hq : q < 16) : dig (txt 16 (ctT c)) q = ctT c q := txt_dig 16 _ q hq (ctT_lt c q hq)
theorem s_IsCorrect (p : Int) (c : ByteArray) (q : Int) (w : World) : Calls Try.prog 31 #[.int .i64 p, .string c, .int .i64 q] w fun e w' => e = .returned (.bool (((cvB p && cvB q) && ctOk c) && decide (andn p.toNat (ctT c q.toNat) = 0))) ∧ Below w.heap.size w w' := by
  cases h1 : (cvB p && cvB q)
  · go_enter Try.func31, Try.ntmps31
    go_wp2_with fail
    refine (s_l1Both p q _).mono ?_
    rw [h1]
    rintro e w' ⟨rfl, rfl⟩
    go_wp2_with fail
    go_ret
    exact ⟨rfl, Below.refl _ _⟩
  cases h2 : ctOk c
  · go_enter Try.func31, Try.ntmps31
    go_wp2_with fail
    refine (s_l1Both p q _).mono ?_
    rw [h1]
    rintro e w' ⟨rfl, rfl⟩
    go_wp2_with fail
    refine (s_ContractValid c _).mono ?_
    rw [h2]
    rintro e w' ⟨rfl, rfl⟩
    go_wp2_with fail
    go_ret
    exact ⟨rfl, Below.refl _ _⟩
  · have g := h1
    rw [Bool.and_eq_true] at g
    obtain ⟨n, hn, rfl⟩ := (cvB_iff p).1 g.1
    obtain ⟨m, hm, rfl⟩ := (cvB_iff q).1 g.2
    have hl := ctT_lt c m hm
    have e1 := bits_andn_nat n (ctT c m) hn hl
    have HD := Lib.hid (ctT_dig c m hm)
    clear g
    go_enter Try.func31, Try.ntmps31
    go_wp2_with fail
    refine (s_l1Both _ _ _).mono ?_
    rw [h1]
    rintro e w' ⟨rfl, rfl⟩
    go_wp2_with fail
    refine (s_ContractValid c _).mono ?_
    rw [h2]
    rintro e w' ⟨rfl, rfl⟩
    go_wp2_with fail
    refine (s_ctTrans c _ h2).mono ?_
    rintro e w1 ⟨rfl, hb⟩
    go_wp2_with fail
    refine (s_l3Value _ m _ (ctT_Dg c) hm).mono ?_
    rw [HD.out]
    rintro e w' ⟨rfl, rfl⟩
    go_wp2_with fail
    go_ret
    refine ⟨ret_bool ?_, hb⟩
    show ((andn n (ctT c m) : Int) == 0) = (true && decide (andn n (ctT c m) = 0))
    rw [Bool.true_and]
    by_cases h : andn n (ctT c m) = 0
    · simp [h]
    · rw [decide_eq_false h, beq_eq_false_iff_ne]; omega
theorem s_MiddleCondition (c d : ByteArray) (q : Int) (w : World) : Calls Try.prog 33 #[.string c, .string d, .int .i64 q] w fun e w' => e = .returned (.int .i64 (optI ((ctOk c && ctOk d) && cvB q) (ctT d q.toNat))) ∧ Below w.heap.size w w' := by
  cases h1 : (ctOk c && ctOk d)
  · go_enter Try.func33, Try.ntmps33
    go_wp2_with fail
    refine (s_l5Both c d _).mono ?_
    rw [h1]
    rintro e w' ⟨rfl, rfl⟩
    go_wp2_with fail
    go_ret
    exact ⟨rfl, Below.refl _ _⟩
  cases h2 : cvB q
  · go_enter Try.func33, Try.ntmps33
    go_wp2_with fail
    refine (s_l5Both c d _).mono ?_
    rw [h1]
    rintro e w' ⟨rfl, rfl⟩
    go_wp2_with (go_at_call 80; refine (s_ConditionValid q _).mono ?_; rw [h2]; rintro e w' ⟨rfl, rfl⟩)
    go_ret
    exact ⟨rfl, Below.refl _ _⟩
  · have g := h1
    rw [Bool.and_eq_true] at g
    obtain ⟨m, hm, rfl⟩ := (cvB_iff q).1 h2
    have hl := ctT_lt d m hm
    have HD := Lib.hid (ctT_dig d m hm); have HG := Lib.hid g.2
    clear g
    go_enter Try.func33, Try.ntmps33
    go_wp2_with fail
    refine (s_l5Both c d _).mono ?_
    rw [h1]
    rintro e w' ⟨rfl, rfl⟩
    go_wp2_with (go_at_call 80; refine (s_ConditionValid _ _).mono ?_; rw [h2]; rintro e w' ⟨rfl, rfl⟩)
    refine (s_ctTrans d _ HG.out).mono ?_
    rintro e w1 ⟨rfl, hb⟩
    go_wp2_with fail
    refine (s_l3Value _ m _ (ctT_Dg d) hm).mono ?_
    rw [HD.out]
    rintro e w' ⟨rfl, rfl⟩
    go_wp2_with fail
    go_ret
    exact ⟨rfl, hb⟩
theorem s_MeetsSpec (p : Int) (r c : ByteArray) (w : World) (hr : r.size ≤ 1048576) : Calls Try.prog 35 #[.int .i64 p, .string r, .string c] w fun e w' => e = .returned (.bool (((cvB p && relOk r) && ctOk c) && refB (fSpec p.toNat (dig r)) (ctT c) 16)) ∧ Below w.heap.size w w' := by
  cases h1 : (cvB p && relOk r)
  · go_enter Try.func35, Try.ntmps35
    go_wp2_with fail
    refine (s_l9Ready p r _ hr).mono ?_
    rw [h1]
    rintro e w' ⟨rfl, rfl⟩
    go_wp2_with fail
    go_ret
    exact ⟨rfl, Below.refl _ _⟩
  cases h2 : ctOk c
  · go_enter Try.func35, Try.ntmps35
    go_wp2_with fail
    refine (s_l9Ready p r _ hr).mono ?_
    rw [h1]
    rintro e w' ⟨rfl, rfl⟩
    go_wp2_with fail
    refine (s_ContractValid c _).mono ?_
    rw [h2]
    rintro e w' ⟨rfl, rfl⟩
    go_wp2_with fail
    go_ret
    exact ⟨rfl, Below.refl _ _⟩
  · have g := h1
    rw [Bool.and_eq_true] at g
    obtain ⟨n, hn, rfl⟩ := (cvB_iff p).1 g.1
    have k1 : trOk (txt 16 (fSpec n (dig r))) = true := trOk_txt (fun q _ => fSpec_lt hn q) (fSpec_mono n _)
    have k2 := ctT_ok c
    have k3 : refB (dig (txt 16 (fSpec n (dig r)))) (dig (txt 16 (ctT c))) 16 = refB (fSpec n (dig r)) (ctT c) 16 := refB_congr (fun i hi => txt_dig 16 _ i hi (fSpec_lt hn i)) (fun i hi => ctT_dig c i hi)
    have G := Lib.hid (Dg.rel g.2); have K1 := Lib.hid k1; have K2 := Lib.hid k2; have K3 := Lib.hid k3
    clear g k1 k2 k3
    go_enter Try.func35, Try.ntmps35
    go_wp2_with fail
    refine (s_l9Ready _ r _ hr).mono ?_
    rw [h1]
    rintro e w' ⟨rfl, rfl⟩
    go_wp2_with fail
    refine (s_ContractValid c _).mono ?_
    rw [h2]
    rintro e w' ⟨rfl, rfl⟩
    go_wp2_with fail
    refine (s_l4Spec n r _ hn G.out).mono ?_
    rintro e w' ⟨rfl, rfl⟩
    go_wp2_with fail
    refine (s_ctTrans c _ h2).mono ?_
    rintro e w1 ⟨rfl, hb⟩
    go_wp2_with fail
    refine (s_RefinesTrans _ _ _ (by rw [txt_size]; omega) (by rw [txt_size]; omega)).mono ?_
    rw [K1.out, K2.out, K3.out]
    rintro e w' ⟨rfl, rfl⟩
    go_wp2_with fail
    go_ret
    exact ⟨rfl, hb⟩
theorem s_WeakestSpec (c : ByteArray) (w : World) : Calls Try.prog 37 #[.string c] w fun e w' => e = .returned (.tuple #[.int .i64 ((if ctOk c && conjB (ctT c) then ctT c 15 else 0 : Nat) : Int), .string (optS (ctOk c && conjB (ctT c)) (txt 4 (fun s => fLead (ctT c) s 16))), .bool (ctOk c && conjB (ctT c))]) ∧ Below w.heap.size w w' := by
  cases h2 : ctOk c
  · go_enter Try.func37, Try.ntmps37
    go_wp2_with fail
    refine (s_ContractValid c _).mono ?_
    rw [h2]
    rintro e w' ⟨rfl, rfl⟩
    go_wp2_with fail
    go_ret3
    exact ⟨rfl, Below.refl _ _⟩
  have k3 : conjB (dig (txt 16 (ctT c))) = conjB (ctT c) := conjB_congr fun i hi => ctT_dig c i hi
  have K3 := Lib.hid k3; clear k3
  cases h3 : conjB (ctT c)
  · have H3 := Lib.hid h3
    go_enter Try.func37, Try.ntmps37
    go_wp2_with fail
    refine (s_ContractValid c _).mono ?_
    rw [h2]
    rintro e w' ⟨rfl, rfl⟩
    go_wp2_with fail
    refine (s_ctTrans c _ h2).mono ?_
    rintro e w1 ⟨rfl, hb⟩
    go_wp2_with fail
    refine (s_l4Conjunctive _ _ (ctT_Dg c)).mono ?_
    rw [K3.out, H3.out]
    rintro e w' ⟨rfl, rfl⟩
    go_wp2_with fail
    go_ret3
    exact ⟨rfl, hb⟩
  · have H3 := Lib.hid h3
    have k4 : txt 4 (fun s => fLead (dig (txt 16 (ctT c))) s 16) = txt 4 (fun s => fLead (ctT c) s 16) := txt_congr fun s _ => fLead_congr s 16 fun i hi => ctT_dig c i hi
    have K4 := Lib.hid k4; have K5 := Lib.hid (ctT_dig c 15 (by omega)); have K2 := Lib.hid (ctT_ok c)
    clear k4
    go_enter Try.func37, Try.ntmps37
    go_wp2_with fail
    refine (s_ContractValid c _).mono ?_
    rw [h2]
    rintro e w' ⟨rfl, rfl⟩
    go_wp2_with fail
    refine (s_ctTrans c _ h2).mono ?_
    rintro e w1 ⟨rfl, hb⟩
    go_wp2_with fail
    refine (s_l4Conjunctive _ _ (ctT_Dg c)).mono ?_
    rw [K3.out, H3.out]
    rintro e w' ⟨rfl, rfl⟩
    go_wp2_with fail
    refine (s_ctTrans c _ h2).mono ?_
    rintro e w2 ⟨rfl, hb2⟩
    go_wp2_with fail
    refine (s_SpecOf _ _ (by rw [txt_size]; omega)).mono ?_
    rw [K2.out, K3.out, H3.out, K4.out, K5.out]
    rintro e w' ⟨rfl, rfl⟩
    go_wp2_with fail
    go_ret3
    exact ⟨rfl, bel_on' hb hb2⟩
end Go.Proofs.Ytjbfebjdegabaaa
