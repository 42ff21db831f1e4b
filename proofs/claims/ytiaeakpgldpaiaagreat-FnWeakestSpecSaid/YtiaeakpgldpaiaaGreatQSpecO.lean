/- The reference's listed functions on contracts. -/
import Derived.Test.YtiaeakpgldpaiaaGreatQJ8
import Derived.Test.YtiaeakpgldpaiaaGreatQJ2
namespace Go.Proofs.YtiaeakpgldpaiaaGreat
set_option linter.unusedSimpArgs false
set_option linter.unusedVariables false
set_option maxRecDepth 4000
open Go.RowKit

theorem s_ctTrans (c : ByteArray) (w : World) (h : ctOk c = true) : Calls Tryz.prog 34 #[.string c] w fun e w' => e = .returned (.string (txt 16 (ctT c))) ∧ Below w.heap.size w w' := by
  obtain ⟨x, _, hT, hR⟩ := ctOk_some h
  rw [hT]
  exact s_l5Trans x c w hR
theorem ctT_Dg (c : ByteArray) : Dg 16 (txt 16 (ctT c)) := Dg.txt fun i hi => ctT_lt c i hi
theorem ctT_ok (c : ByteArray) : trOk (txt 16 (ctT c)) = true := trOk_txt (ctT_bd c) (ctT_mono c)
theorem ctT_dig (c : ByteArray) (q : Nat) (hq : q < 16) : dig (txt 16 (ctT c)) q = ctT c q := txt_dig 16 _ q hq (ctT_lt c q hq)
theorem s_MeetsSpec (p : Int) (r c : ByteArray) (w : World) (hr : r.size ≤ 1048576) : Calls Tryz.prog 7 #[.int .i64 p, .string r, .string c] w fun e w' => e = .returned (.bool (((cvB p && relOk r) && ctOk c) && refB (fSpec p.toNat (dig r)) (ctT c) 16)) ∧ Below w.heap.size w w' := by
  cases h1 : (cvB p && relOk r)
  · go_enter Tryz.func7, Tryz.ntmps7
    go_wp2_with fail
    refine (s_l9Ready p r _ hr).mono ?_
    rw [h1]
    rintro e w' ⟨rfl, rfl⟩
    go_wp2_with fail
    go_ret
    exact ⟨rfl, Below.refl _ _⟩
  cases h2 : ctOk c
  · go_enter Tryz.func7, Tryz.ntmps7
    go_wp2_with fail
    refine (s_l9Ready p r _ hr).mono ?_
    rw [h1]
    rintro e w' ⟨rfl, rfl⟩
    go_wp2_with fail
    refine (s_ContractValid c _).mono ?_
    rw [h2]
    rintro e w' ⟨rfl, rfl⟩
    go_wp2_with fail
    go_ret
    exact ⟨rfl, Below.refl _ _⟩
  · have g := h1
    rw [Bool.and_eq_true] at g
    obtain ⟨n, hn, rfl⟩ := (cvB_iff p).1 g.1
    have k1 : trOk (txt 16 (fSpec n (dig r))) = true := trOk_txt (fun q _ => fSpec_lt hn q) (fSpec_mono n _)
    have k2 := ctT_ok c
    have k3 : refB (dig (txt 16 (fSpec n (dig r)))) (dig (txt 16 (ctT c))) 16 = refB (fSpec n (dig r)) (ctT c) 16 := refB_congr (fun i hi => txt_dig 16 _ i hi (fSpec_lt hn i)) (fun i hi => ctT_dig c i hi)
    have G := Lib.hid (Dg.rel g.2); have K1 := Lib.hid k1; have K2 := Lib.hid k2; have K3 := Lib.hid k3
    clear g k1 k2 k3
    go_enter Tryz.func7, Tryz.ntmps7
    go_wp2_with fail
    refine (s_l9Ready _ r _ hr).mono ?_
    rw [h1]
    rintro e w' ⟨rfl, rfl⟩
    go_wp2_with fail
    refine (s_ContractValid c _).mono ?_
    rw [h2]
    rintro e w' ⟨rfl, rfl⟩
    go_wp2_with fail
    refine (s_l4Spec n r _ hn G.out).mono ?_
    rintro e w' ⟨rfl, rfl⟩
    go_wp2_with fail
    refine (s_ctTrans c _ h2).mono ?_
    rintro e w1 ⟨rfl, hb⟩
    go_wp2_with fail
    refine (s_RefinesTrans _ _ _ (by rw [txt_size]; omega) (by rw [txt_size]; omega)).mono ?_
    rw [K1.out, K2.out, K3.out]
    rintro e w' ⟨rfl, rfl⟩
    go_wp2_with fail
    go_ret
    exact ⟨rfl, hb⟩
theorem s_WeakestSpec (c : ByteArray) (w : World) : Calls Tryz.prog 16 #[.string c] w fun e w' => e = .returned (.tuple #[.int .i64 ((if ctOk c && conjB (ctT c) then ctT c 15 else 0 : Nat) : Int), .string (optS (ctOk c && conjB (ctT c)) (txt 4 (fun s => fLead (ctT c) s 16))), .bool (ctOk c && conjB (ctT c))]) ∧ Below w.heap.size w w' := by
  cases h2 : ctOk c
  · go_enter Tryz.func16, Tryz.ntmps16
    go_wp2_with fail
    refine (s_ContractValid c _).mono ?_
    rw [h2]
    rintro e w' ⟨rfl, rfl⟩
    go_wp2_with fail
    go_ret3
    exact ⟨rfl, Below.refl _ _⟩
  have k3 : conjB (dig (txt 16 (ctT c))) = conjB (ctT c) := conjB_congr fun i hi => ctT_dig c i hi
  have K3 := Lib.hid k3; clear k3
  cases h3 : conjB (ctT c)
  · have H3 := Lib.hid h3
    go_enter Tryz.func16, Tryz.ntmps16
    go_wp2_with fail
    refine (s_ContractValid c _).mono ?_
    rw [h2]
    rintro e w' ⟨rfl, rfl⟩
    go_wp2_with fail
    refine (s_ctTrans c _ h2).mono ?_
    rintro e w1 ⟨rfl, hb⟩
    go_wp2_with fail
    refine (s_l4Conjunctive _ _ (ctT_Dg c)).mono ?_
    rw [K3.out, H3.out]
    rintro e w' ⟨rfl, rfl⟩
    go_wp2_with fail
    go_ret3
    exact ⟨rfl, hb⟩
  · have H3 := Lib.hid h3
    have k4 : txt 4 (fun s => fLead (dig (txt 16 (ctT c))) s 16) = txt 4 (fun s => fLead (ctT c) s 16) := txt_congr fun s _ => fLead_congr s 16 fun i hi => ctT_dig c i hi
    have K4 := Lib.hid k4; have K5 := Lib.hid (ctT_dig c 15 (by omega)); have K2 := Lib.hid (ctT_ok c)
    clear k4
    go_enter Tryz.func16, Tryz.ntmps16
    go_wp2_with fail
    refine (s_ContractValid c _).mono ?_
    rw [h2]
    rintro e w' ⟨rfl, rfl⟩
    go_wp2_with fail
    refine (s_ctTrans c _ h2).mono ?_
    rintro e w1 ⟨rfl, hb⟩
    go_wp2_with fail
    refine (s_l4Conjunctive _ _ (ctT_Dg c)).mono ?_
    rw [K3.out, H3.out]
    rintro e w' ⟨rfl, rfl⟩
    go_wp2_with fail
    refine (s_ctTrans c _ h2).mono ?_
    rintro e w2 ⟨rfl, hb2⟩
    go_wp2_with fail
    refine (s_SpecOf _ _ (by rw [txt_size]; omega)).mono ?_
    rw [K2.out, K3.out, H3.out, K4.out, K5.out]
    rintro e w' ⟨rfl, rfl⟩
    go_wp2_with fail
    go_ret3
    exact ⟨rfl, bel_on' hb hb2⟩
end Go.Proofs.YtiaeakpgldpaiaaGreat
