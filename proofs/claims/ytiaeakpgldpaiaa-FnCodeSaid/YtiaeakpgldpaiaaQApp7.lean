/- Functional tables and refined contracts, as the laws call them. -/
import Derived.Test.YtiaeakpgldpaiaaQApp6
namespace Go.Proofs.Ytiaeakpgldpaiaa
set_option linter.unusedSimpArgs false
set_option linter.unusedVariables false
set_option maxRecDepth 4000
open Go.RowKit

/-- What is so of any two conditions. -/
theorem i_pairwiseAll (fv : Value) (w : World) (hf : Pr2Is Try.prog fv w (fun _ _ => true) 16) : Calls Try.prog 222 #[fv] w fun e w' => e = .returned (.bool true) ∧ Below w.heap.size w w' := by
  obtain ⟨g, lb, rfl, hent, hcall⟩ := hf
  have HC := Lib.hid hcall; clear hcall
  go_enter Try.func222, Try.ntmps222
  go_wp2_with fail
  go_loopw [5] (fun t wr => ∃ k : Nat, k ≤ 16 ∧ t = .int .i64 k ∧ Below w.heap.size w wr) (fun t _ => (16 - intOf t).toNat)
  case atStart => exact ⟨0, by omega, rfl, Below.refl _ _⟩
  case round =>
    obtain ⟨k, hk, rfl, hb⟩ := hrel
    by_cases hlt : k < 16
    · have hd : decide ((k : Int) < 16) = true := by simp; omega
      go_wp2_with fail
      clear hd
      go_loopw [8] (fun t wr => ∃ j : Nat, j ≤ 16 ∧ t = .int .i64 j ∧ Below w.heap.size w wr) (fun t _ => (16 - intOf t).toNat)
      case atStart => exact ⟨0, by omega, rfl, hb⟩
      case round =>
        clear hb
        obtain ⟨j, hj, rfl, hb⟩ := hrel
        by_cases hlj : j < 16
        · go_wp2_with fail
          refine (HC.out _ k j hb hlt hlj).mono ?_
          rintro e w1 ⟨rfl, hb1⟩
          go_wp2_with fail
          go_roundw
          case rel => exact ⟨j + 1, by omega, by go_num, bel_on hb hb1 hb.size⟩
          case measure => simp [intOf]; omega
        · obtain rfl : j = 16 := by omega
          go_wp2_with fail
          go_roundw
          case rel => exact ⟨k + 1, by omega, by go_num, hb⟩
          case measure => simp [intOf]; omega
    · obtain rfl : k = 16 := by omega
      go_wp2_with fail
      go_ret
      exact ⟨rfl, hb⟩
theorem fn_disj (w : World) (B : Nat) (T : Nat → Nat) (hT : Bd T) (hd : ∀ p q, p < 16 → q < 16 → T (p ||| q) = (T p ||| T q)) (h1 : RowAt w B 77 (row 16 T)) : Pr2Is Try.prog (.func (.func 247) #[] #[.pointer (some ⟨B, 0, none⟩)]) w (fun _ _ => true) 16 :=
  ⟨247, _, rfl, enters_of Try.func247 (by kernel_rfl) rfl, fun W p q hb hp hq => by
    have hpq : p ||| q < 16 := or_lt hp hq
    have e0 := bits_or_nat p q (by omega) (by omega)
    have c0 := (h1.later hb).cell (p ||| q) hpq
    have c1 := (h1.later hb).cell p hp
    have c2 := (h1.later hb).cell q hq
    have e1 := bits_or_nat (T p) (T q) (by have := hT p hp; omega) (by have := hT q hq; omega)
    have i0 := lt_cast hpq
    have i1 := lt_cast hp
    have i2 := lt_cast hq
    have HD := Lib.hid (hd p q hp hq)
    show Calls Try.prog 247 #[.int .i64 (p : Int), .int .i64 (q : Int), .pointer (some ⟨B, 0, none⟩)] W _
    clear h1 hT hb hd
    go_enter Try.func247, Try.ntmps247
    go_wp2
    go_quiet (fail)
    go_wp2
    go_ret
    refine ⟨ret_bool ?_, bel_drewN (Below.refl _ _) _⟩
    show ((T (p ||| q) : Int) == ((T p ||| T q : Nat) : Int)) = true
    rw [HD.out]; simp⟩
theorem i_disjunctive (T : Nat → Nat) (w : World) (hT : Bd T) (hd : ∀ p q, p < 16 → q < 16 → T (p ||| q) = (T p ||| T q)) : Calls Try.prog 228 #[.agg (row 16 T)] w fun e w' => e = .returned (.bool true) ∧ Below w.heap.size w w' := by
  have h1 := RowAt.fresh w 77 (row 16 T)
  have HF := Lib.hid (i_pairwiseAll _ _ (fn_disj _ _ T hT hd h1)); clear h1 hd
  go_enter Try.func228, Try.ntmps228
  go_wp2_with fail
  refine HF.out.mono ?_
  rintro e w1 ⟨rfl, hb⟩
  go_wp2_with fail
  go_ret
  exact ⟨rfl, bel_on (bel_1 w _) hb (by simp)⟩
theorem i_IsDisjN (t : ByteArray) (w : World) (hok : trOk t = true) (hd : ∀ p q, p < 16 → q < 16 → dig t (p ||| q) = (dig t p ||| dig t q)) : Calls Try.prog 170 #[.string t] w fun e w' => e = .returned (.bool true) ∧ Below w.heap.size w w' := by
  have k1 := trF_ok hok
  have K1 := Lib.hid k1; have HD := Lib.hid hd; clear k1 hd
  go_enter Try.func170, Try.ntmps170
  go_wp2_with fail
  refine (i_readTrans _ _).mono ?_
  rw [hok, K1.out]
  rintro e w1 ⟨rfl, hb⟩
  have r1 := RowAt.fresh w1 77 (row 16 (dig t))
  have hbb := bel_on' hb (bel_1 w1 (.cells (row 16 (dig t)) 77))
  go_wp2_with (first | (refine wpList_store_new rfl 77 _ _ rfl (row 16 (dig t)) rfl rfl (by rw [row_size]; kernel_rfl) (by first | rfl | (rw [row_size, row_size]) | (simp [row_size]; done)) (row_one _ _) ?_) | (refine wpList_load_rowG (by rfl) 77 _ rfl (w1.heap.size) rfl 77 (row 16 (dig t)) (0, 0) _ r1 Try.underlying77 rfl (by rw [row_size]; kernel_rfl) ?_))
  refine (i_disjunctive (dig t) _ (dig_bd t) HD.out).mono ?_
  rintro e w2 ⟨rfl, hb2⟩
  go_wp2_with fail
  go_ret
  exact ⟨rfl, bel_on' hbb hb2⟩
theorem i_IsStrictN (t : ByteArray) (w : World) (hok : trOk t = true) (h0 : dig t 0 = 0) : Calls Try.prog 171 #[.string t] w fun e w' => e = .returned (.bool true) ∧ Below w.heap.size w w' := by
  have h := i_ApplyN t 0 w hok (by omega)
  rw [h0] at h
  have H := Lib.hid h; clear h h0
  go_enter Try.func171, Try.ntmps171
  go_wp2_with fail
  refine H.out.mono ?_
  rintro e w1 ⟨rfl, hb⟩
  go_wp2_with fail
  go_ret
  exact ⟨rfl, hb⟩
theorem i_IsTermN (t : ByteArray) (w : World) (hok : trOk t = true) (h0 : dig t 15 = 15) : Calls Try.prog 172 #[.string t] w fun e w' => e = .returned (.bool true) ∧ Below w.heap.size w w' := by
  have h := i_ApplyN t 15 w hok (by omega)
  rw [h0] at h
  have H := Lib.hid h; clear h h0
  go_enter Try.func172, Try.ntmps172
  go_wp2_with fail
  refine H.out.mono ?_
  rintro e w1 ⟨rfl, hb⟩
  go_wp2_with fail
  go_ret
  exact ⟨rfl, hb⟩
theorem i_IsFunctN (t : ByteArray) (w : World) (hok : trOk t = true) (hc : conjB (dig t) = true) (hd : ∀ p q, p < 16 → q < 16 → dig t (p ||| q) = (dig t p ||| dig t q)) (h0 : dig t 0 = 0) (h15 : dig t 15 = 15) : Calls Try.prog 83 #[.string t] w fun e w' => e = .returned (.bool true) ∧ Below w.heap.size w w' := by
  have HOK := Lib.hid hok; have HC := Lib.hid hc; have HD := Lib.hid hd; have H0 := Lib.hid h0; have H15 := Lib.hid h15
  clear hok hc hd h0 h15
  have hc0 := Below.refl w.heap.size w
  go_enter Try.func83, Try.ntmps83
  go_wp2_with fail
  refine (i_IsConjN t _ HOK.out).mono ?_
  rw [HC.out]
  rintro e w1 ⟨rfl, hb1⟩
  have hc1 := bel_on' hc0 hb1
  clear hb1 hc0
  go_wp2_with fail
  refine (i_IsDisjN t _ HOK.out HD.out).mono ?_
  rintro e w2 ⟨rfl, hb2⟩
  have hc2 := bel_on' hc1 hb2
  clear hb2 hc1
  go_wp2_with fail
  refine (i_IsStrictN t _ HOK.out H0.out).mono ?_
  rintro e w3 ⟨rfl, hb3⟩
  have hc3 := bel_on' hc2 hb3
  clear hb3 hc2
  go_wp2_with fail
  refine (i_IsTermN t _ HOK.out H15.out).mono ?_
  rintro e w4 ⟨rfl, hb4⟩
  have hc4 := bel_on' hc3 hb4
  clear hb4 hc3
  go_wp2_with fail
  go_ret
  exact ⟨rfl, hc4⟩
theorem i_RefinesCN (c d : ByteArray) (w : World) (hc : ctOk c = true) (hd : ctOk d = true) : Calls Try.prog 84 #[.string c, .string d] w fun e w' => e = .returned (.bool (refB (ctT c) (ctT d) 16)) ∧ Below w.heap.size w w' := by
  have HT := Lib.hid (ctT_bd c); have HU := Lib.hid (ctT_bd d)
  go_enter Try.func84, Try.ntmps84
  go_wp2_with fail
  refine (i_read_yes c _ hc).mono ?_
  rintro e w1 ⟨b1, rfl, hct, hb1⟩
  have HC : Hid (CtHeld c w1 b1) := Lib.hid hct
  clear hct
  go_wp2_with fail
  refine (i_read_yes d _ hd).mono ?_
  rintro e w2 ⟨b2, rfl, hct, hb2⟩
  have HD : Hid (CtHeld d w2 b2) := Lib.hid hct
  clear hct
  go_wp2_with fail
  refine (HC.out _ hb2).mono ?_
  rintro e w3 ⟨rfl, hb3⟩
  go_wp2_with fail
  refine (HD.out _ hb3).mono ?_
  rintro e w4 ⟨rfl, hb4⟩
  go_wp2_with fail
  refine (i_refined _ _ _ HT.out HU.out).mono ?_
  rintro e w5 ⟨rfl, hb5⟩
  go_wp2_with fail
  go_ret
  exact ⟨rfl, bel_on' (bel_on' (bel_on' (bel_on' hb1 hb2) hb3) hb4) hb5⟩
end Go.Proofs.Ytiaeakpgldpaiaa
