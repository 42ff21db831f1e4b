/- The reference's listed functions: what each returns; none turns the world. -/
import Derived.Test.YtiaeakpgldpaiaaQJ2
namespace Go.Proofs.Ytiaeakpgldpaiaa
set_option linter.unusedSimpArgs false
set_option linter.unusedVariables false
set_option maxRecDepth 4000
open Go.RowKit

theorem optS_t (s : ByteArray) : optS true s = s := rfl
theorem optS_f (s : ByteArray) : optS false s = ⟨#[]⟩ := rfl
theorem optI_t (n : Nat) : optI true n = (n : Int) := rfl
theorem optI_f (n : Nat) : optI false n = -1 := rfl

theorem s_CodeSpec (p : Int) (r : ByteArray) (w : World) (hr : r.size ≤ 1048576) : Calls Try.prog 81 #[.int .i64 p, .string r] w fun e w' => e = .returned (.tuple #[.string (optS (cvB p && relOk r) (fCode p.toNat r)), .bool (cvB p && relOk r)]) ∧ w = w' := by
  cases hok : (cvB p && relOk r)
  · go_enter Try.func81, Try.ntmps81
    go_wp2_with (go_at_call 97; refine (s_l9Ready _ _ _ hr).mono ?_; rw [hok]; rintro e w' ⟨rfl, rfl⟩)
    go_ret2
    exact ⟨rfl, rfl⟩
  · have h2 := hok
    rw [Bool.and_eq_true] at h2
    obtain ⟨n, hn, rfl⟩ := (cvB_iff p).1 h2.1
    clear h2
    go_enter Try.func81, Try.ntmps81
    go_wp2_with (first | (go_at_call 97; refine (s_l9Ready _ _ _ hr).mono ?_; rw [hok]; rintro e w' ⟨rfl, rfl⟩) | (go_at_call 100; refine (s_l2Digit _ _ hn).mono ?_; rintro e w' ⟨rfl, rfl⟩))
    go_ret2
    exact ⟨rfl, rfl⟩
theorem s_KeepsInvariant (p : Int) (t : ByteArray) (v : Int) (w : World) (hs : t.size ≤ 1048576) : Calls Try.prog 54 #[.int .i64 p, .string t, .int .i64 v] w fun e w' => e = .returned (.bool (((trOk t && cvB p) && cvB v) && decide (andn (p.toNat &&& v.toNat) (dig t v.toNat) = 0))) ∧ w = w' := by
  cases hok : (trOk t && cvB p)
  · go_enter Try.func54, Try.ntmps54
    go_wp2_with (go_at_call 144; refine (s_l7Ready _ _ _ hs).mono ?_; rw [hok]; rintro e w' ⟨rfl, rfl⟩)
    go_ret
    exact ⟨rfl, rfl⟩
  · cases hv : cvB v
    · go_enter Try.func54, Try.ntmps54
      go_wp2_with (first | (go_at_call 144; refine (s_l7Ready _ _ _ hs).mono ?_; rw [hok]; rintro e w' ⟨rfl, rfl⟩) | (go_at_call 145; refine (s_ConditionValid _ _).mono ?_; rw [hv]; rintro e w' ⟨rfl, rfl⟩))
      go_ret
      exact ⟨rfl, rfl⟩
    · have hok' := hok
      rw [Bool.and_eq_true] at hok'
      have h1 := Dg.tr hok'.1
      have H1 := Lib.hid h1; clear h1
      obtain ⟨n, hn, rfl⟩ := (cvB_iff p).1 hok'.2
      obtain ⟨m, hm, rfl⟩ := (cvB_iff v).1 hv
      clear hok'
      have e1 := bits_and_nat n m (by omega) (by omega)
      have e2 := bits_andn_nat (n &&& m) (dig t m) (and_lt hn) (dig_lt _ _)
      go_enter Try.func54, Try.ntmps54
      go_wp2_with (first | (go_at_call 144; refine (s_l7Ready _ _ _ hs).mono ?_; rw [hok]; rintro e w' ⟨rfl, rfl⟩) | (go_at_call 145; refine (s_ConditionValid _ _).mono ?_; rw [hv]; rintro e w' ⟨rfl, rfl⟩) | (go_at_call 148; refine (s_l3Value _ _ _ H1.out hm).mono ?_; rintro e w' ⟨rfl, rfl⟩))
      go_ret
      refine ⟨ret_bool ?_, rfl⟩
      show ((andn (n &&& m) (dig t m) : Int) == 0) = decide (andn (n &&& m) (dig t m) = 0)
      by_cases h : andn (n &&& m) (dig t m) = 0 <;> simp [h]
theorem s_SpecWeaker (p : Int) (r : ByteArray) (q : Int) (s : ByteArray) (w : World) (hr : r.size ≤ 1048576) (hs : s.size ≤ 1048576) : Calls Try.prog 25 #[.int .i64 p, .string r, .int .i64 q, .string s] w fun e w' => e = .returned (.bool ((cvB p && relOk r) && (cvB q && relOk s) && (decide (andn q.toNat p.toNat = 0) && fWithin q.toNat (dig r) (dig s) 4))) ∧ w = w' := by
  cases hok : (cvB p && relOk r)
  · go_enter Try.func25, Try.ntmps25
    go_wp2_with (go_at_call 97; refine (s_l9Ready _ _ _ (by assumption)).mono ?_; rw [hok]; rintro e w' ⟨rfl, rfl⟩)
    go_ret
    exact ⟨rfl, rfl⟩
  cases hok2 : (cvB q && relOk s)
  · go_enter Try.func25, Try.ntmps25
    go_wp2_with (go_at_call 97; refine (s_l9Ready _ _ _ (by assumption)).mono ?_; (first | rw [hok] | rw [hok2]); rintro e w' ⟨rfl, rfl⟩)
    go_ret
    exact ⟨rfl, rfl⟩
  have g1 := hok; have g2 := hok2
  rw [Bool.and_eq_true] at g1 g2
  obtain ⟨n, hn, rfl⟩ := (cvB_iff p).1 g1.1
  obtain ⟨m, hm, rfl⟩ := (cvB_iff q).1 g2.1
  have h1 := Dg.rel g1.2; have h2 := Dg.rel g2.2
  have H1 := Lib.hid h1; have H2 := Lib.hid h2; clear h1 h2 g1 g2
  have e1 := bits_andn_nat m n hm hn
  by_cases hz : andn m n = 0
  · have b1 : ((andn m n : Int) != 0) = false := by simp [hz]
    have HZ := Lib.hid hz; clear hz
    go_enter Try.func25, Try.ntmps25
    go_wp2_with (go_at_call 97; refine (s_l9Ready _ _ _ (by assumption)).mono ?_; (first | rw [hok] | rw [hok2]); rintro e w' ⟨rfl, rfl⟩)
    go_loop [9] (fun i => ∃ k : Nat, k ≤ 4 ∧ i = .int .i64 k ∧ Hid (fWithin m (dig r) (dig s) k = true)) (fun i => 4 - (intOf i).toNat)
    case atStart => exact ⟨0, by omega, rfl, Lib.hid rfl⟩
    case round =>
      obtain ⟨k, hk, rfl, HW⟩ := hrel
      by_cases hlt : k < 4
      · have e2 := bits_andn_nat (dig r k) (dig s k) (dig_lt _ _) (dig_lt _ _)
        cases hb : m.testBit k
        · go_wp2_with (go_at_call 98; refine (s_l1Has _ _ _ (by omega) (by omega)).mono ?_; rw [hb]; rintro e w' ⟨rfl, rfl⟩)
          go_round
          case rel => exact ⟨k + 1, by omega, by go_num, Lib.hid (fWithin_succ HW.out fun h => by rw [hb] at h; cases h)⟩
          case measure => simp [intOf]; omega
        · by_cases hy : andn (dig r k) (dig s k) = 0
          · have b2 : ((andn (dig r k) (dig s k) : Int) != 0) = false := by simp [hy]
            have HY := Lib.hid hy; clear hy
            go_wp2_with (first | (go_at_call 98; refine (s_l1Has _ _ _ (by omega) (by omega)).mono ?_; rw [hb]; rintro e w' ⟨rfl, rfl⟩) | (go_at_call 99; refine (s_l2To _ _ _ (by first | exact H1.out | exact H2.out) hlt).mono ?_; rintro e w' ⟨rfl, rfl⟩))
            go_round
            case rel => exact ⟨k + 1, by omega, by go_num, Lib.hid (fWithin_succ HW.out fun _ => HY.out)⟩
            case measure => simp [intOf]; omega
          · have b2 : ((andn (dig r k) (dig s k) : Int) != 0) = true := by rw [bne_iff_ne]; omega
            have HY := Lib.hid hy; clear hy
            go_wp2_with (first | (go_at_call 98; refine (s_l1Has _ _ _ (by omega) (by omega)).mono ?_; rw [hb]; rintro e w' ⟨rfl, rfl⟩) | (go_at_call 99; refine (s_l2To _ _ _ (by first | exact H1.out | exact H2.out) hlt).mono ?_; rintro e w' ⟨rfl, rfl⟩))
            go_ret
            refine ⟨ret_bool ?_, rfl⟩
            show false = (true && true && (decide (andn m n = 0) && fWithin m (dig r) (dig s) 4))
            rw [fWithin_no hlt hb HY.out, Bool.and_false]; rfl
      · obtain rfl : k = 4 := by omega
        go_wp2
        go_ret
        refine ⟨ret_bool ?_, rfl⟩
        show true = (true && true && (decide (andn m n = 0) && fWithin m (dig r) (dig s) 4))
        rw [HW.out, HZ.out]; rfl
  · have b1 : ((andn m n : Int) != 0) = true := by rw [bne_iff_ne]; omega
    have HZ := Lib.hid hz; clear hz
    go_enter Try.func25, Try.ntmps25
    go_wp2_with (go_at_call 97; refine (s_l9Ready _ _ _ (by assumption)).mono ?_; (first | rw [hok] | rw [hok2]); rintro e w' ⟨rfl, rfl⟩)
    go_ret
    refine ⟨ret_bool ?_, rfl⟩
    show false = (true && true && (decide (andn m n = 0) && fWithin m (dig r) (dig s) 4))
    rw [decide_eq_false HZ.out]; rfl
theorem s_SpecMeet (p : Int) (r : ByteArray) (q : Int) (s : ByteArray) (w : World) (hr : r.size ≤ 1048576) (hs : s.size ≤ 1048576) : Calls Try.prog 16 #[.int .i64 p, .string r, .int .i64 q, .string s] w fun e w' => e = .returned (.tuple #[.int .i64 ((if (cvB p && relOk r) && (cvB q && relOk s) then p.toNat ||| q.toNat else 0 : Nat) : Int), .string (optS ((cvB p && relOk r) && (cvB q && relOk s)) (txt 4 (fMeetRel p.toNat q.toNat (dig r) (dig s)))), .bool ((cvB p && relOk r) && (cvB q && relOk s))]) ∧ w = w' := by
  cases hok : (cvB p && relOk r)
  · go_enter Try.func16, Try.ntmps16
    go_wp2_with (go_at_call 97; refine (s_l9Ready _ _ _ (by assumption)).mono ?_; rw [hok]; rintro e w' ⟨rfl, rfl⟩)
    go_ret3
    exact ⟨rfl, rfl⟩
  cases hok2 : (cvB q && relOk s)
  · go_enter Try.func16, Try.ntmps16
    go_wp2_with (go_at_call 97; refine (s_l9Ready _ _ _ (by assumption)).mono ?_; (first | rw [hok] | rw [hok2]); rintro e w' ⟨rfl, rfl⟩)
    go_ret3
    exact ⟨rfl, rfl⟩
  have g1 := hok; have g2 := hok2
  rw [Bool.and_eq_true] at g1 g2
  obtain ⟨n, hn, rfl⟩ := (cvB_iff p).1 g1.1
  obtain ⟨m, hm, rfl⟩ := (cvB_iff q).1 g2.1
  have h1 := Dg.rel g1.2; have h2 := Dg.rel g2.2
  have H1 := Lib.hid h1; have H2 := Lib.hid h2; clear h1 h2 g1 g2
  have e1 := bits_and_nat n m (by omega) (by omega)
  have e2 := bits_or_nat n m (by omega) (by omega)
  go_enter Try.func16, Try.ntmps16
  go_wp2_with (go_at_call 97; refine (s_l9Ready _ _ _ (by assumption)).mono ?_; (first | rw [hok] | rw [hok2]); rintro e w' ⟨rfl, rfl⟩)
  go_loop [11, 12] (fun o i => ∃ k : Nat, k ≤ 4 ∧ i = .int .i64 k ∧ o = .string (txt k (fMeetRel n m (dig r) (dig s)))) (fun _ i => 4 - (intOf i).toNat)
  case atStart => exact ⟨0, by omega, rfl, rfl⟩
  case round =>
    obtain ⟨k, hk, rfl, rfl⟩ := hrel
    by_cases hlt : k < 4
    · have e3 := bits_and_nat (dig r k) (dig s k) (by have := dig_lt r k; omega) (by have := dig_lt s k; omega)
      have ht := txt_snoc k (fMeetRel n m (dig r) (dig s))
      have hz : (txt k (fMeetRel n m (dig r) (dig s))).size ≤ 4 := by rw [txt_size]; exact hk
      have hnm := and_lt (b := m) hn
      cases hp : n.testBit k <;> cases hq : m.testBit k
      all_goals
        have hpq : (n &&& m).testBit k = (n.testBit k && m.testBit k) := Nat.testBit_and ..
        rw [hp, hq] at hpq
        have hF : fMeetRel n m (dig r) (dig s) k = if n.testBit k && m.testBit k then dig r k &&& dig s k else if n.testBit k then dig r k else if m.testBit k then dig s k else 0 := rfl
        rw [hp, hq] at hF
        simp only [Bool.and_self, Bool.and_false, Bool.false_and, Bool.and_true, Bool.true_and, if_true, if_false, Bool.false_eq_true] at hF hpq
        rw [hF] at ht
        have HT := Lib.hid ht; clear ht hF
        have HP := Lib.hid hp; have HQ := Lib.hid hq; have HPQ := Lib.hid hpq; clear hp hq hpq
        go_wp2_with (first | (go_at_call 98; refine (s_l1Has _ _ _ (by omega) (by omega)).mono ?_; (first | rw [HPQ.out] | rw [HP.out] | rw [HQ.out]); rintro e w' ⟨rfl, rfl⟩) | (go_at_call 99; refine (s_l2To _ _ _ (by first | exact H1.out | exact H2.out) hlt).mono ?_; rintro e w' ⟨rfl, rfl⟩) | (go_at_call 100; with_reducible refine (s_l2Digit_0 _).mono ?_; rintro e w' ⟨rfl, rfl⟩) | (go_at_call 100; refine (s_l2Digit _ _ (by first | omega | exact and_lt (dig_lt _ _) | exact dig_lt _ _)).mono ?_; rintro e w' ⟨rfl, rfl⟩))
        go_round
        case rel => exact ⟨k + 1, by omega, by go_num, by rw [← HT.out]⟩
        case measure => simp [intOf]; omega
    · obtain rfl : k = 4 := by omega
      go_wp2
      go_ret3
      exact ⟨rfl, rfl⟩
end Go.Proofs.Ytiaeakpgldpaiaa
