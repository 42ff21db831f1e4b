/- The reference's listed functions: what each returns; none turns the world. -/
import Derived.Test.YtdmfgcldbcoclaaSpecC
namespace Go.Proofs.Ytdmfgcldbcoclaa
set_option linter.unusedSimpArgs false
set_option linter.unusedVariables false
open Go.RowKit

theorem optS_t (s : ByteArray) : optS true s = s := rfl
theorem optS_f (s : ByteArray) : optS false s = ⟨#[]⟩ := rfl
theorem optI_t (n : Nat) : optI true n = (n : Int) := rfl
theorem optI_f (n : Nat) : optI false n = -1 := rfl

theorem s_AssignCode (s t : Int) (w : World) : Calls Try.prog 15 #[.int .i64 s, .int .i64 t] w fun e w' => e = .returned (.tuple #[.string (optS (stB s && stB t) (fAssign s.toNat t.toNat)), .bool (stB s && stB t)]) ∧ w = w' := by
  cases hs : stB s <;> cases ht : stB t
  case true.true =>
    have HS := Lib.hid hs; have HT := Lib.hid ht
    obtain ⟨s, h1, rfl⟩ := (stB_iff s).1 hs
    obtain ⟨t, h2, rfl⟩ := (stB_iff t).1 ht
    go_enter Try.func15, Try.ntmps15
    go_wp2_with (first | (go_at_call 39; refine (s_l1State _ _).mono ?_; (first | rw [hs] | rw [ht]); rintro e w' ⟨rfl, rfl⟩) | (go_at_call 40; refine (s_l9Assign _ _ _ h1 h2).mono ?_; rintro e w' ⟨rfl, rfl⟩))
    go_ret2
    exact ⟨rfl, rfl⟩
  all_goals
    go_enter Try.func15, Try.ntmps15
    go_wp2_with (go_at_call 39; refine (s_l1State _ _).mono ?_; (first | rw [hs] | rw [ht]); rintro e w' ⟨rfl, rfl⟩)
    go_ret2
    exact ⟨rfl, rfl⟩
theorem s_CodeSpec (p : Int) (r : ByteArray) (w : World) (hr : r.size ≤ 1048576) : Calls Try.prog 17 #[.int .i64 p, .string r] w fun e w' => e = .returned (.tuple #[.string (optS (cvB p && relOk r) (fCode p.toNat r)), .bool (cvB p && relOk r)]) ∧ w = w' := by
  cases hok : (cvB p && relOk r)
  · go_enter Try.func17, Try.ntmps17
    go_wp2_with (go_at_call 45; refine (s_l9Ready _ _ _ hr).mono ?_; rw [hok]; rintro e w' ⟨rfl, rfl⟩)
    go_ret2
    exact ⟨rfl, rfl⟩
  · have h2 := hok
    rw [Bool.and_eq_true] at h2
    obtain ⟨n, hn, rfl⟩ := (cvB_iff p).1 h2.1
    clear h2
    go_enter Try.func17, Try.ntmps17
    go_wp2_with (first | (go_at_call 45; refine (s_l9Ready _ _ _ hr).mono ?_; rw [hok]; rintro e w' ⟨rfl, rfl⟩) | (go_at_call 46; refine (s_l2Digit _ _ hn).mono ?_; rintro e w' ⟨rfl, rfl⟩))
    go_ret2
    exact ⟨rfl, rfl⟩
theorem s_LeastPoint (t : ByteArray) (w : World) (hs : t.size ≤ 1048576) : Calls Try.prog 25 #[.string t] w fun e w' => e = .returned (.int .i64 (optI (trOk t) (lfp (dig t)))) ∧ w = w' := by
  cases hok : trOk t
  · go_enter Try.func25, Try.ntmps25
    go_wp2_with (go_at_call 57; refine (s_TransValid _ _ hs).mono ?_; rw [hok]; rintro e w' ⟨rfl, rfl⟩)
    go_ret
    exact ⟨rfl, rfl⟩
  · have h1 := Dg.tr hok
    have h2 := dig_mono hok
    have H1 := Lib.hid h1; have H2 := Lib.hid h2; clear h1 h2
    go_enter Try.func25, Try.ntmps25
    go_wp2_with (first | (go_at_call 57; refine (s_TransValid _ _ hs).mono ?_; rw [hok]; rintro e w' ⟨rfl, rfl⟩) | (go_at_call 61; refine (s_l7Least _ 0 15 _ H1.out H2.out (by omega) (by omega)).mono ?_; rw [lfp_id (dig_bd t)]; rintro e w' ⟨rfl, rfl⟩))
    go_ret
    exact ⟨rfl, rfl⟩
theorem s_LeastFrom (t : ByteArray) (p : Int) (w : World) (hs : t.size ≤ 1048576) : Calls Try.prog 29 #[.string t, .int .i64 p] w fun e w' => e = .returned (.int .i64 (optI (trOk t && cvB p) (lfp (eqO (dig t) p.toNat)))) ∧ w = w' := by
  cases hok : (trOk t && cvB p)
  · go_enter Try.func29, Try.ntmps29
    go_wp2_with (go_at_call 53; refine (s_l7Ready _ _ _ hs).mono ?_; rw [hok]; rintro e w' ⟨rfl, rfl⟩)
    go_ret
    exact ⟨rfl, rfl⟩
  · have hok' := hok
    rw [Bool.and_eq_true] at hok'
    have h1 := Dg.tr hok'.1
    have h2 := dig_mono hok'.1
    have H1 := Lib.hid h1; have H2 := Lib.hid h2; clear h1 h2
    obtain ⟨n, hn, rfl⟩ := (cvB_iff p).1 hok'.2
    clear hok'
    go_enter Try.func29, Try.ntmps29
    go_wp2_with (first | (go_at_call 53; refine (s_l7Ready _ _ _ hs).mono ?_; rw [hok]; rintro e w' ⟨rfl, rfl⟩) | (go_at_call 61; refine (s_l7Least _ n 15 _ H1.out H2.out (by omega) (by omega)).mono ?_; rw [lfp_or (dig_bd t) hn]; rintro e w' ⟨rfl, rfl⟩))
    go_ret
    exact ⟨rfl, rfl⟩
theorem s_GreatestIn (t : ByteArray) (p : Int) (w : World) (hs : t.size ≤ 1048576) : Calls Try.prog 27 #[.string t, .int .i64 p] w fun e w' => e = .returned (.int .i64 (optI (trOk t && cvB p) (gfp (eqA (dig t) p.toNat)))) ∧ w = w' := by
  cases hok : (trOk t && cvB p)
  · go_enter Try.func27, Try.ntmps27
    go_wp2_with (go_at_call 53; refine (s_l7Ready _ _ _ hs).mono ?_; rw [hok]; rintro e w' ⟨rfl, rfl⟩)
    go_ret
    exact ⟨rfl, rfl⟩
  · have hok' := hok
    rw [Bool.and_eq_true] at hok'
    have h1 := Dg.tr hok'.1
    have h2 := dig_mono hok'.1
    have H1 := Lib.hid h1; have H2 := Lib.hid h2; clear h1 h2
    obtain ⟨n, hn, rfl⟩ := (cvB_iff p).1 hok'.2
    clear hok'
    go_enter Try.func27, Try.ntmps27
    go_wp2_with (first | (go_at_call 53; refine (s_l7Ready _ _ _ hs).mono ?_; rw [hok]; rintro e w' ⟨rfl, rfl⟩) | (go_at_call 64; refine (s_l7Greatest _ 0 n _ H1.out H2.out (by omega) (by omega)).mono ?_; rw [gfp_and hn]; rintro e w' ⟨rfl, rfl⟩))
    go_ret
    exact ⟨rfl, rfl⟩
theorem s_PointsOf (t : ByteArray) (w : World) (hs : t.size ≤ 1048576) : Calls Try.prog 23 #[.string t] w fun e w' => e = .returned (.int .i64 (optI (trOk t) (fPoints (dig t)))) ∧ w = w' := by
  cases hok : trOk t
  · go_enter Try.func23, Try.ntmps23
    go_wp2_with (go_at_call 57; refine (s_TransValid _ _ hs).mono ?_; rw [hok]; rintro e w' ⟨rfl, rfl⟩)
    go_ret
    exact ⟨rfl, rfl⟩
  · have h1 := Dg.tr hok
    have H1 := Lib.hid h1; clear h1
    go_enter Try.func23, Try.ntmps23
    go_wp2_with (go_at_call 57; refine (s_TransValid _ _ hs).mono ?_; rw [hok]; rintro e w' ⟨rfl, rfl⟩)
    go_loop [3, 4] (fun f i => ∃ k : Nat, k ≤ 16 ∧ i = .int .i64 k ∧ f = .int .i64 (mkC (fun p => decide (dig t p = p)) k : Int)) (fun _ i => 16 - (intOf i).toNat)
    case atStart => exact ⟨0, by omega, rfl, rfl⟩
    case round =>
      obtain ⟨k, hk, rfl, rfl⟩ := hrel
      by_cases hlt : k < 16
      · have e1 := wrap_one hlt
        have hz : mkC (fun p => decide (dig t p = p)) k < 65536 := Nat.lt_of_lt_of_le (mkC_lt _ k) (Nat.pow_le_pow_right (n := 2) (j := 16) (by decide) hk)
        have e2 := bits_or_nat _ _ hz (one_lt16 hlt)
        by_cases hp : dig t k = k
        · have b1 : ((dig t k : Int) == (k : Int)) = true := by rw [hp]; simp
          have HP := Lib.hid hp; clear hp
          go_wp2_with (go_at_call 55; refine (s_l3Value _ _ _ H1.out hlt).mono ?_; rintro e w' ⟨rfl, rfl⟩)
          go_round
          case rel => exact ⟨k + 1, by omega, by go_num, by rw [mkC, if_pos (by simpa using HP.out)]; rfl⟩
          case measure => simp [intOf]; omega
        · have b1 : ((dig t k : Int) == (k : Int)) = false := by rw [beq_eq_false_iff_ne]; omega
          have HP := Lib.hid hp; clear hp
          go_wp2_with (go_at_call 55; refine (s_l3Value _ _ _ H1.out hlt).mono ?_; rintro e w' ⟨rfl, rfl⟩)
          go_round
          case rel => exact ⟨k + 1, by omega, by go_num, by rw [mkC, if_neg (by simpa using HP.out)]⟩
          case measure => simp [intOf]; omega
      · obtain rfl : k = 16 := by omega
        go_wp2
        go_ret
        exact ⟨rfl, rfl⟩
theorem s_KeepsInvariant (p : Int) (t : ByteArray) (v : Int) (w : World) (hs : t.size ≤ 1048576) : Calls Try.prog 21 #[.int .i64 p, .string t, .int .i64 v] w fun e w' => e = .returned (.bool (((trOk t && cvB p) && cvB v) && decide (andn (p.toNat &&& v.toNat) (dig t v.toNat) = 0))) ∧ w = w' := by
  cases hok : (trOk t && cvB p)
  · go_enter Try.func21, Try.ntmps21
    go_wp2_with (go_at_call 53; refine (s_l7Ready _ _ _ hs).mono ?_; rw [hok]; rintro e w' ⟨rfl, rfl⟩)
    go_ret
    exact ⟨rfl, rfl⟩
  · cases hv : cvB v
    · go_enter Try.func21, Try.ntmps21
      go_wp2_with (first | (go_at_call 53; refine (s_l7Ready _ _ _ hs).mono ?_; rw [hok]; rintro e w' ⟨rfl, rfl⟩) | (go_at_call 54; refine (s_ConditionValid _ _).mono ?_; rw [hv]; rintro e w' ⟨rfl, rfl⟩))
      go_ret
      exact ⟨rfl, rfl⟩
    · have hok' := hok
      rw [Bool.and_eq_true] at hok'
      have h1 := Dg.tr hok'.1
      have H1 := Lib.hid h1; clear h1
      obtain ⟨n, hn, rfl⟩ := (cvB_iff p).1 hok'.2
      obtain ⟨m, hm, rfl⟩ := (cvB_iff v).1 hv
      clear hok'
      have e1 := bits_and_nat n m (by omega) (by omega)
      have e2 := bits_andn_nat (n &&& m) (dig t m) (and_lt hn) (dig_lt _ _)
      go_enter Try.func21, Try.ntmps21
      go_wp2_with (first | (go_at_call 53; refine (s_l7Ready _ _ _ hs).mono ?_; rw [hok]; rintro e w' ⟨rfl, rfl⟩) | (go_at_call 54; refine (s_ConditionValid _ _).mono ?_; rw [hv]; rintro e w' ⟨rfl, rfl⟩) | (go_at_call 55; refine (s_l3Value _ _ _ H1.out hm).mono ?_; rintro e w' ⟨rfl, rfl⟩))
      go_ret
      refine ⟨ret_bool ?_, rfl⟩
      show ((andn (n &&& m) (dig t m) : Int) == 0) = decide (andn (n &&& m) (dig t m) = 0)
      by_cases h : andn (n &&& m) (dig t m) = 0 <;> simp [h]
theorem s_SpecWeaker (p : Int) (r : ByteArray) (q : Int) (s : ByteArray) (w : World) (hr : r.size ≤ 1048576) (hs : s.size ≤ 1048576) : Calls Try.prog 19 #[.int .i64 p, .string r, .int .i64 q, .string s] w fun e w' => e = .returned (.bool ((cvB p && relOk r) && (cvB q && relOk s) && (decide (andn q.toNat p.toNat = 0) && fWithin q.toNat (dig r) (dig s) 4))) ∧ w = w' := by
  cases hok : (cvB p && relOk r)
  · go_enter Try.func19, Try.ntmps19
    go_wp2_with (go_at_call 45; refine (s_l9Ready _ _ _ (by assumption)).mono ?_; rw [hok]; rintro e w' ⟨rfl, rfl⟩)
    go_ret
    exact ⟨rfl, rfl⟩
  cases hok2 : (cvB q && relOk s)
  · go_enter Try.func19, Try.ntmps19
    go_wp2_with (go_at_call 45; refine (s_l9Ready _ _ _ (by assumption)).mono ?_; (first | rw [hok] | rw [hok2]); rintro e w' ⟨rfl, rfl⟩)
    go_ret
    exact ⟨rfl, rfl⟩
  have g1 := hok; have g2 := hok2
  rw [Bool.and_eq_true] at g1 g2
  obtain ⟨n, hn, rfl⟩ := (cvB_iff p).1 g1.1
  obtain ⟨m, hm, rfl⟩ := (cvB_iff q).1 g2.1
  have h1 := Dg.rel g1.2; have h2 := Dg.rel g2.2
  have H1 := Lib.hid h1; have H2 := Lib.hid h2; clear h1 h2 g1 g2
  have e1 := bits_andn_nat m n hm hn
  by_cases hz : andn m n = 0
  · have b1 : ((andn m n : Int) != 0) = false := by simp [hz]
    have HZ := Lib.hid hz; clear hz
    go_enter Try.func19, Try.ntmps19
    go_wp2_with (go_at_call 45; refine (s_l9Ready _ _ _ (by assumption)).mono ?_; (first | rw [hok] | rw [hok2]); rintro e w' ⟨rfl, rfl⟩)
    go_loop [9] (fun i => ∃ k : Nat, k ≤ 4 ∧ i = .int .i64 k ∧ Hid (fWithin m (dig r) (dig s) k = true)) (fun i => 4 - (intOf i).toNat)
    case atStart => exact ⟨0, by omega, rfl, Lib.hid rfl⟩
    case round =>
      obtain ⟨k, hk, rfl, HW⟩ := hrel
      by_cases hlt : k < 4
      · have e2 := bits_andn_nat (dig r k) (dig s k) (dig_lt _ _) (dig_lt _ _)
        cases hb : m.testBit k
        · go_wp2_with (go_at_call 50; refine (s_l1Has _ _ _ (by omega) (by omega)).mono ?_; rw [hb]; rintro e w' ⟨rfl, rfl⟩)
          go_round
          case rel => exact ⟨k + 1, by omega, by go_num, Lib.hid (fWithin_succ HW.out fun h => by rw [hb] at h; cases h)⟩
          case measure => simp [intOf]; omega
        · by_cases hy : andn (dig r k) (dig s k) = 0
          · have b2 : ((andn (dig r k) (dig s k) : Int) != 0) = false := by simp [hy]
            have HY := Lib.hid hy; clear hy
            go_wp2_with (first | (go_at_call 50; refine (s_l1Has _ _ _ (by omega) (by omega)).mono ?_; rw [hb]; rintro e w' ⟨rfl, rfl⟩) | (go_at_call 51; refine (s_l2To _ _ _ (by first | exact H1.out | exact H2.out) hlt).mono ?_; rintro e w' ⟨rfl, rfl⟩))
            go_round
            case rel => exact ⟨k + 1, by omega, by go_num, Lib.hid (fWithin_succ HW.out fun _ => HY.out)⟩
            case measure => simp [intOf]; omega
          · have b2 : ((andn (dig r k) (dig s k) : Int) != 0) = true := by rw [bne_iff_ne]; omega
            have HY := Lib.hid hy; clear hy
            go_wp2_with (first | (go_at_call 50; refine (s_l1Has _ _ _ (by omega) (by omega)).mono ?_; rw [hb]; rintro e w' ⟨rfl, rfl⟩) | (go_at_call 51; refine (s_l2To _ _ _ (by first | exact H1.out | exact H2.out) hlt).mono ?_; rintro e w' ⟨rfl, rfl⟩))
            go_ret
            refine ⟨ret_bool ?_, rfl⟩
            show false = (true && true && (decide (andn m n = 0) && fWithin m (dig r) (dig s) 4))
            rw [fWithin_no hlt hb HY.out, Bool.and_false]; rfl
      · obtain rfl : k = 4 := by omega
        go_wp2
        go_ret
        refine ⟨ret_bool ?_, rfl⟩
        show true = (true && true && (decide (andn m n = 0) && fWithin m (dig r) (dig s) 4))
        rw [HW.out, HZ.out]; rfl
  · have b1 : ((andn m n : Int) != 0) = true := by rw [bne_iff_ne]; omega
    have HZ := Lib.hid hz; clear hz
    go_enter Try.func19, Try.ntmps19
    go_wp2_with (go_at_call 45; refine (s_l9Ready _ _ _ (by assumption)).mono ?_; (first | rw [hok] | rw [hok2]); rintro e w' ⟨rfl, rfl⟩)
    go_ret
    refine ⟨ret_bool ?_, rfl⟩
    show false = (true && true && (decide (andn m n = 0) && fWithin m (dig r) (dig s) 4))
    rw [decide_eq_false HZ.out]; rfl
theorem s_SpecMeet (p : Int) (r : ByteArray) (q : Int) (s : ByteArray) (w : World) (hr : r.size ≤ 1048576) (hs : s.size ≤ 1048576) : Calls Try.prog 31 #[.int .i64 p, .string r, .int .i64 q, .string s] w fun e w' => e = .returned (.tuple #[.int .i64 ((if (cvB p && relOk r) && (cvB q && relOk s) then p.toNat ||| q.toNat else 0 : Nat) : Int), .string (optS ((cvB p && relOk r) && (cvB q && relOk s)) (txt 4 (fMeetRel p.toNat q.toNat (dig r) (dig s)))), .bool ((cvB p && relOk r) && (cvB q && relOk s))]) ∧ w = w' := by
  cases hok : (cvB p && relOk r)
  · go_enter Try.func31, Try.ntmps31
    go_wp2_with (go_at_call 45; refine (s_l9Ready _ _ _ (by assumption)).mono ?_; rw [hok]; rintro e w' ⟨rfl, rfl⟩)
    go_ret3
    exact ⟨rfl, rfl⟩
  cases hok2 : (cvB q && relOk s)
  · go_enter Try.func31, Try.ntmps31
    go_wp2_with (go_at_call 45; refine (s_l9Ready _ _ _ (by assumption)).mono ?_; (first | rw [hok] | rw [hok2]); rintro e w' ⟨rfl, rfl⟩)
    go_ret3
    exact ⟨rfl, rfl⟩
  have g1 := hok; have g2 := hok2
  rw [Bool.and_eq_true] at g1 g2
  obtain ⟨n, hn, rfl⟩ := (cvB_iff p).1 g1.1
  obtain ⟨m, hm, rfl⟩ := (cvB_iff q).1 g2.1
  have h1 := Dg.rel g1.2; have h2 := Dg.rel g2.2
  have H1 := Lib.hid h1; have H2 := Lib.hid h2; clear h1 h2 g1 g2
  have e1 := bits_and_nat n m (by omega) (by omega)
  have e2 := bits_or_nat n m (by omega) (by omega)
  go_enter Try.func31, Try.ntmps31
  go_wp2_with (go_at_call 45; refine (s_l9Ready _ _ _ (by assumption)).mono ?_; (first | rw [hok] | rw [hok2]); rintro e w' ⟨rfl, rfl⟩)
  go_loop [11, 12] (fun o i => ∃ k : Nat, k ≤ 4 ∧ i = .int .i64 k ∧ o = .string (txt k (fMeetRel n m (dig r) (dig s)))) (fun _ i => 4 - (intOf i).toNat)
  case atStart => exact ⟨0, by omega, rfl, rfl⟩
  case round =>
    obtain ⟨k, hk, rfl, rfl⟩ := hrel
    by_cases hlt : k < 4
    · have e3 := bits_and_nat (dig r k) (dig s k) (by have := dig_lt r k; omega) (by have := dig_lt s k; omega)
      have ht := txt_snoc k (fMeetRel n m (dig r) (dig s))
      have hz : (txt k (fMeetRel n m (dig r) (dig s))).size ≤ 4 := by rw [txt_size]; exact hk
      have hnm := and_lt (b := m) hn
      cases hp : n.testBit k <;> cases hq : m.testBit k
      all_goals
        have hpq : (n &&& m).testBit k = (n.testBit k && m.testBit k) := Nat.testBit_and ..
        rw [hp, hq] at hpq
        have hF : fMeetRel n m (dig r) (dig s) k = if n.testBit k && m.testBit k then dig r k &&& dig s k else if n.testBit k then dig r k else if m.testBit k then dig s k else 0 := rfl
        rw [hp, hq] at hF
        simp only [Bool.and_self, Bool.and_false, Bool.false_and, Bool.and_true, Bool.true_and, if_true, if_false, Bool.false_eq_true] at hF hpq
        rw [hF] at ht
        have HT := Lib.hid ht; clear ht hF
        have HP := Lib.hid hp; have HQ := Lib.hid hq; have HPQ := Lib.hid hpq; clear hp hq hpq
        go_wp2_with (first | (go_at_call 50; refine (s_l1Has _ _ _ (by omega) (by omega)).mono ?_; (first | rw [HPQ.out] | rw [HP.out] | rw [HQ.out]); rintro e w' ⟨rfl, rfl⟩) | (go_at_call 51; refine (s_l2To _ _ _ (by first | exact H1.out | exact H2.out) hlt).mono ?_; rintro e w' ⟨rfl, rfl⟩) | (go_at_call 46; with_reducible refine (s_l2Digit_0 _).mono ?_; rintro e w' ⟨rfl, rfl⟩) | (go_at_call 46; refine (s_l2Digit _ _ (by first | omega | exact and_lt (dig_lt _ _) | exact dig_lt _ _)).mono ?_; rintro e w' ⟨rfl, rfl⟩))
        go_round
        case rel => exact ⟨k + 1, by omega, by go_num, by rw [← HT.out]⟩
        case measure => simp [intOf]; omega
    · obtain rfl : k = 4 := by omega
      go_wp2
      go_ret3
      exact ⟨rfl, rfl⟩
theorem s_CanGoBefore (t u : ByteArray) (w : World) (ht : t.size ≤ 1048576) (hu : u.size ≤ 1048576) : Calls Try.prog 33 #[.string t, .string u] w fun e w' => e = .returned (.bool ((trOk t && trOk u) && ((txt 16 (fun p => fMost (dig t) (dig u) (dig t p) 16)).toList == u.toList))) ∧ w = w' := by
  cases hok : (trOk t && trOk u)
  · go_enter Try.func33, Try.ntmps33
    go_wp2_with (go_at_call 68; refine (s_l3Both _ _ _ ht hu).mono ?_; rw [hok]; rintro e w' ⟨rfl, rfl⟩)
    go_ret
    exact ⟨rfl, rfl⟩
  · have g1 := hok
    rw [Bool.and_eq_true] at g1
    have h1 := Dg.tr g1.1; have h2 := Dg.tr g1.2
    have h3 : Dg 16 (txt 16 (fun p => fMost (dig t) (dig u) p 16)) := Dg.txt fun _ _ => fMost_lt _ _ _ _
    have e : txt 16 (fun p => dig (txt 16 (fun p => fMost (dig t) (dig u) p 16)) (dig t p)) = txt 16 (fun p => fMost (dig t) (dig u) (dig t p) 16) := txt_congr fun p _ => txt_dig _ _ _ (dig_lt _ _) (fMost_lt _ _ _ _)
    have H1 := Lib.hid h1; have H2 := Lib.hid h2; have H3 := Lib.hid h3; have E := Lib.hid e; clear h1 h2 h3 e g1
    go_enter Try.func33, Try.ntmps33
    go_wp2_with (first | (go_at_call 68; refine (s_l3Both _ _ _ ht hu).mono ?_; rw [hok]; rintro e w' ⟨rfl, rfl⟩) | (go_at_call 70; refine (s_l10Most _ _ _ H1.out H2.out).mono ?_; rintro e w' ⟨rfl, rfl⟩) | (go_at_call 69; refine (s_l3Then _ _ _ H3.out H1.out).mono ?_; rw [E.out]; rintro e w' ⟨rfl, rfl⟩))
    go_ret
    exact ⟨rfl, rfl⟩
theorem s_PowerTrans (t : ByteArray) (n : Int) (w : World) (ht : t.size ≤ 1048576) : Calls Try.prog 37 #[.string t, .int .i64 n] w fun e w' => e = .returned (.tuple #[.string (optS (trOk t && nB n) (txt 16 (fPower (dig t) n.toNat))), .bool (trOk t && nB n)]) ∧ w = w' := by
  cases hok : trOk t
  · go_enter Try.func37, Try.ntmps37
    go_wp2_with (go_at_call 57; refine (s_TransValid _ _ ht).mono ?_; rw [hok]; rintro e w' ⟨rfl, rfl⟩)
    go_ret2
    exact ⟨rfl, rfl⟩
  cases hn : nB n
  · have hn' : (decide (0 ≤ n) && decide (n ≤ 100)) = false := hn
    go_enter Try.func37, Try.ntmps37
    go_wp2_with (first | (go_at_call 57; refine (s_TransValid _ _ ht).mono ?_; rw [hok]; rintro e w' ⟨rfl, rfl⟩) | (go_at_call 73; refine (s_l1In _ _ _ _).mono ?_; rw [hn']; rintro e w' ⟨rfl, rfl⟩))
    go_ret2
    exact ⟨rfl, rfl⟩
  · have hn' : (decide (0 ≤ n) && decide (n ≤ 100)) = true := hn
    obtain ⟨m, hm, rfl⟩ := (nB_iff n).1 hn
    have h1 := Dg.tr hok
    have e0 : txt 16 (fun q => 15 &&& q) = txt 16 (fPower (dig t) 0) := txt_congr fun q hq => all_and hq
    have H1 := Lib.hid h1; have E0 := Lib.hid e0; have HN := Lib.hid hn'; clear h1 e0 hn' hn
    go_enter Try.func37, Try.ntmps37
    go_wp2_with (first | (go_at_call 57; refine (s_TransValid _ _ ht).mono ?_; rw [hok]; rintro e w' ⟨rfl, rfl⟩) | (go_at_call 73; refine (s_l1In _ _ _ _).mono ?_; rw [HN.out]; rintro e w' ⟨rfl, rfl⟩) | (go_at_call 78; refine (s_l3Assert 15 _ (by omega)).mono ?_; rw [E0.out]; rintro e w' ⟨rfl, rfl⟩))
    go_loop [6, 7] (fun o i => ∃ k : Nat, k ≤ m ∧ i = .int .i64 k ∧ o = .string (txt 16 (fPower (dig t) k))) (fun _ i => m - (intOf i).toNat)
    case atStart => exact ⟨0, by omega, rfl, rfl⟩
    case round =>
      obtain ⟨k, hk, rfl, rfl⟩ := hrel
      by_cases hlt : k < m
      · have h3 : Dg 16 (txt 16 (fPower (dig t) k)) := Dg.txt fun _ hq => fPower_lt (dig_bd t) k _ hq
        have e : txt 16 (fun p => dig (txt 16 (fPower (dig t) k)) (dig t p)) = txt 16 (fPower (dig t) (k + 1)) := txt_congr fun p _ => (txt_dig _ _ _ (dig_lt _ _) (fPower_lt (dig_bd t) k _ (dig_lt _ _))).trans (iter_front _ _ _)
        have H3 := Lib.hid h3; have E := Lib.hid e; clear h3 e
        go_wp2_with (go_at_call 69; refine (s_l3Then _ _ _ H3.out H1.out).mono ?_; rw [E.out]; rintro e w' ⟨rfl, rfl⟩)
        go_round
        case rel => exact ⟨k + 1, by omega, by go_num, rfl⟩
        case measure => simp [intOf]; omega
      · obtain rfl : k = m := by omega
        go_wp2
        go_ret2
        exact ⟨rfl, rfl⟩
theorem s_UnrollWhile (p : Int) (t : ByteArray) (n : Int) (r : ByteArray) (w : World) (ht : t.size ≤ 1048576) (hr : r.size ≤ 1048576) : Calls Try.prog 35 #[.int .i64 p, .string t, .int .i64 n, .string r] w fun e w' => e = .returned (.tuple #[.string (optS (((trOk t && cvB p) && trOk r) && nB n) (txt 16 (fUnroll p.toNat (dig t) (dig r) n.toNat))), .bool (((trOk t && cvB p) && trOk r) && nB n)]) ∧ w = w' := by
  cases hok : (trOk t && cvB p)
  · go_enter Try.func35, Try.ntmps35
    go_wp2_with (go_at_call 53; refine (s_l7Ready _ _ _ ht).mono ?_; rw [hok]; rintro e w' ⟨rfl, rfl⟩)
    go_ret2
    exact ⟨rfl, rfl⟩
  cases hok2 : trOk r
  · go_enter Try.func35, Try.ntmps35
    go_wp2_with (first | (go_at_call 53; refine (s_l7Ready _ _ _ ht).mono ?_; rw [hok]; rintro e w' ⟨rfl, rfl⟩) | (go_at_call 57; refine (s_TransValid _ _ hr).mono ?_; rw [hok2]; rintro e w' ⟨rfl, rfl⟩))
    go_ret2
    exact ⟨rfl, rfl⟩
  cases hn : nB n
  · have hn' : (decide (0 ≤ n) && decide (n ≤ 100)) = false := hn
    go_enter Try.func35, Try.ntmps35
    go_wp2_with (first | (go_at_call 53; refine (s_l7Ready _ _ _ ht).mono ?_; rw [hok]; rintro e w' ⟨rfl, rfl⟩) | (go_at_call 57; refine (s_TransValid _ _ hr).mono ?_; rw [hok2]; rintro e w' ⟨rfl, rfl⟩) | (go_at_call 73; refine (s_l1In _ _ _ _).mono ?_; rw [hn']; rintro e w' ⟨rfl, rfl⟩))
    go_ret2
    exact ⟨rfl, rfl⟩
  · have hn' : (decide (0 ≤ n) && decide (n ≤ 100)) = true := hn
    have g1 := hok
    rw [Bool.and_eq_true] at g1
    obtain ⟨m, hm, rfl⟩ := (nB_iff n).1 hn
    obtain ⟨x, hx, rfl⟩ := (cvB_iff p).1 g1.2
    have h1 := Dg.tr g1.1
    have e0 : r = txt 16 (fUnroll x (dig t) (dig r) 0) := (txt_tr hok2).symm
    have H1 := Lib.hid h1; have E0 := Lib.hid e0; have HN := Lib.hid hn'; clear h1 e0 hn' hn g1
    go_enter Try.func35, Try.ntmps35
    go_wp2_with (first | (go_at_call 53; refine (s_l7Ready _ _ _ ht).mono ?_; rw [hok]; rintro e w' ⟨rfl, rfl⟩) | (go_at_call 57; refine (s_TransValid _ _ hr).mono ?_; rw [hok2]; rintro e w' ⟨rfl, rfl⟩) | (go_at_call 73; refine (s_l1In _ _ _ _).mono ?_; rw [HN.out]; rintro e w' ⟨rfl, rfl⟩))
    go_loop [3, 10] (fun o i => ∃ k : Nat, k ≤ m ∧ i = .int .i64 k ∧ o = .string (txt 16 (fUnroll x (dig t) (dig r) k))) (fun _ i => m - (intOf i).toNat)
    case atStart => exact ⟨0, by omega, rfl, congrArg Value.string E0.out⟩
    case round =>
      obtain ⟨k, hk, rfl, rfl⟩ := hrel
      by_cases hlt : k < m
      · have h3 : Dg 16 (txt 16 (fUnroll x (dig t) (dig r) k)) := Dg.txt fun _ hq => fUnroll_lt hx (dig_bd r) k _ hq
        have H3 := Lib.hid h3; clear h3
        go_wp2
        go_loop [11, 12] (fun o i => ∃ q : Nat, q ≤ 16 ∧ i = .int .i64 q ∧ o = .string (txt q (fUnroll x (dig t) (dig r) (k + 1)))) (fun _ i => 16 - (intOf i).toNat)
        case atStart => exact ⟨0, by omega, rfl, rfl⟩
        case round =>
          obtain ⟨q, hq, rfl, rfl⟩ := hrel
          by_cases hlq : q < 16
          · have ht' := txt_snoc q (fUnroll x (dig t) (dig r) (k + 1))
            have hz : (txt q (fUnroll x (dig t) (dig r) (k + 1))).size ≤ 16 := by rw [txt_size]; exact hq
            have e1 : dig (txt 16 (fUnroll x (dig t) (dig r) k)) q = fUnroll x (dig t) (dig r) k q := txt_dig _ _ _ hlq (fUnroll_lt hx (dig_bd r) k _ hlq)
            have h4 : fUnroll x (dig t) (dig r) k q < 16 := fUnroll_lt hx (dig_bd r) k _ hlq
            have HT := Lib.hid ht'; have E1 := Lib.hid e1; clear ht' e1
            go_wp2_with (first | (go_at_call 55; (with_reducible refine (s_l3Value (txt 16 (fUnroll x (dig t) (dig r) k)) q _ H3.out hlq).mono ?_); rw [E1.out]; rintro e w' ⟨rfl, rfl⟩) | (go_at_call 55; (with_reducible refine (s_l3Value t _ _ H1.out h4).mono ?_); rintro e w' ⟨rfl, rfl⟩) | (go_at_call 74; refine (s_l8Turn _ _ _ _ hx (dig_lt _ _) hlq).mono ?_; rintro e w' ⟨rfl, rfl⟩) | (go_at_call 46; refine (s_l2Digit _ _ (turn_lt hx hlq)).mono ?_; rintro e w' ⟨rfl, rfl⟩))
            go_round
            case rel => exact ⟨q + 1, by omega, by go_num, by rw [← HT.out]; rfl⟩
            case measure => simp [intOf]; omega
          · obtain rfl : q = 16 := by omega
            go_wp2
            go_round
            case rel => exact ⟨k + 1, by omega, by go_num, rfl⟩
            case measure => simp [intOf]; omega
      · obtain rfl : k = m := by omega
        go_wp2
        go_ret2
        exact ⟨rfl, rfl⟩
end Go.Proofs.Ytdmfgcldbcoclaa
