/- The reference's loops and repetitions, and the listed functions on them: what each returns; none turns the world. -/
import Derived.Test.YtiaeakpgldpaiaaQSpecD
import Derived.Test.YtiaeakpgldpaiaaQJ1
namespace Go.Proofs.Ytiaeakpgldpaiaa
set_option linter.unusedSimpArgs false
set_option linter.unusedVariables false
set_option maxRecDepth 4000
open Go.RowKit

set_option maxHeartbeats 400000 in
theorem s_l8While_t (p : Nat) (t : ByteArray) (w : World) (hp : p < 16) (h : Dg 16 t) (hm : Mono (dig t)) : Calls Try.prog 160 #[.int .i64 (p : Int), .string t, .bool true] w fun e w' => e = .returned (.string (txt 16 (fWhile p (dig t)))) ∧ w = w' := by
  have HM0 := Lib.hid hm; clear hm
  go_enter Try.func160, Try.ntmps160
  go_wp2
  go_loop [7, 8] (fun o i => ∃ k : Nat, k ≤ 16 ∧ i = .int .i64 k ∧ o = .string (txt k (fWhile p (dig t)))) (fun _ i => 16 - (intOf i).toNat)
  case atStart => exact ⟨0, by omega, rfl, rfl⟩
  case round =>
    obtain ⟨k, hk, rfl, rfl⟩ := hrel
    by_cases hlt : k < 16
    · have ht' := txt_snoc k (fWhile p (dig t))
      have HT := Lib.hid ht'; clear ht'
      have hz : (txt k (fWhile p (dig t))).size ≤ 16 := by rw [txt_size]; exact hk
      have hB : Bd (eqW p (dig t) k) := eqW_bd hp hlt
      have hM : Mono (eqW p (dig t) k) := eqW_mono HM0.out p k
      have HB := Lib.hid hB; have HM := Lib.hid hM; clear hB hM
      have hd : decide ((k : Int) < 16) = true := by simp; omega
      go_wp2
      clear hd
      go_loop [9, 10] (fun ys bs => ∃ n y : Nat, y < 16 ∧ ys = .int .i64 y ∧ Hid (y = iter (eqW p (dig t) k) 0 n) ∧ (bs = .int .i64 (-1) ∨ ∃ m b : Nat, b < 16 ∧ bs = .int .i64 b ∧ Hid (n = m + 1 ∧ b = iter (eqW p (dig t) k) 0 m))) (fun _ bs => muL bs)
      case atStart => exact ⟨0, 0, by omega, rfl, Lib.hid rfl, .inl rfl⟩
      case round =>
        obtain ⟨n, y, hy, rfl, HY, hbs⟩ := hrel
        rcases hbs with rfl | ⟨m, b, hb, rfl, HN⟩
        · have hne : ((-1 : Int) != (y : Int)) = true := by rw [bne_iff_ne]; omega
          go_wp2_with (first | (go_at_call 148; refine (s_l3Value _ _ _ h hy).mono ?_; rintro e w' ⟨rfl, rfl⟩) | (go_at_call 226; refine (s_l8Turn _ _ _ _ hp (dig_lt _ _) hlt).mono ?_; rintro e w' ⟨rfl, rfl⟩))
          go_round
          case rel => exact ⟨n + 1, _, turn_lt hp hlt, rfl, Lib.hid (by rw [HY.out]; rfl), .inr ⟨n, y, hy, rfl, Lib.hid ⟨rfl, HY.out⟩⟩⟩
          case measure => show muL (.int .i64 (y : Int)) < muL (.int .i64 (-1)); rw [muL_nat, muL_neg]; have := pc_le y; omega
        · by_cases he : b = y
          · have hyF : y = fWhile p (dig t) k := by
              have h1 := HN.out.1; have h2 := HN.out.2; have h3 := HY.out
              subst h1
              have : eqW p (dig t) k (iter (eqW p (dig t) k) 0 m) = iter (eqW p (dig t) k) 0 m := by
                show iter (eqW p (dig t) k) 0 (m + 1) = _
                rw [← h3, ← he, h2]
              rw [h3, show iter (eqW p (dig t) k) 0 (m + 1) = iter (eqW p (dig t) k) 0 m from this, lfp_of HB.out HM.out this]
              rfl
            have HF := Lib.hid hyF
            have hne : ((b : Int) != (y : Int)) = false := by rw [he]; simp
            clear he hyF
            go_wp2_with (go_at_call 100; refine (s_l2Digit _ _ hy).mono ?_; rintro e w' ⟨rfl, rfl⟩)
            go_round
            case rel => exact ⟨k + 1, by omega, by go_num, by rw [HF.out, ← HT.out]⟩
            case measure => simp [intOf]; omega
          · have hne : ((b : Int) != (y : Int)) = true := by rw [bne_iff_ne]; omega
            have HE := Lib.hid he; clear he
            go_wp2_with (first | (go_at_call 148; refine (s_l3Value _ _ _ h hy).mono ?_; rintro e w' ⟨rfl, rfl⟩) | (go_at_call 226; refine (s_l8Turn _ _ _ _ hp (dig_lt _ _) hlt).mono ?_; rintro e w' ⟨rfl, rfl⟩))
            go_round
            case rel => exact ⟨n + 1, _, turn_lt hp hlt, rfl, Lib.hid (by rw [HY.out]; rfl), .inr ⟨n, y, hy, rfl, Lib.hid ⟨rfl, HY.out⟩⟩⟩
            case measure =>
              show muL (.int .i64 (y : Int)) < muL (.int .i64 (b : Int))
              rw [muL_nat, muL_nat]
              have h1 := HN.out.1; have h2 := HN.out.2; have h3 := HY.out; subst h1
              have := pc_lt hb hy (by rw [h2, h3]; exact iter_up HB.out HM.out m) HE.out
              have := pc_le y
              have := pc_le b
              omega
    · obtain rfl : k = 16 := by omega
      go_wp2
      go_ret
      exact ⟨rfl, rfl⟩
set_option maxHeartbeats 400000 in
theorem s_l8While_f (p : Nat) (t : ByteArray) (w : World) (hp : p < 16) (h : Dg 16 t) (hm : Mono (dig t)) : Calls Try.prog 160 #[.int .i64 (p : Int), .string t, .bool false] w fun e w' => e = .returned (.string (txt 16 (fFree p (dig t)))) ∧ w = w' := by
  have HM0 := Lib.hid hm; clear hm
  go_enter Try.func160, Try.ntmps160
  go_wp2
  go_loop [7, 8] (fun o i => ∃ k : Nat, k ≤ 16 ∧ i = .int .i64 k ∧ o = .string (txt k (fFree p (dig t)))) (fun _ i => 16 - (intOf i).toNat)
  case atStart => exact ⟨0, by omega, rfl, rfl⟩
  case round =>
    obtain ⟨k, hk, rfl, rfl⟩ := hrel
    by_cases hlt : k < 16
    · have ht' := txt_snoc k (fFree p (dig t))
      have HT := Lib.hid ht'; clear ht'
      have hz : (txt k (fFree p (dig t))).size ≤ 16 := by rw [txt_size]; exact hk
      have hB : Bd (eqW p (dig t) k) := eqW_bd hp hlt
      have hM : Mono (eqW p (dig t) k) := eqW_mono HM0.out p k
      have HB := Lib.hid hB; have HM := Lib.hid hM; clear hB hM
      have hd : decide ((k : Int) < 16) = true := by simp; omega
      go_wp2
      clear hd
      go_loop [9, 10] (fun ys bs => ∃ n y : Nat, y < 16 ∧ ys = .int .i64 y ∧ Hid (y = iter (eqW p (dig t) k) 15 n) ∧ (bs = .int .i64 (-1) ∨ ∃ m b : Nat, b < 16 ∧ bs = .int .i64 b ∧ Hid (n = m + 1 ∧ b = iter (eqW p (dig t) k) 15 m))) (fun _ bs => muG bs)
      case atStart => exact ⟨0, 15, by omega, rfl, Lib.hid rfl, .inl rfl⟩
      case round =>
        obtain ⟨n, y, hy, rfl, HY, hbs⟩ := hrel
        rcases hbs with rfl | ⟨m, b, hb, rfl, HN⟩
        · have hne : ((-1 : Int) != (y : Int)) = true := by rw [bne_iff_ne]; omega
          go_wp2_with (first | (go_at_call 148; refine (s_l3Value _ _ _ h hy).mono ?_; rintro e w' ⟨rfl, rfl⟩) | (go_at_call 226; refine (s_l8Turn _ _ _ _ hp (dig_lt _ _) hlt).mono ?_; rintro e w' ⟨rfl, rfl⟩))
          go_round
          case rel => exact ⟨n + 1, _, turn_lt hp hlt, rfl, Lib.hid (by rw [HY.out]; rfl), .inr ⟨n, y, hy, rfl, Lib.hid ⟨rfl, HY.out⟩⟩⟩
          case measure => show muG (.int .i64 (y : Int)) < muG (.int .i64 (-1)); rw [muG_nat, muG_neg]; have := pc_le y; omega
        · by_cases he : b = y
          · have hyF : y = fFree p (dig t) k := by
              have h1 := HN.out.1; have h2 := HN.out.2; have h3 := HY.out
              subst h1
              have : eqW p (dig t) k (iter (eqW p (dig t) k) 15 m) = iter (eqW p (dig t) k) 15 m := by
                show iter (eqW p (dig t) k) 15 (m + 1) = _
                rw [← h3, ← he, h2]
              rw [h3, show iter (eqW p (dig t) k) 15 (m + 1) = iter (eqW p (dig t) k) 15 m from this, gfp_of HB.out HM.out this]
              rfl
            have HF := Lib.hid hyF
            have hne : ((b : Int) != (y : Int)) = false := by rw [he]; simp
            clear he hyF
            go_wp2_with (go_at_call 100; refine (s_l2Digit _ _ hy).mono ?_; rintro e w' ⟨rfl, rfl⟩)
            go_round
            case rel => exact ⟨k + 1, by omega, by go_num, by rw [HF.out, ← HT.out]⟩
            case measure => simp [intOf]; omega
          · have hne : ((b : Int) != (y : Int)) = true := by rw [bne_iff_ne]; omega
            have HE := Lib.hid he; clear he
            go_wp2_with (first | (go_at_call 148; refine (s_l3Value _ _ _ h hy).mono ?_; rintro e w' ⟨rfl, rfl⟩) | (go_at_call 226; refine (s_l8Turn _ _ _ _ hp (dig_lt _ _) hlt).mono ?_; rintro e w' ⟨rfl, rfl⟩))
            go_round
            case rel => exact ⟨n + 1, _, turn_lt hp hlt, rfl, Lib.hid (by rw [HY.out]; rfl), .inr ⟨n, y, hy, rfl, Lib.hid ⟨rfl, HY.out⟩⟩⟩
            case measure =>
              show muG (.int .i64 (y : Int)) < muG (.int .i64 (b : Int))
              rw [muG_nat, muG_nat]
              have h1 := HN.out.1; have h2 := HN.out.2; have h3 := HY.out; subst h1
              have := pc_lt hy hb (by rw [h2, h3]; exact iter_down HB.out HM.out m) (fun h => HE.out h.symm)
              have := pc_le y
              have := pc_le b
              omega
    · obtain rfl : k = 16 := by omega
      go_wp2
      go_ret
      exact ⟨rfl, rfl⟩
theorem s_l7Star_tt (t : ByteArray) (w : World) (h : Dg 16 t) (hm : Mono (dig t)) : Calls Try.prog 133 #[.string t, .bool true, .bool true] w fun e w' => e = .returned (.string (txt 16 (fun q => lfp (eqO (dig t) q)))) ∧ w = w' := by
  have HM := Lib.hid hm; clear hm
  have hB := dig_bd t
  have HB := Lib.hid hB; clear hB
  go_enter Try.func133, Try.ntmps133
  go_wp2
  go_loop [7, 8] (fun o i => ∃ k : Nat, k ≤ 16 ∧ i = .int .i64 k ∧ o = .string (txt k (fun q => lfp (eqO (dig t) q)))) (fun _ i => 16 - (intOf i).toNat)
  case atStart => exact ⟨0, by omega, rfl, rfl⟩
  case round =>
    obtain ⟨k, hk, rfl, rfl⟩ := hrel
    by_cases hlt : k < 16
    · have ht := txt_snoc k (fun q => lfp (eqO (dig t) q))
      have HT := Lib.hid ht; clear ht
      have hz : (txt k (fun q => lfp (eqO (dig t) q))).size ≤ 16 := by rw [txt_size]; exact hk
      skip
      go_wp2_with (first | (go_at_call 212; refine (s_l7Least _ k 15 _ h HM.out (by omega) (by omega)).mono ?_; rw [lfp_or HB.out hlt]; rintro e w' ⟨rfl, rfl⟩) | (go_at_call 100; refine (s_l2Digit _ _ (lfp_lt (eqO_bd HB.out hlt))).mono ?_; rintro e w' ⟨rfl, rfl⟩))
      go_round
      case rel => exact ⟨k + 1, by omega, by go_num, by rw [← HT.out]⟩
      case measure => simp [intOf]; omega
    · obtain rfl : k = 16 := by omega
      go_wp2
      go_ret
      exact ⟨rfl, rfl⟩
theorem s_l7Star_ft (t : ByteArray) (w : World) (h : Dg 16 t) (hm : Mono (dig t)) : Calls Try.prog 133 #[.string t, .bool false, .bool true] w fun e w' => e = .returned (.string (txt 16 (fun q => gfp (eqO (dig t) q)))) ∧ w = w' := by
  have HM := Lib.hid hm; clear hm
  have hB := dig_bd t
  have HB := Lib.hid hB; clear hB
  go_enter Try.func133, Try.ntmps133
  go_wp2
  go_loop [7, 8] (fun o i => ∃ k : Nat, k ≤ 16 ∧ i = .int .i64 k ∧ o = .string (txt k (fun q => gfp (eqO (dig t) q)))) (fun _ i => 16 - (intOf i).toNat)
  case atStart => exact ⟨0, by omega, rfl, rfl⟩
  case round =>
    obtain ⟨k, hk, rfl, rfl⟩ := hrel
    by_cases hlt : k < 16
    · have ht := txt_snoc k (fun q => gfp (eqO (dig t) q))
      have HT := Lib.hid ht; clear ht
      have hz : (txt k (fun q => gfp (eqO (dig t) q))).size ≤ 16 := by rw [txt_size]; exact hk
      skip
      go_wp2_with (first | (go_at_call 213; refine (s_l7Greatest _ k 15 _ h HM.out (by omega) (by omega)).mono ?_; rw [gfp_or HB.out hlt]; rintro e w' ⟨rfl, rfl⟩) | (go_at_call 100; refine (s_l2Digit _ _ (gfp_lt (eqO_bd HB.out hlt))).mono ?_; rintro e w' ⟨rfl, rfl⟩))
      go_round
      case rel => exact ⟨k + 1, by omega, by go_num, by rw [← HT.out]⟩
      case measure => simp [intOf]; omega
    · obtain rfl : k = 16 := by omega
      go_wp2
      go_ret
      exact ⟨rfl, rfl⟩
theorem s_l7Star_tf (t : ByteArray) (w : World) (h : Dg 16 t) (hm : Mono (dig t)) : Calls Try.prog 133 #[.string t, .bool true, .bool false] w fun e w' => e = .returned (.string (txt 16 (fun q => lfp (eqA (dig t) q)))) ∧ w = w' := by
  have HM := Lib.hid hm; clear hm
  have hB := dig_bd t
  have HB := Lib.hid hB; clear hB
  go_enter Try.func133, Try.ntmps133
  go_wp2
  go_loop [7, 8] (fun o i => ∃ k : Nat, k ≤ 16 ∧ i = .int .i64 k ∧ o = .string (txt k (fun q => lfp (eqA (dig t) q)))) (fun _ i => 16 - (intOf i).toNat)
  case atStart => exact ⟨0, by omega, rfl, rfl⟩
  case round =>
    obtain ⟨k, hk, rfl, rfl⟩ := hrel
    by_cases hlt : k < 16
    · have ht := txt_snoc k (fun q => lfp (eqA (dig t) q))
      have HT := Lib.hid ht; clear ht
      have hz : (txt k (fun q => lfp (eqA (dig t) q))).size ≤ 16 := by rw [txt_size]; exact hk
      skip
      go_wp2_with (first | (go_at_call 212; refine (s_l7Least _ 0 k _ h HM.out (by omega) (by omega)).mono ?_; rw [lfp_and hlt]; rintro e w' ⟨rfl, rfl⟩) | (go_at_call 100; refine (s_l2Digit _ _ (lfp_lt (eqA_bd hlt))).mono ?_; rintro e w' ⟨rfl, rfl⟩))
      go_round
      case rel => exact ⟨k + 1, by omega, by go_num, by rw [← HT.out]⟩
      case measure => simp [intOf]; omega
    · obtain rfl : k = 16 := by omega
      go_wp2
      go_ret
      exact ⟨rfl, rfl⟩
theorem s_l7Star_ff (t : ByteArray) (w : World) (h : Dg 16 t) (hm : Mono (dig t)) : Calls Try.prog 133 #[.string t, .bool false, .bool false] w fun e w' => e = .returned (.string (txt 16 (fun q => gfp (eqA (dig t) q)))) ∧ w = w' := by
  have HM := Lib.hid hm; clear hm
  have hB := dig_bd t
  have HB := Lib.hid hB; clear hB
  go_enter Try.func133, Try.ntmps133
  go_wp2
  go_loop [7, 8] (fun o i => ∃ k : Nat, k ≤ 16 ∧ i = .int .i64 k ∧ o = .string (txt k (fun q => gfp (eqA (dig t) q)))) (fun _ i => 16 - (intOf i).toNat)
  case atStart => exact ⟨0, by omega, rfl, rfl⟩
  case round =>
    obtain ⟨k, hk, rfl, rfl⟩ := hrel
    by_cases hlt : k < 16
    · have ht := txt_snoc k (fun q => gfp (eqA (dig t) q))
      have HT := Lib.hid ht; clear ht
      have hz : (txt k (fun q => gfp (eqA (dig t) q))).size ≤ 16 := by rw [txt_size]; exact hk
      skip
      go_wp2_with (first | (go_at_call 213; refine (s_l7Greatest _ 0 k _ h HM.out (by omega) (by omega)).mono ?_; rw [gfp_and hlt]; rintro e w' ⟨rfl, rfl⟩) | (go_at_call 100; refine (s_l2Digit _ _ (gfp_lt (eqA_bd hlt))).mono ?_; rintro e w' ⟨rfl, rfl⟩))
      go_round
      case rel => exact ⟨k + 1, by omega, by go_num, by rw [← HT.out]⟩
      case measure => simp [intOf]; omega
    · obtain rfl : k = 16 := by omega
      go_wp2
      go_ret
      exact ⟨rfl, rfl⟩
theorem s_AngelStar (t : ByteArray) (w : World) (hs : t.size ≤ 1048576) : Calls Try.prog 35 #[.string t] w fun e w' => e = .returned (.tuple #[.string (optS (trOk t) (txt 16 (fun q => lfp (eqO (dig t) q)))), .bool (trOk t)]) ∧ w = w' := by
  cases hok : trOk t
  · go_enter Try.func35, Try.ntmps35
    go_wp2_with (go_at_call 132; refine (s_TransValid _ _ hs).mono ?_; rw [hok]; rintro e w' ⟨rfl, rfl⟩)
    go_ret2
    exact ⟨rfl, rfl⟩
  · have h1 := Dg.tr hok
    have h2 := dig_mono hok
    have H1 := Lib.hid h1; have H2 := Lib.hid h2; clear h1 h2
    go_enter Try.func35, Try.ntmps35
    go_wp2_with (first | (go_at_call 132; refine (s_TransValid _ _ hs).mono ?_; rw [hok]; rintro e w' ⟨rfl, rfl⟩) | (go_at_call 133; refine (s_l7Star_tt _ _ H1.out H2.out).mono ?_; rintro e w' ⟨rfl, rfl⟩))
    go_ret2
    exact ⟨rfl, rfl⟩
theorem s_AngelOmega (t : ByteArray) (w : World) (hs : t.size ≤ 1048576) : Calls Try.prog 47 #[.string t] w fun e w' => e = .returned (.tuple #[.string (optS (trOk t) (txt 16 (fun q => gfp (eqO (dig t) q)))), .bool (trOk t)]) ∧ w = w' := by
  cases hok : trOk t
  · go_enter Try.func47, Try.ntmps47
    go_wp2_with (go_at_call 132; refine (s_TransValid _ _ hs).mono ?_; rw [hok]; rintro e w' ⟨rfl, rfl⟩)
    go_ret2
    exact ⟨rfl, rfl⟩
  · have h1 := Dg.tr hok
    have h2 := dig_mono hok
    have H1 := Lib.hid h1; have H2 := Lib.hid h2; clear h1 h2
    go_enter Try.func47, Try.ntmps47
    go_wp2_with (first | (go_at_call 132; refine (s_TransValid _ _ hs).mono ?_; rw [hok]; rintro e w' ⟨rfl, rfl⟩) | (go_at_call 133; refine (s_l7Star_ft _ _ H1.out H2.out).mono ?_; rintro e w' ⟨rfl, rfl⟩))
    go_ret2
    exact ⟨rfl, rfl⟩
theorem s_DemonOmega (t : ByteArray) (w : World) (hs : t.size ≤ 1048576) : Calls Try.prog 45 #[.string t] w fun e w' => e = .returned (.tuple #[.string (optS (trOk t) (txt 16 (fun q => lfp (eqA (dig t) q)))), .bool (trOk t)]) ∧ w = w' := by
  cases hok : trOk t
  · go_enter Try.func45, Try.ntmps45
    go_wp2_with (go_at_call 132; refine (s_TransValid _ _ hs).mono ?_; rw [hok]; rintro e w' ⟨rfl, rfl⟩)
    go_ret2
    exact ⟨rfl, rfl⟩
  · have h1 := Dg.tr hok
    have h2 := dig_mono hok
    have H1 := Lib.hid h1; have H2 := Lib.hid h2; clear h1 h2
    go_enter Try.func45, Try.ntmps45
    go_wp2_with (first | (go_at_call 132; refine (s_TransValid _ _ hs).mono ?_; rw [hok]; rintro e w' ⟨rfl, rfl⟩) | (go_at_call 133; refine (s_l7Star_tf _ _ H1.out H2.out).mono ?_; rintro e w' ⟨rfl, rfl⟩))
    go_ret2
    exact ⟨rfl, rfl⟩
theorem s_DemonStar (t : ByteArray) (w : World) (hs : t.size ≤ 1048576) : Calls Try.prog 37 #[.string t] w fun e w' => e = .returned (.tuple #[.string (optS (trOk t) (txt 16 (fun q => gfp (eqA (dig t) q)))), .bool (trOk t)]) ∧ w = w' := by
  cases hok : trOk t
  · go_enter Try.func37, Try.ntmps37
    go_wp2_with (go_at_call 132; refine (s_TransValid _ _ hs).mono ?_; rw [hok]; rintro e w' ⟨rfl, rfl⟩)
    go_ret2
    exact ⟨rfl, rfl⟩
  · have h1 := Dg.tr hok
    have h2 := dig_mono hok
    have H1 := Lib.hid h1; have H2 := Lib.hid h2; clear h1 h2
    go_enter Try.func37, Try.ntmps37
    go_wp2_with (first | (go_at_call 132; refine (s_TransValid _ _ hs).mono ?_; rw [hok]; rintro e w' ⟨rfl, rfl⟩) | (go_at_call 133; refine (s_l7Star_ff _ _ H1.out H2.out).mono ?_; rintro e w' ⟨rfl, rfl⟩))
    go_ret2
    exact ⟨rfl, rfl⟩
theorem s_WhileTrans (p : Int) (t : ByteArray) (w : World) (hs : t.size ≤ 1048576) : Calls Try.prog 72 #[.int .i64 p, .string t] w fun e w' => e = .returned (.tuple #[.string (optS (trOk t && cvB p) (txt 16 (fWhile p.toNat (dig t)))), .bool (trOk t && cvB p)]) ∧ w = w' := by
  cases hok : (trOk t && cvB p)
  · go_enter Try.func72, Try.ntmps72
    go_wp2_with (go_at_call 144; refine (s_l7Ready _ _ _ hs).mono ?_; rw [hok]; rintro e w' ⟨rfl, rfl⟩)
    go_ret2
    exact ⟨rfl, rfl⟩
  · have hok' := hok
    rw [Bool.and_eq_true] at hok'
    have h1 := Dg.tr hok'.1
    have h2 := dig_mono hok'.1
    have H1 := Lib.hid h1; have H2 := Lib.hid h2; clear h1 h2
    obtain ⟨n, hn, rfl⟩ := (cvB_iff p).1 hok'.2
    clear hok'
    go_enter Try.func72, Try.ntmps72
    go_wp2_with (first | (go_at_call 144; refine (s_l7Ready _ _ _ hs).mono ?_; rw [hok]; rintro e w' ⟨rfl, rfl⟩) | (go_at_call 160; refine (s_l8While_t _ _ _ hn H1.out H2.out).mono ?_; rintro e w' ⟨rfl, rfl⟩))
    go_ret2
    exact ⟨rfl, rfl⟩
theorem s_WhileFree (p : Int) (t : ByteArray) (w : World) (hs : t.size ≤ 1048576) : Calls Try.prog 73 #[.int .i64 p, .string t] w fun e w' => e = .returned (.tuple #[.string (optS (trOk t && cvB p) (txt 16 (fFree p.toNat (dig t)))), .bool (trOk t && cvB p)]) ∧ w = w' := by
  cases hok : (trOk t && cvB p)
  · go_enter Try.func73, Try.ntmps73
    go_wp2_with (go_at_call 144; refine (s_l7Ready _ _ _ hs).mono ?_; rw [hok]; rintro e w' ⟨rfl, rfl⟩)
    go_ret2
    exact ⟨rfl, rfl⟩
  · have hok' := hok
    rw [Bool.and_eq_true] at hok'
    have h1 := Dg.tr hok'.1
    have h2 := dig_mono hok'.1
    have H1 := Lib.hid h1; have H2 := Lib.hid h2; clear h1 h2
    obtain ⟨n, hn, rfl⟩ := (cvB_iff p).1 hok'.2
    clear hok'
    go_enter Try.func73, Try.ntmps73
    go_wp2_with (first | (go_at_call 144; refine (s_l7Ready _ _ _ hs).mono ?_; rw [hok]; rintro e w' ⟨rfl, rfl⟩) | (go_at_call 160; refine (s_l8While_f _ _ _ hn H1.out H2.out).mono ?_; rintro e w' ⟨rfl, rfl⟩))
    go_ret2
    exact ⟨rfl, rfl⟩
theorem s_WeakestInvariant (p : Int) (t : ByteArray) (q : Int) (w : World) (hs : t.size ≤ 1048576) : Calls Try.prog 146 #[.int .i64 p, .string t, .int .i64 q] w fun e w' => e = .returned (.int .i64 (optI ((trOk t && cvB p) && cvB q) (fFree p.toNat (dig t) q.toNat))) ∧ w = w' := by
  cases hok : (trOk t && cvB p)
  · go_enter Try.func146, Try.ntmps146
    go_wp2_with (go_at_call 144; refine (s_l7Ready _ _ _ hs).mono ?_; rw [hok]; rintro e w' ⟨rfl, rfl⟩)
    go_ret
    exact ⟨rfl, rfl⟩
  cases hv : cvB q
  · go_enter Try.func146, Try.ntmps146
    go_wp2_with (first | (go_at_call 144; refine (s_l7Ready _ _ _ hs).mono ?_; rw [hok]; rintro e w' ⟨rfl, rfl⟩) | (go_at_call 145; refine (s_ConditionValid _ _).mono ?_; rw [hv]; rintro e w' ⟨rfl, rfl⟩))
    go_ret
    exact ⟨rfl, rfl⟩
  · have hok' := hok
    rw [Bool.and_eq_true] at hok'
    obtain ⟨n, hn, rfl⟩ := (cvB_iff p).1 hok'.2
    obtain ⟨m, hm, rfl⟩ := (cvB_iff q).1 hv
    have h1 := Dg.tr hok'.1
    have h2 := dig_mono hok'.1
    have h3 : Dg 16 (txt 16 (fFree n (dig t))) := Dg.txt fun q hq => fFree_bd hn q hq
    have e1 : dig (txt 16 (fFree n (dig t))) m = fFree n (dig t) m := txt_dig _ _ _ hm (fFree_bd hn _ hm)
    have H1 := Lib.hid h1; have H2 := Lib.hid h2; have H3 := Lib.hid h3; have E1 := Lib.hid e1; clear h1 h2 h3 e1
    clear hok'
    go_enter Try.func146, Try.ntmps146
    go_wp2_with (first | (go_at_call 144; refine (s_l7Ready _ _ _ hs).mono ?_; rw [hok]; rintro e w' ⟨rfl, rfl⟩) | (go_at_call 145; refine (s_ConditionValid _ _).mono ?_; rw [hv]; rintro e w' ⟨rfl, rfl⟩) | (go_at_call 160; refine (s_l8While_f _ _ _ hn H1.out H2.out).mono ?_; rintro e w' ⟨rfl, rfl⟩) | (go_at_call 148; refine (s_l3Value _ _ _ H3.out hm).mono ?_; rw [E1.out]; rintro e w' ⟨rfl, rfl⟩))
    go_ret
    exact ⟨rfl, rfl⟩
end Go.Proofs.Ytiaeakpgldpaiaa
