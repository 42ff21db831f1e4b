/- The reference's listed functions: what each returns; none turns the world. -/
import Derived.Test.YtmhiphcnclkhhaaSpecC
namespace Go.Proofs.Ytmhiphcnclkhhaa
set_option linter.unusedSimpArgs false
set_option linter.unusedVariables false
set_option maxRecDepth 4000
open Go.RowKit

theorem optS_t (s : ByteArray) : optS true s = s := rfl
theorem optS_f (s : ByteArray) : optS false s = ⟨#[]⟩ := rfl
theorem optI_t (n : Nat) : optI true n = (n : Int) := rfl
theorem optI_f (n : Nat) : optI false n = -1 := rfl

theorem s_LeastPoint (t : ByteArray) (w : World) (hs : t.size ≤ 1048576) : Calls Try.prog 62 #[.string t] w fun e w' => e = .returned (.int .i64 (optI (trOk t) (lfp (dig t)))) ∧ w = w' := by
  cases hok : trOk t
  · go_enter Try.func62, Try.ntmps62
    go_wp2_with (go_at_call 92; refine (s_TransValid _ _ hs).mono ?_; rw [hok]; rintro e w' ⟨rfl, rfl⟩)
    go_ret
    exact ⟨rfl, rfl⟩
  · have h1 := Dg.tr hok
    have h2 := dig_mono hok
    have H1 := Lib.hid h1; have H2 := Lib.hid h2; clear h1 h2
    go_enter Try.func62, Try.ntmps62
    go_wp2_with (first | (go_at_call 92; refine (s_TransValid _ _ hs).mono ?_; rw [hok]; rintro e w' ⟨rfl, rfl⟩) | (go_at_call 113; refine (s_l7Least _ 0 15 _ H1.out H2.out (by omega) (by omega)).mono ?_; rw [lfp_id (dig_bd t)]; rintro e w' ⟨rfl, rfl⟩))
    go_ret
    exact ⟨rfl, rfl⟩
theorem s_GreatestPoint (t : ByteArray) (w : World) (hs : t.size ≤ 1048576) : Calls Try.prog 63 #[.string t] w fun e w' => e = .returned (.int .i64 (optI (trOk t) (gfp (dig t)))) ∧ w = w' := by
  cases hok : trOk t
  · go_enter Try.func63, Try.ntmps63
    go_wp2_with (go_at_call 92; refine (s_TransValid _ _ hs).mono ?_; rw [hok]; rintro e w' ⟨rfl, rfl⟩)
    go_ret
    exact ⟨rfl, rfl⟩
  · have h1 := Dg.tr hok
    have h2 := dig_mono hok
    have H1 := Lib.hid h1; have H2 := Lib.hid h2; clear h1 h2
    go_enter Try.func63, Try.ntmps63
    go_wp2_with (first | (go_at_call 92; refine (s_TransValid _ _ hs).mono ?_; rw [hok]; rintro e w' ⟨rfl, rfl⟩) | (go_at_call 114; refine (s_l7Greatest _ 0 15 _ H1.out H2.out (by omega) (by omega)).mono ?_; rw [gfp_id (dig_bd t)]; rintro e w' ⟨rfl, rfl⟩))
    go_ret
    exact ⟨rfl, rfl⟩
theorem s_LeastFrom (t : ByteArray) (p : Int) (w : World) (hs : t.size ≤ 1048576) : Calls Try.prog 57 #[.string t, .int .i64 p] w fun e w' => e = .returned (.int .i64 (optI (trOk t && cvB p) (lfp (eqO (dig t) p.toNat)))) ∧ w = w' := by
  cases hok : (trOk t && cvB p)
  · go_enter Try.func57, Try.ntmps57
    go_wp2_with (go_at_call 67; refine (s_l7Ready _ _ _ hs).mono ?_; rw [hok]; rintro e w' ⟨rfl, rfl⟩)
    go_ret
    exact ⟨rfl, rfl⟩
  · have hok' := hok
    rw [Bool.and_eq_true] at hok'
    have h1 := Dg.tr hok'.1
    have h2 := dig_mono hok'.1
    have H1 := Lib.hid h1; have H2 := Lib.hid h2; clear h1 h2
    obtain ⟨n, hn, rfl⟩ := (cvB_iff p).1 hok'.2
    clear hok'
    go_enter Try.func57, Try.ntmps57
    go_wp2_with (first | (go_at_call 67; refine (s_l7Ready _ _ _ hs).mono ?_; rw [hok]; rintro e w' ⟨rfl, rfl⟩) | (go_at_call 113; refine (s_l7Least _ n 15 _ H1.out H2.out (by omega) (by omega)).mono ?_; rw [lfp_or (dig_bd t) hn]; rintro e w' ⟨rfl, rfl⟩))
    go_ret
    exact ⟨rfl, rfl⟩
theorem s_GreatestIn (t : ByteArray) (p : Int) (w : World) (hs : t.size ≤ 1048576) : Calls Try.prog 58 #[.string t, .int .i64 p] w fun e w' => e = .returned (.int .i64 (optI (trOk t && cvB p) (gfp (eqA (dig t) p.toNat)))) ∧ w = w' := by
  cases hok : (trOk t && cvB p)
  · go_enter Try.func58, Try.ntmps58
    go_wp2_with (go_at_call 67; refine (s_l7Ready _ _ _ hs).mono ?_; rw [hok]; rintro e w' ⟨rfl, rfl⟩)
    go_ret
    exact ⟨rfl, rfl⟩
  · have hok' := hok
    rw [Bool.and_eq_true] at hok'
    have h1 := Dg.tr hok'.1
    have h2 := dig_mono hok'.1
    have H1 := Lib.hid h1; have H2 := Lib.hid h2; clear h1 h2
    obtain ⟨n, hn, rfl⟩ := (cvB_iff p).1 hok'.2
    clear hok'
    go_enter Try.func58, Try.ntmps58
    go_wp2_with (first | (go_at_call 67; refine (s_l7Ready _ _ _ hs).mono ?_; rw [hok]; rintro e w' ⟨rfl, rfl⟩) | (go_at_call 114; refine (s_l7Greatest _ 0 n _ H1.out H2.out (by omega) (by omega)).mono ?_; rw [gfp_and hn]; rintro e w' ⟨rfl, rfl⟩))
    go_ret
    exact ⟨rfl, rfl⟩
theorem s_PointsOf (t : ByteArray) (w : World) (hs : t.size ≤ 1048576) : Calls Try.prog 64 #[.string t] w fun e w' => e = .returned (.int .i64 (optI (trOk t) (fPoints (dig t)))) ∧ w = w' := by
  cases hok : trOk t
  · go_enter Try.func64, Try.ntmps64
    go_wp2_with (go_at_call 92; refine (s_TransValid _ _ hs).mono ?_; rw [hok]; rintro e w' ⟨rfl, rfl⟩)
    go_ret
    exact ⟨rfl, rfl⟩
  · have h1 := Dg.tr hok
    have H1 := Lib.hid h1; clear h1
    go_enter Try.func64, Try.ntmps64
    go_wp2_with (go_at_call 92; refine (s_TransValid _ _ hs).mono ?_; rw [hok]; rintro e w' ⟨rfl, rfl⟩)
    go_loop [3, 4] (fun f i => ∃ k : Nat, k ≤ 16 ∧ i = .int .i64 k ∧ f = .int .i64 (mkC (fun p => decide (dig t p = p)) k : Int)) (fun _ i => 16 - (intOf i).toNat)
    case atStart => exact ⟨0, by omega, rfl, rfl⟩
    case round =>
      obtain ⟨k, hk, rfl, rfl⟩ := hrel
      by_cases hlt : k < 16
      · have e1 := wrap_one hlt
        have hz : mkC (fun p => decide (dig t p = p)) k < 65536 := Nat.lt_of_lt_of_le (mkC_lt _ k) (Nat.pow_le_pow_right (n := 2) (j := 16) (by decide) hk)
        have e2 := bits_or_nat _ _ hz (one_lt16 hlt)
        by_cases hp : dig t k = k
        · have b1 : ((dig t k : Int) == (k : Int)) = true := by rw [hp]; simp
          have HP := Lib.hid hp; clear hp
          go_wp2_with (go_at_call 70; refine (s_l3Value _ _ _ H1.out hlt).mono ?_; rintro e w' ⟨rfl, rfl⟩)
          go_round
          case rel => exact ⟨k + 1, by omega, by go_num, by rw [mkC, if_pos (by simpa using HP.out)]; rfl⟩
          case measure => simp [intOf]; omega
        · have b1 : ((dig t k : Int) == (k : Int)) = false := by rw [beq_eq_false_iff_ne]; omega
          have HP := Lib.hid hp; clear hp
          go_wp2_with (go_at_call 70; refine (s_l3Value _ _ _ H1.out hlt).mono ?_; rintro e w' ⟨rfl, rfl⟩)
          go_round
          case rel => exact ⟨k + 1, by omega, by go_num, by rw [mkC, if_neg (by simpa using HP.out)]⟩
          case measure => simp [intOf]; omega
      · obtain rfl : k = 16 := by omega
        go_wp2
        go_ret
        exact ⟨rfl, rfl⟩
theorem s_PowerTrans (t : ByteArray) (n : Int) (w : World) (ht : t.size ≤ 1048576) : Calls Try.prog 29 #[.string t, .int .i64 n] w fun e w' => e = .returned (.tuple #[.string (optS (trOk t && nB n) (txt 16 (fPower (dig t) n.toNat))), .bool (trOk t && nB n)]) ∧ w = w' := by
  cases hok : trOk t
  · go_enter Try.func29, Try.ntmps29
    go_wp2_with (go_at_call 92; refine (s_TransValid _ _ ht).mono ?_; rw [hok]; rintro e w' ⟨rfl, rfl⟩)
    go_ret2
    exact ⟨rfl, rfl⟩
  cases hn : nB n
  · have hn' : (decide (0 ≤ n) && decide (n ≤ 100)) = false := hn
    go_enter Try.func29, Try.ntmps29
    go_wp2_with (first | (go_at_call 92; refine (s_TransValid _ _ ht).mono ?_; rw [hok]; rintro e w' ⟨rfl, rfl⟩) | (go_at_call 93; refine (s_l1In _ _ _ _).mono ?_; rw [hn']; rintro e w' ⟨rfl, rfl⟩))
    go_ret2
    exact ⟨rfl, rfl⟩
  · have hn' : (decide (0 ≤ n) && decide (n ≤ 100)) = true := hn
    obtain ⟨m, hm, rfl⟩ := (nB_iff n).1 hn
    have h1 := Dg.tr hok
    have e0 : txt 16 (fun q => 15 &&& q) = txt 16 (fPower (dig t) 0) := txt_congr fun q hq => all_and hq
    have H1 := Lib.hid h1; have E0 := Lib.hid e0; have HN := Lib.hid hn'; clear h1 e0 hn' hn
    go_enter Try.func29, Try.ntmps29
    go_wp2_with (first | (go_at_call 92; refine (s_TransValid _ _ ht).mono ?_; rw [hok]; rintro e w' ⟨rfl, rfl⟩) | (go_at_call 93; refine (s_l1In _ _ _ _).mono ?_; rw [HN.out]; rintro e w' ⟨rfl, rfl⟩) | (go_at_call 78; refine (s_l3Assert 15 _ (by omega)).mono ?_; rw [E0.out]; rintro e w' ⟨rfl, rfl⟩))
    go_loop [6, 7] (fun o i => ∃ k : Nat, k ≤ m ∧ i = .int .i64 k ∧ o = .string (txt 16 (fPower (dig t) k))) (fun _ i => m - (intOf i).toNat)
    case atStart => exact ⟨0, by omega, rfl, rfl⟩
    case round =>
      obtain ⟨k, hk, rfl, rfl⟩ := hrel
      by_cases hlt : k < m
      · have h3 : Dg 16 (txt 16 (fPower (dig t) k)) := Dg.txt fun _ hq => fPower_lt (dig_bd t) k _ hq
        have e : txt 16 (fun p => dig (txt 16 (fPower (dig t) k)) (dig t p)) = txt 16 (fPower (dig t) (k + 1)) := txt_congr fun p _ => (txt_dig _ _ _ (dig_lt _ _) (fPower_lt (dig_bd t) k _ (dig_lt _ _))).trans (iter_front _ _ _)
        have H3 := Lib.hid h3; have E := Lib.hid e; clear h3 e
        go_wp2_with (go_at_call 84; refine (s_l3Then _ _ _ H3.out H1.out).mono ?_; rw [E.out]; rintro e w' ⟨rfl, rfl⟩)
        go_round
        case rel => exact ⟨k + 1, by omega, by go_num, rfl⟩
        case measure => simp [intOf]; omega
      · obtain rfl : k = m := by omega
        go_wp2
        go_ret2
        exact ⟨rfl, rfl⟩
theorem s_UnrollWhile (p : Int) (t : ByteArray) (n : Int) (r : ByteArray) (w : World) (ht : t.size ≤ 1048576) (hr : r.size ≤ 1048576) : Calls Try.prog 52 #[.int .i64 p, .string t, .int .i64 n, .string r] w fun e w' => e = .returned (.tuple #[.string (optS (((trOk t && cvB p) && trOk r) && nB n) (txt 16 (fUnroll p.toNat (dig t) (dig r) n.toNat))), .bool (((trOk t && cvB p) && trOk r) && nB n)]) ∧ w = w' := by
  cases hok : (trOk t && cvB p)
  · go_enter Try.func52, Try.ntmps52
    go_wp2_with (go_at_call 67; refine (s_l7Ready _ _ _ ht).mono ?_; rw [hok]; rintro e w' ⟨rfl, rfl⟩)
    go_ret2
    exact ⟨rfl, rfl⟩
  cases hok2 : trOk r
  · go_enter Try.func52, Try.ntmps52
    go_wp2_with (first | (go_at_call 67; refine (s_l7Ready _ _ _ ht).mono ?_; rw [hok]; rintro e w' ⟨rfl, rfl⟩) | (go_at_call 92; refine (s_TransValid _ _ hr).mono ?_; rw [hok2]; rintro e w' ⟨rfl, rfl⟩))
    go_ret2
    exact ⟨rfl, rfl⟩
  cases hn : nB n
  · have hn' : (decide (0 ≤ n) && decide (n ≤ 100)) = false := hn
    go_enter Try.func52, Try.ntmps52
    go_wp2_with (first | (go_at_call 67; refine (s_l7Ready _ _ _ ht).mono ?_; rw [hok]; rintro e w' ⟨rfl, rfl⟩) | (go_at_call 92; refine (s_TransValid _ _ hr).mono ?_; rw [hok2]; rintro e w' ⟨rfl, rfl⟩) | (go_at_call 93; refine (s_l1In _ _ _ _).mono ?_; rw [hn']; rintro e w' ⟨rfl, rfl⟩))
    go_ret2
    exact ⟨rfl, rfl⟩
  · have hn' : (decide (0 ≤ n) && decide (n ≤ 100)) = true := hn
    have g1 := hok
    rw [Bool.and_eq_true] at g1
    obtain ⟨m, hm, rfl⟩ := (nB_iff n).1 hn
    obtain ⟨x, hx, rfl⟩ := (cvB_iff p).1 g1.2
    have h1 := Dg.tr g1.1
    have e0 : r = txt 16 (fUnroll x (dig t) (dig r) 0) := (txt_tr hok2).symm
    have H1 := Lib.hid h1; have E0 := Lib.hid e0; have HN := Lib.hid hn'; clear h1 e0 hn' hn g1
    go_enter Try.func52, Try.ntmps52
    go_wp2_with (first | (go_at_call 67; refine (s_l7Ready _ _ _ ht).mono ?_; rw [hok]; rintro e w' ⟨rfl, rfl⟩) | (go_at_call 92; refine (s_TransValid _ _ hr).mono ?_; rw [hok2]; rintro e w' ⟨rfl, rfl⟩) | (go_at_call 93; refine (s_l1In _ _ _ _).mono ?_; rw [HN.out]; rintro e w' ⟨rfl, rfl⟩))
    go_loop [3, 10] (fun o i => ∃ k : Nat, k ≤ m ∧ i = .int .i64 k ∧ o = .string (txt 16 (fUnroll x (dig t) (dig r) k))) (fun _ i => m - (intOf i).toNat)
    case atStart => exact ⟨0, by omega, rfl, congrArg Value.string E0.out⟩
    case round =>
      obtain ⟨k, hk, rfl, rfl⟩ := hrel
      by_cases hlt : k < m
      · have h3 : Dg 16 (txt 16 (fUnroll x (dig t) (dig r) k)) := Dg.txt fun _ hq => fUnroll_lt hx (dig_bd r) k _ hq
        have H3 := Lib.hid h3; clear h3
        go_wp2
        go_loop [11, 12] (fun o i => ∃ q : Nat, q ≤ 16 ∧ i = .int .i64 q ∧ o = .string (txt q (fUnroll x (dig t) (dig r) (k + 1)))) (fun _ i => 16 - (intOf i).toNat)
        case atStart => exact ⟨0, by omega, rfl, rfl⟩
        case round =>
          obtain ⟨q, hq, rfl, rfl⟩ := hrel
          by_cases hlq : q < 16
          · have ht' := txt_snoc q (fUnroll x (dig t) (dig r) (k + 1))
            have hz : (txt q (fUnroll x (dig t) (dig r) (k + 1))).size ≤ 16 := by rw [txt_size]; exact hq
            have e1 : dig (txt 16 (fUnroll x (dig t) (dig r) k)) q = fUnroll x (dig t) (dig r) k q := txt_dig _ _ _ hlq (fUnroll_lt hx (dig_bd r) k _ hlq)
            have h4 : fUnroll x (dig t) (dig r) k q < 16 := fUnroll_lt hx (dig_bd r) k _ hlq
            have HT := Lib.hid ht'; have E1 := Lib.hid e1; clear ht' e1
            go_wp2_with (first | (go_at_call 70; (with_reducible refine (s_l3Value (txt 16 (fUnroll x (dig t) (dig r) k)) q _ H3.out hlq).mono ?_); rw [E1.out]; rintro e w' ⟨rfl, rfl⟩) | (go_at_call 70; (with_reducible refine (s_l3Value t _ _ H1.out h4).mono ?_); rintro e w' ⟨rfl, rfl⟩) | (go_at_call 111; refine (s_l8Turn _ _ _ _ hx (dig_lt _ _) hlq).mono ?_; rintro e w' ⟨rfl, rfl⟩) | (go_at_call 110; refine (s_l2Digit _ _ (turn_lt hx hlq)).mono ?_; rintro e w' ⟨rfl, rfl⟩))
            go_round
            case rel => exact ⟨q + 1, by omega, by go_num, by rw [← HT.out]; rfl⟩
            case measure => simp [intOf]; omega
          · obtain rfl : q = 16 := by omega
            go_wp2
            go_round
            case rel => exact ⟨k + 1, by omega, by go_num, rfl⟩
            case measure => simp [intOf]; omega
      · obtain rfl : k = m := by omega
        go_wp2
        go_ret2
        exact ⟨rfl, rfl⟩
end Go.Proofs.Ytmhiphcnclkhhaa
