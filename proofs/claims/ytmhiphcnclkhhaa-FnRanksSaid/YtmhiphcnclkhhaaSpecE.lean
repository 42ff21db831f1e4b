/- The reference's loops and repetitions, and the listed functions on them: what each returns; none turns the world. -/
import Derived.Test.YtmhiphcnclkhhaaSpecD
import Derived.Test.YtmhiphcnclkhhaaPlain2
namespace Go.Proofs.Ytmhiphcnclkhhaa
set_option linter.unusedSimpArgs false
set_option linter.unusedVariables false
set_option maxRecDepth 4000
open Go.RowKit

set_option maxHeartbeats 400000 in
theorem s_l8While_t (p : Nat) (t : ByteArray) (w : World) (hp : p < 16) (h : Dg 16 t) (hm : Mono (dig t)) : Calls Try.prog 83 #[.int .i64 (p : Int), .string t, .bool true] w fun e w' => e = .returned (.string (txt 16 (fWhile p (dig t)))) ∧ w = w' := by
  have HM0 := Lib.hid hm; clear hm
  go_enter Try.func83, Try.ntmps83
  go_wp2
  go_loop [7, 8] (fun o i => ∃ k : Nat, k ≤ 16 ∧ i = .int .i64 k ∧ o = .string (txt k (fWhile p (dig t)))) (fun _ i => 16 - (intOf i).toNat)
  case atStart => exact ⟨0, by omega, rfl, rfl⟩
  case round =>
    obtain ⟨k, hk, rfl, rfl⟩ := hrel
    by_cases hlt : k < 16
    · have ht' := txt_snoc k (fWhile p (dig t))
      have HT := Lib.hid ht'; clear ht'
      have hz : (txt k (fWhile p (dig t))).size ≤ 16 := by rw [txt_size]; exact hk
      have hB : Bd (eqW p (dig t) k) := eqW_bd hp hlt
      have hM : Mono (eqW p (dig t) k) := eqW_mono HM0.out p k
      have HB := Lib.hid hB; have HM := Lib.hid hM; clear hB hM
      have hd : decide ((k : Int) < 16) = true := by simp; omega
      go_wp2
      clear hd
      go_loop [9, 10] (fun ys bs => ∃ n y : Nat, y < 16 ∧ ys = .int .i64 y ∧ Hid (y = iter (eqW p (dig t) k) 0 n) ∧ (bs = .int .i64 (-1) ∨ ∃ m b : Nat, b < 16 ∧ bs = .int .i64 b ∧ Hid (n = m + 1 ∧ b = iter (eqW p (dig t) k) 0 m))) (fun _ bs => muL bs)
      case atStart => exact ⟨0, 0, by omega, rfl, Lib.hid rfl, .inl rfl⟩
      case round =>
        obtain ⟨n, y, hy, rfl, HY, hbs⟩ := hrel
        rcases hbs with rfl | ⟨m, b, hb, rfl, HN⟩
        · have hne : ((-1 : Int) != (y : Int)) = true := by rw [bne_iff_ne]; omega
          go_wp2_with (first | (go_at_call 70; refine (s_l3Value _ _ _ h hy).mono ?_; rintro e w' ⟨rfl, rfl⟩) | (go_at_call 111; refine (s_l8Turn _ _ _ _ hp (dig_lt _ _) hlt).mono ?_; rintro e w' ⟨rfl, rfl⟩))
          go_round
          case rel => exact ⟨n + 1, _, turn_lt hp hlt, rfl, Lib.hid (by rw [HY.out]; rfl), .inr ⟨n, y, hy, rfl, Lib.hid ⟨rfl, HY.out⟩⟩⟩
          case measure => show muL (.int .i64 (y : Int)) < muL (.int .i64 (-1)); rw [muL_nat, muL_neg]; have := pc_le y; omega
        · by_cases he : b = y
          · have hyF : y = fWhile p (dig t) k := by
              have h1 := HN.out.1; have h2 := HN.out.2; have h3 := HY.out
              subst h1
              have : eqW p (dig t) k (iter (eqW p (dig t) k) 0 m) = iter (eqW p (dig t) k) 0 m := by
                show iter (eqW p (dig t) k) 0 (m + 1) = _
                rw [← h3, ← he, h2]
              rw [h3, show iter (eqW p (dig t) k) 0 (m + 1) = iter (eqW p (dig t) k) 0 m from this, lfp_of HB.out HM.out this]
              rfl
            have HF := Lib.hid hyF
            have hne : ((b : Int) != (y : Int)) = false := by rw [he]; simp
            clear he hyF
            go_wp2_with (go_at_call 110; refine (s_l2Digit _ _ hy).mono ?_; rintro e w' ⟨rfl, rfl⟩)
            go_round
            case rel => exact ⟨k + 1, by omega, by go_num, by rw [HF.out, ← HT.out]⟩
            case measure => simp [intOf]; omega
          · have hne : ((b : Int) != (y : Int)) = true := by rw [bne_iff_ne]; omega
            have HE := Lib.hid he; clear he
            go_wp2_with (first | (go_at_call 70; refine (s_l3Value _ _ _ h hy).mono ?_; rintro e w' ⟨rfl, rfl⟩) | (go_at_call 111; refine (s_l8Turn _ _ _ _ hp (dig_lt _ _) hlt).mono ?_; rintro e w' ⟨rfl, rfl⟩))
            go_round
            case rel => exact ⟨n + 1, _, turn_lt hp hlt, rfl, Lib.hid (by rw [HY.out]; rfl), .inr ⟨n, y, hy, rfl, Lib.hid ⟨rfl, HY.out⟩⟩⟩
            case measure =>
              show muL (.int .i64 (y : Int)) < muL (.int .i64 (b : Int))
              rw [muL_nat, muL_nat]
              have h1 := HN.out.1; have h2 := HN.out.2; have h3 := HY.out; subst h1
              have := pc_lt hb hy (by rw [h2, h3]; exact iter_up HB.out HM.out m) HE.out
              have := pc_le y
              have := pc_le b
              omega
    · obtain rfl : k = 16 := by omega
      go_wp2
      go_ret
      exact ⟨rfl, rfl⟩
set_option maxHeartbeats 400000 in
theorem s_l8While_f (p : Nat) (t : ByteArray) (w : World) (hp : p < 16) (h : Dg 16 t) (hm : Mono (dig t)) : Calls Try.prog 83 #[.int .i64 (p : Int), .string t, .bool false] w fun e w' => e = .returned (.string (txt 16 (fFree p (dig t)))) ∧ w = w' := by
  have HM0 := Lib.hid hm; clear hm
  go_enter Try.func83, Try.ntmps83
  go_wp2
  go_loop [7, 8] (fun o i => ∃ k : Nat, k ≤ 16 ∧ i = .int .i64 k ∧ o = .string (txt k (fFree p (dig t)))) (fun _ i => 16 - (intOf i).toNat)
  case atStart => exact ⟨0, by omega, rfl, rfl⟩
  case round =>
    obtain ⟨k, hk, rfl, rfl⟩ := hrel
    by_cases hlt : k < 16
    · have ht' := txt_snoc k (fFree p (dig t))
      have HT := Lib.hid ht'; clear ht'
      have hz : (txt k (fFree p (dig t))).size ≤ 16 := by rw [txt_size]; exact hk
      have hB : Bd (eqW p (dig t) k) := eqW_bd hp hlt
      have hM : Mono (eqW p (dig t) k) := eqW_mono HM0.out p k
      have HB := Lib.hid hB; have HM := Lib.hid hM; clear hB hM
      have hd : decide ((k : Int) < 16) = true := by simp; omega
      go_wp2
      clear hd
      go_loop [9, 10] (fun ys bs => ∃ n y : Nat, y < 16 ∧ ys = .int .i64 y ∧ Hid (y = iter (eqW p (dig t) k) 15 n) ∧ (bs = .int .i64 (-1) ∨ ∃ m b : Nat, b < 16 ∧ bs = .int .i64 b ∧ Hid (n = m + 1 ∧ b = iter (eqW p (dig t) k) 15 m))) (fun _ bs => muG bs)
      case atStart => exact ⟨0, 15, by omega, rfl, Lib.hid rfl, .inl rfl⟩
      case round =>
        obtain ⟨n, y, hy, rfl, HY, hbs⟩ := hrel
        rcases hbs with rfl | ⟨m, b, hb, rfl, HN⟩
        · have hne : ((-1 : Int) != (y : Int)) = true := by rw [bne_iff_ne]; omega
          go_wp2_with (first | (go_at_call 70; refine (s_l3Value _ _ _ h hy).mono ?_; rintro e w' ⟨rfl, rfl⟩) | (go_at_call 111; refine (s_l8Turn _ _ _ _ hp (dig_lt _ _) hlt).mono ?_; rintro e w' ⟨rfl, rfl⟩))
          go_round
          case rel => exact ⟨n + 1, _, turn_lt hp hlt, rfl, Lib.hid (by rw [HY.out]; rfl), .inr ⟨n, y, hy, rfl, Lib.hid ⟨rfl, HY.out⟩⟩⟩
          case measure => show muG (.int .i64 (y : Int)) < muG (.int .i64 (-1)); rw [muG_nat, muG_neg]; have := pc_le y; omega
        · by_cases he : b = y
          · have hyF : y = fFree p (dig t) k := by
              have h1 := HN.out.1; have h2 := HN.out.2; have h3 := HY.out
              subst h1
              have : eqW p (dig t) k (iter (eqW p (dig t) k) 15 m) = iter (eqW p (dig t) k) 15 m := by
                show iter (eqW p (dig t) k) 15 (m + 1) = _
                rw [← h3, ← he, h2]
              rw [h3, show iter (eqW p (dig t) k) 15 (m + 1) = iter (eqW p (dig t) k) 15 m from this, gfp_of HB.out HM.out this]
              rfl
            have HF := Lib.hid hyF
            have hne : ((b : Int) != (y : Int)) = false := by rw [he]; simp
            clear he hyF
            go_wp2_with (go_at_call 110; refine (s_l2Digit _ _ hy).mono ?_; rintro e w' ⟨rfl, rfl⟩)
            go_round
            case rel => exact ⟨k + 1, by omega, by go_num, by rw [HF.out, ← HT.out]⟩
            case measure => simp [intOf]; omega
          · have hne : ((b : Int) != (y : Int)) = true := by rw [bne_iff_ne]; omega
            have HE := Lib.hid he; clear he
            go_wp2_with (first | (go_at_call 70; refine (s_l3Value _ _ _ h hy).mono ?_; rintro e w' ⟨rfl, rfl⟩) | (go_at_call 111; refine (s_l8Turn _ _ _ _ hp (dig_lt _ _) hlt).mono ?_; rintro e w' ⟨rfl, rfl⟩))
            go_round
            case rel => exact ⟨n + 1, _, turn_lt hp hlt, rfl, Lib.hid (by rw [HY.out]; rfl), .inr ⟨n, y, hy, rfl, Lib.hid ⟨rfl, HY.out⟩⟩⟩
            case measure =>
              show muG (.int .i64 (y : Int)) < muG (.int .i64 (b : Int))
              rw [muG_nat, muG_nat]
              have h1 := HN.out.1; have h2 := HN.out.2; have h3 := HY.out; subst h1
              have := pc_lt hy hb (by rw [h2, h3]; exact iter_down HB.out HM.out m) (fun h => HE.out h.symm)
              have := pc_le y
              have := pc_le b
              omega
    · obtain rfl : k = 16 := by omega
      go_wp2
      go_ret
      exact ⟨rfl, rfl⟩
theorem s_WeakestInvariant (p : Int) (t : ByteArray) (q : Int) (w : World) (hs : t.size ≤ 1048576) : Calls Try.prog 46 #[.int .i64 p, .string t, .int .i64 q] w fun e w' => e = .returned (.int .i64 (optI ((trOk t && cvB p) && cvB q) (fFree p.toNat (dig t) q.toNat))) ∧ w = w' := by
  cases hok : (trOk t && cvB p)
  · go_enter Try.func46, Try.ntmps46
    go_wp2_with (go_at_call 67; refine (s_l7Ready _ _ _ hs).mono ?_; rw [hok]; rintro e w' ⟨rfl, rfl⟩)
    go_ret
    exact ⟨rfl, rfl⟩
  cases hv : cvB q
  · go_enter Try.func46, Try.ntmps46
    go_wp2_with (first | (go_at_call 67; refine (s_l7Ready _ _ _ hs).mono ?_; rw [hok]; rintro e w' ⟨rfl, rfl⟩) | (go_at_call 68; refine (s_ConditionValid _ _).mono ?_; rw [hv]; rintro e w' ⟨rfl, rfl⟩))
    go_ret
    exact ⟨rfl, rfl⟩
  · have hok' := hok
    rw [Bool.and_eq_true] at hok'
    obtain ⟨n, hn, rfl⟩ := (cvB_iff p).1 hok'.2
    obtain ⟨m, hm, rfl⟩ := (cvB_iff q).1 hv
    have h1 := Dg.tr hok'.1
    have h2 := dig_mono hok'.1
    have h3 : Dg 16 (txt 16 (fFree n (dig t))) := Dg.txt fun q hq => fFree_bd hn q hq
    have e1 : dig (txt 16 (fFree n (dig t))) m = fFree n (dig t) m := txt_dig _ _ _ hm (fFree_bd hn _ hm)
    have H1 := Lib.hid h1; have H2 := Lib.hid h2; have H3 := Lib.hid h3; have E1 := Lib.hid e1; clear h1 h2 h3 e1
    clear hok'
    go_enter Try.func46, Try.ntmps46
    go_wp2_with (first | (go_at_call 67; refine (s_l7Ready _ _ _ hs).mono ?_; rw [hok]; rintro e w' ⟨rfl, rfl⟩) | (go_at_call 68; refine (s_ConditionValid _ _).mono ?_; rw [hv]; rintro e w' ⟨rfl, rfl⟩) | (go_at_call 83; refine (s_l8While_f _ _ _ hn H1.out H2.out).mono ?_; rintro e w' ⟨rfl, rfl⟩) | (go_at_call 70; refine (s_l3Value _ _ _ H3.out hm).mono ?_; rw [E1.out]; rintro e w' ⟨rfl, rfl⟩))
    go_ret
    exact ⟨rfl, rfl⟩
theorem s_BeforeMost (t u : ByteArray) (w : World) (ht : t.size ≤ 1048576) (hu : u.size ≤ 1048576) : Calls Try.prog 77 #[.string t, .string u] w fun e w' => e = .returned (.tuple #[.string (optS (trOk t && trOk u) (txt 16 (fun p => fMost (dig t) (dig u) p 16))), .bool (trOk t && trOk u)]) ∧ w = w' := by
  cases hok : (trOk t && trOk u)
  · go_enter Try.func77, Try.ntmps77
    go_wp2_with (go_at_call 100; refine (s_l3Both _ _ _ ht hu).mono ?_; rw [hok]; rintro e w' ⟨rfl, rfl⟩)
    go_ret2
    exact ⟨rfl, rfl⟩
  · have g1 := hok
    rw [Bool.and_eq_true] at g1
    have h1 := Dg.tr g1.1; have h2 := Dg.tr g1.2
    have H1 := Lib.hid h1; have H2 := Lib.hid h2; clear h1 h2 g1
    go_enter Try.func77, Try.ntmps77
    go_wp2_with (first | (go_at_call 100; refine (s_l3Both _ _ _ ht hu).mono ?_; rw [hok]; rintro e w' ⟨rfl, rfl⟩) | (go_at_call 121; refine (s_l10Most _ _ _ H1.out H2.out).mono ?_; rintro e w' ⟨rfl, rfl⟩))
    go_ret2
    exact ⟨rfl, rfl⟩
end Go.Proofs.Ytmhiphcnclkhhaa
