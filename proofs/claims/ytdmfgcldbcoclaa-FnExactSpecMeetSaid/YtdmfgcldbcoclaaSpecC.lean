/- The reference's fixed points and texts of transformers: what each returns; none turns the world. -/
import Derived.Test.YtdmfgcldbcoclaaSpecB
namespace Go.Proofs.Ytdmfgcldbcoclaa
set_option linter.unusedSimpArgs false
set_option linter.unusedVariables false
open Go.RowKit

theorem s_l7Least (t : ByteArray) (o a : Nat) (w : World) (h : Dg 16 t) (hm : Mono (dig t)) (ho : o < 16) (ha : a < 16) : Calls Try.prog 61 #[.string t, .int .i64 (o : Int), .int .i64 (a : Int)] w fun e w' => e = .returned (.int .i64 (lfp (eqB (dig t) o a) : Int)) ∧ w = w' := by
  have hB : Bd (eqB (dig t) o a) := eqB_bd ha
  have hM : Mono (eqB (dig t) o a) := eqB_mono hm o a
  have HB := Lib.hid hB; have HM := Lib.hid hM; clear hB hM hm
  go_enter Try.func61, Try.ntmps61
  go_wp2
  go_loop [7, 8] (fun ys bs => ∃ n y : Nat, y < 16 ∧ ys = .int .i64 y ∧ Hid (y = iter (eqB (dig t) o a) 0 n) ∧ (bs = .int .i64 (-1) ∨ ∃ m b : Nat, b < 16 ∧ bs = .int .i64 b ∧ Hid (n = m + 1 ∧ b = iter (eqB (dig t) o a) 0 m))) (fun _ bs => muL bs)
  case atStart => exact ⟨0, 0, by omega, rfl, Lib.hid rfl, .inl rfl⟩
  case round =>
    obtain ⟨n, y, hy, rfl, HY, hbs⟩ := hrel
    have e1 := bits_or_nat (dig t y) o (by have := dig_lt t y; omega) (by omega)
    have e2 := bits_and_nat (dig t y ||| o) a (by have := or_lt (dig_lt t y) ho; omega) (by omega)
    rcases hbs with rfl | ⟨m, b, hb, rfl, HN⟩
    · have hne : ((-1 : Int) != (y : Int)) = true := by rw [bne_iff_ne]; omega
      go_wp2_with (go_at_call 55; refine (s_l3Value _ _ _ h hy).mono ?_; rintro e w' ⟨rfl, rfl⟩)
      go_round
      case rel => exact ⟨n + 1, _, and_lt' ha, rfl, Lib.hid (by rw [HY.out]; rfl), .inr ⟨n, y, hy, rfl, Lib.hid ⟨rfl, HY.out⟩⟩⟩
      case measure => show muL (.int .i64 (y : Int)) < muL (.int .i64 (-1)); rw [muL_nat, muL_neg]; omega
    · by_cases he : b = y
      · have HE := Lib.hid he
        have hne : ((b : Int) != (y : Int)) = false := by rw [he]; simp
        clear he
        go_wp2
        go_ret
        refine ⟨ret_int ?_, rfl⟩
        have h1 := HN.out.1; have h2 := HN.out.2; have h3 := HY.out; have h4 := HE.out
        subst h1
        have : eqB (dig t) o a (iter (eqB (dig t) o a) 0 m) = iter (eqB (dig t) o a) 0 m := by
          show iter (eqB (dig t) o a) 0 (m + 1) = _
          rw [← h3, ← h4, h2]
        rw [h3, show iter (eqB (dig t) o a) 0 (m + 1) = iter (eqB (dig t) o a) 0 m from this, lfp_of HB.out HM.out this]
      · have hne : ((b : Int) != (y : Int)) = true := by rw [bne_iff_ne]; omega
        have HE := Lib.hid he; clear he
        go_wp2_with (go_at_call 55; refine (s_l3Value _ _ _ h hy).mono ?_; rintro e w' ⟨rfl, rfl⟩)
        go_round
        case rel => exact ⟨n + 1, _, and_lt' ha, rfl, Lib.hid (by rw [HY.out]; rfl), .inr ⟨n, y, hy, rfl, Lib.hid ⟨rfl, HY.out⟩⟩⟩
        case measure =>
          show muL (.int .i64 (y : Int)) < muL (.int .i64 (b : Int))
          rw [muL_nat, muL_nat]
          have h1 := HN.out.1; have h2 := HN.out.2; have h3 := HY.out; subst h1
          have := pc_lt hb hy (by rw [h2, h3]; exact iter_up HB.out HM.out m) HE.out
          have := pc_le y
          omega
theorem s_l7Greatest (t : ByteArray) (o a : Nat) (w : World) (h : Dg 16 t) (hm : Mono (dig t)) (ho : o < 16) (ha : a < 16) : Calls Try.prog 64 #[.string t, .int .i64 (o : Int), .int .i64 (a : Int)] w fun e w' => e = .returned (.int .i64 (gfp (eqB (dig t) o a) : Int)) ∧ w = w' := by
  have hB : Bd (eqB (dig t) o a) := eqB_bd ha
  have hM : Mono (eqB (dig t) o a) := eqB_mono hm o a
  have HB := Lib.hid hB; have HM := Lib.hid hM; clear hB hM hm
  go_enter Try.func64, Try.ntmps64
  go_wp2
  go_loop [7, 8] (fun ys bs => ∃ n y : Nat, y < 16 ∧ ys = .int .i64 y ∧ Hid (y = iter (eqB (dig t) o a) 15 n) ∧ (bs = .int .i64 (-1) ∨ ∃ m b : Nat, b < 16 ∧ bs = .int .i64 b ∧ Hid (n = m + 1 ∧ b = iter (eqB (dig t) o a) 15 m))) (fun _ bs => muG bs)
  case atStart => exact ⟨0, 15, by omega, rfl, Lib.hid rfl, .inl rfl⟩
  case round =>
    obtain ⟨n, y, hy, rfl, HY, hbs⟩ := hrel
    have e1 := bits_or_nat (dig t y) o (by have := dig_lt t y; omega) (by omega)
    have e2 := bits_and_nat (dig t y ||| o) a (by have := or_lt (dig_lt t y) ho; omega) (by omega)
    rcases hbs with rfl | ⟨m, b, hb, rfl, HN⟩
    · have hne : ((-1 : Int) != (y : Int)) = true := by rw [bne_iff_ne]; omega
      go_wp2_with (go_at_call 55; refine (s_l3Value _ _ _ h hy).mono ?_; rintro e w' ⟨rfl, rfl⟩)
      go_round
      case rel => exact ⟨n + 1, _, and_lt' ha, rfl, Lib.hid (by rw [HY.out]; rfl), .inr ⟨n, y, hy, rfl, Lib.hid ⟨rfl, HY.out⟩⟩⟩
      case measure => show muG (.int .i64 (y : Int)) < muG (.int .i64 (-1)); rw [muG_nat, muG_neg]; have := pc_le y; omega
    · by_cases he : b = y
      · have HE := Lib.hid he
        have hne : ((b : Int) != (y : Int)) = false := by rw [he]; simp
        clear he
        go_wp2
        go_ret
        refine ⟨ret_int ?_, rfl⟩
        have h1 := HN.out.1; have h2 := HN.out.2; have h3 := HY.out; have h4 := HE.out
        subst h1
        have : eqB (dig t) o a (iter (eqB (dig t) o a) 15 m) = iter (eqB (dig t) o a) 15 m := by
          show iter (eqB (dig t) o a) 15 (m + 1) = _
          rw [← h3, ← h4, h2]
        rw [h3, show iter (eqB (dig t) o a) 15 (m + 1) = iter (eqB (dig t) o a) 15 m from this, gfp_of HB.out HM.out this]
      · have hne : ((b : Int) != (y : Int)) = true := by rw [bne_iff_ne]; omega
        have HE := Lib.hid he; clear he
        go_wp2_with (go_at_call 55; refine (s_l3Value _ _ _ h hy).mono ?_; rintro e w' ⟨rfl, rfl⟩)
        go_round
        case rel => exact ⟨n + 1, _, and_lt' ha, rfl, Lib.hid (by rw [HY.out]; rfl), .inr ⟨n, y, hy, rfl, Lib.hid ⟨rfl, HY.out⟩⟩⟩
        case measure =>
          show muG (.int .i64 (y : Int)) < muG (.int .i64 (b : Int))
          rw [muG_nat, muG_nat]
          have h1 := HN.out.1; have h2 := HN.out.2; have h3 := HY.out; subst h1
          have := pc_lt hy hb (by rw [h2, h3]; exact iter_down HB.out HM.out m) (fun h => HE.out h.symm)
          omega
theorem s_l3Assert (p : Nat) (w : World) (hp : p < 16) : Calls Try.prog 78 #[.int .i64 (p : Int)] w fun e w' => e = .returned (.string (txt 16 (fun q => p &&& q))) ∧ w = w' := by
  go_enter Try.func78, Try.ntmps78
  go_wp2
  go_loop [3, 4] (fun o i => ∃ k : Nat, k ≤ 16 ∧ i = .int .i64 k ∧ o = .string (txt k (fun q => p &&& q))) (fun _ i => 16 - (intOf i).toNat)
  case atStart => exact ⟨0, by omega, rfl, rfl⟩
  case round =>
    obtain ⟨k, hk, rfl, rfl⟩ := hrel
    by_cases hlt : k < 16
    · have ht := txt_snoc k (fun q => p &&& q)
      have HT := Lib.hid ht; clear ht
      have hz : (txt k (fun q => p &&& q)).size ≤ 16 := by rw [txt_size]; exact hk
      have e1 := bits_and_nat p k (by omega) (by omega)
      go_wp2_with (first | (go_at_call 46; refine (s_l2Digit _ _ (and_lt hp)).mono ?_; rintro e w' ⟨rfl, rfl⟩))
      go_round
      case rel => exact ⟨k + 1, by omega, by go_num, by rw [← HT.out]⟩
      case measure => simp [intOf]; omega
    · obtain rfl : k = 16 := by omega
      go_wp2
      go_ret
      exact ⟨rfl, rfl⟩
theorem s_l3Then (t u : ByteArray) (w : World) (ht : Dg 16 t) (hu : Dg 16 u) : Calls Try.prog 69 #[.string t, .string u] w fun e w' => e = .returned (.string (txt 16 (fun p => dig t (dig u p)))) ∧ w = w' := by
  go_enter Try.func69, Try.ntmps69
  go_wp2
  go_loop [5, 6] (fun o i => ∃ k : Nat, k ≤ 16 ∧ i = .int .i64 k ∧ o = .string (txt k (fun p => dig t (dig u p)))) (fun _ i => 16 - (intOf i).toNat)
  case atStart => exact ⟨0, by omega, rfl, rfl⟩
  case round =>
    obtain ⟨k, hk, rfl, rfl⟩ := hrel
    by_cases hlt : k < 16
    · have ht := txt_snoc k (fun p => dig t (dig u p))
      have HT := Lib.hid ht; clear ht
      have hz : (txt k (fun p => dig t (dig u p))).size ≤ 16 := by rw [txt_size]; exact hk
      skip
      go_wp2_with (first | (go_at_call 55; refine (s_l3Value _ _ _ (by assumption) (by first | omega | exact dig_lt _ _)).mono ?_; rintro e w' ⟨rfl, rfl⟩) | (go_at_call 46; refine (s_l2Digit _ _ (dig_lt _ _)).mono ?_; rintro e w' ⟨rfl, rfl⟩))
      go_round
      case rel => exact ⟨k + 1, by omega, by go_num, by rw [← HT.out]⟩
      case measure => simp [intOf]; omega
    · obtain rfl : k = 16 := by omega
      go_wp2
      go_ret
      exact ⟨rfl, rfl⟩
theorem s_l10Most (t u : ByteArray) (w : World) (ht : Dg 16 t) (hu : Dg 16 u) : Calls Try.prog 70 #[.string t, .string u] w fun e w' => e = .returned (.string (txt 16 (fun p => fMost (dig t) (dig u) p 16))) ∧ w = w' := by
  go_enter Try.func70, Try.ntmps70
  go_wp2
  go_loop [5, 6] (fun o i => ∃ k : Nat, k ≤ 16 ∧ i = .int .i64 k ∧ o = .string (txt k (fun p => fMost (dig t) (dig u) p 16))) (fun _ i => 16 - (intOf i).toNat)
  case atStart => exact ⟨0, by omega, rfl, rfl⟩
  case round =>
    obtain ⟨k, hk, rfl, rfl⟩ := hrel
    by_cases hlt : k < 16
    · have ht' := txt_snoc k (fun p => fMost (dig t) (dig u) p 16)
      have HT := Lib.hid ht'; clear ht'
      have hz : (txt k (fun p => fMost (dig t) (dig u) p 16)).size ≤ 16 := by rw [txt_size]; exact hk
      go_wp2
      go_loop [7, 8] (fun n j => ∃ q : Nat, q ≤ 16 ∧ j = .int .i64 q ∧ n = .int .i64 (fMost (dig t) (dig u) k q : Int)) (fun _ j => 16 - (intOf j).toNat)
      case atStart => exact ⟨0, by omega, rfl, rfl⟩
      case round =>
        obtain ⟨q, hq, rfl, rfl⟩ := hrel
        by_cases hlq : q < 16
        · have e1 := bits_andn_nat k (dig t q) hlt (dig_lt _ _)
          have hF := fMost_lt (dig t) (dig u) k q
          by_cases ha : andn k (dig t q) = 0
          · have b1 : ((andn k (dig t q) : Int) == 0) = true := by simp [ha]
            have e2 := bits_and_nat (fMost (dig t) (dig u) k q) (dig u q) (by omega) (by have := dig_lt u q; omega)
            have HA := Lib.hid ha; clear ha
            go_wp2_with (go_at_call 55; refine (s_l3Value _ _ _ (by assumption) hlq).mono ?_; rintro e w' ⟨rfl, rfl⟩)
            go_round
            case rel => exact ⟨q + 1, by omega, by go_num, by rw [fMost, if_pos HA.out]⟩
            case measure => simp [intOf]; omega
          · have b1 : ((andn k (dig t q) : Int) == 0) = false := by simp; omega
            have HA := Lib.hid ha; clear ha
            go_wp2_with (go_at_call 55; refine (s_l3Value _ _ _ (by assumption) hlq).mono ?_; rintro e w' ⟨rfl, rfl⟩)
            go_round
            case rel => exact ⟨q + 1, by omega, by go_num, by rw [fMost, if_neg HA.out]⟩
            case measure => simp [intOf]; omega
        · obtain rfl : q = 16 := by omega
          go_wp2_with (go_at_call 46; refine (s_l2Digit _ _ (fMost_lt (dig t) (dig u) k 16)).mono ?_; rintro e w' ⟨rfl, rfl⟩)
          go_round
          case rel => exact ⟨k + 1, by omega, by go_num, by rw [← HT.out]⟩
          case measure => simp [intOf]; omega
    · obtain rfl : k = 16 := by omega
      go_wp2
      go_ret
      exact ⟨rfl, rfl⟩
theorem s_l8Turn (p b q : Nat) (w : World) (hp : p < 16) (hb : b < 16) (hq : q < 16) : Calls Try.prog 74 #[.int .i64 (p : Int), .int .i64 (b : Int), .int .i64 (q : Int)] w fun e w' => e = .returned (.int .i64 (turn p b q : Int)) ∧ w = w' := by
  have e1 := bits_and_nat p b (by omega) (by omega)
  have e2 := bits_andn_nat q p hq hp
  have e3 := bits_or_nat (p &&& b) (andn q p) (by have := and_lt (b := b) hp; omega) (by have := andn_lt (b := p) hq; omega)
  go_enter Try.func74, Try.ntmps74
  go_wp2
  go_ret
  exact ⟨rfl, rfl⟩
theorem s_l9Assign (s t : Nat) (w : World) (hs : s < 4) (ht : t < 4) : Calls Try.prog 40 #[.int .i64 (s : Int), .int .i64 (t : Int)] w fun e w' => e = .returned (.string ((⟨#[65]⟩ : ByteArray) ++ txt 4 (fun i => one (if i = s then t else i)))) ∧ w = w' := by
  go_enter Try.func40, Try.ntmps40
  go_wp2
  go_loop [5, 6] (fun o i => ∃ k : Nat, k ≤ 4 ∧ i = .int .i64 k ∧ o = .string ((⟨#[65]⟩ : ByteArray) ++ txt k (fun i => one (if i = s then t else i)))) (fun _ i => 4 - (intOf i).toNat)
  case atStart => exact ⟨0, by omega, rfl, rfl⟩
  case round =>
    obtain ⟨k, hk, rfl, rfl⟩ := hrel
    by_cases hlt : k < 4
    · have ht' := txt_snoc k (fun i => one (if i = s then t else i))
      have HT := Lib.hid ht'; clear ht'
      have hz : (txt k (fun i => one (if i = s then t else i))).size ≤ 4 := by rw [txt_size]; exact hk
      have hz2 : ((⟨#[65]⟩ : ByteArray) ++ txt k (fun i => one (if i = s then t else i))).size ≤ 8 := by rw [ByteArray.size_append, txt_size]; show 1 + k ≤ 8; omega
      have e1 := wrap_one (t := t) (by omega)
      have e2 := wrap_one (t := k) (by omega)
      by_cases he : k = s
      · have hb : ((k : Int) == (s : Int)) = true := by simp [he]
        have HE := Lib.hid he; clear he
        go_wp2_with (go_at_call 46; refine (s_l2Digit _ _ (one_lt ht)).mono ?_; rintro e w' ⟨rfl, rfl⟩)
        go_round
        case rel => exact ⟨k + 1, by omega, by go_num, by rw [← HT.out, if_pos HE.out, ByteArray.append_assoc]⟩
        case measure => simp [intOf]; omega
      · have hb : ((k : Int) == (s : Int)) = false := by rw [beq_eq_false_iff_ne]; omega
        have HE := Lib.hid he; clear he
        go_wp2_with (go_at_call 46; refine (s_l2Digit _ _ (one_lt hlt)).mono ?_; rintro e w' ⟨rfl, rfl⟩)
        go_round
        case rel => exact ⟨k + 1, by omega, by go_num, by rw [← HT.out, if_neg HE.out, ByteArray.append_assoc]⟩
        case measure => simp [intOf]; omega
    · obtain rfl : k = 4 := by omega
      go_wp2
      go_ret
      exact ⟨rfl, rfl⟩
end Go.Proofs.Ytdmfgcldbcoclaa
