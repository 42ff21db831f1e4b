/- The reference's fixed points and texts of transformers: what each returns; none turns the world. -/
import Derived.Test.YtiaeakpgldpaiaaSpecB
namespace Go.Proofs.Ytiaeakpgldpaiaa
set_option linter.unusedSimpArgs false
set_option linter.unusedVariables false
set_option maxRecDepth 4000
open Go.RowKit

theorem s_l7Least (t : ByteArray) (o a : Nat) (w : World) (h : Dg 16 t) (hm : Mono (dig t)) (ho : o < 16) (ha : a < 16) : Calls Try.prog 212 #[.string t, .int .i64 (o : Int), .int .i64 (a : Int)] w fun e w' => e = .returned (.int .i64 (lfp (eqB (dig t) o a) : Int)) ∧ w = w' := by
  have hB : Bd (eqB (dig t) o a) := eqB_bd ha
  have hM : Mono (eqB (dig t) o a) := eqB_mono hm o a
  have HB := Lib.hid hB; have HM := Lib.hid hM; clear hB hM hm
  go_enter Try.func212, Try.ntmps212
  go_wp2
  go_loop [7, 8] (fun ys bs => ∃ n y : Nat, y < 16 ∧ ys = .int .i64 y ∧ Hid (y = iter (eqB (dig t) o a) 0 n) ∧ (bs = .int .i64 (-1) ∨ ∃ m b : Nat, b < 16 ∧ bs = .int .i64 b ∧ Hid (n = m + 1 ∧ b = iter (eqB (dig t) o a) 0 m))) (fun _ bs => muL bs)
  case atStart => exact ⟨0, 0, by omega, rfl, Lib.hid rfl, .inl rfl⟩
  case round =>
    obtain ⟨n, y, hy, rfl, HY, hbs⟩ := hrel
    have e1 := bits_or_nat (dig t y) o (by have := dig_lt t y; omega) (by omega)
    have e2 := bits_and_nat (dig t y ||| o) a (by have := or_lt (dig_lt t y) ho; omega) (by omega)
    rcases hbs with rfl | ⟨m, b, hb, rfl, HN⟩
    · have hne : ((-1 : Int) != (y : Int)) = true := by rw [bne_iff_ne]; omega
      go_wp2_with (go_at_call 148; refine (s_l3Value _ _ _ h hy).mono ?_; rintro e w' ⟨rfl, rfl⟩)
      go_round
      case rel => exact ⟨n + 1, _, and_lt' ha, rfl, Lib.hid (by rw [HY.out]; rfl), .inr ⟨n, y, hy, rfl, Lib.hid ⟨rfl, HY.out⟩⟩⟩
      case measure => show muL (.int .i64 (y : Int)) < muL (.int .i64 (-1)); rw [muL_nat, muL_neg]; omega
    · by_cases he : b = y
      · have HE := Lib.hid he
        have hne : ((b : Int) != (y : Int)) = false := by rw [he]; simp
        clear he
        go_wp2
        go_ret
        refine ⟨ret_int ?_, rfl⟩
        have h1 := HN.out.1; have h2 := HN.out.2; have h3 := HY.out; have h4 := HE.out
        subst h1
        have : eqB (dig t) o a (iter (eqB (dig t) o a) 0 m) = iter (eqB (dig t) o a) 0 m := by
          show iter (eqB (dig t) o a) 0 (m + 1) = _
          rw [← h3, ← h4, h2]
        rw [h3, show iter (eqB (dig t) o a) 0 (m + 1) = iter (eqB (dig t) o a) 0 m from this, lfp_of HB.out HM.out this]
      · have hne : ((b : Int) != (y : Int)) = true := by rw [bne_iff_ne]; omega
        have HE := Lib.hid he; clear he
        go_wp2_with (go_at_call 148; refine (s_l3Value _ _ _ h hy).mono ?_; rintro e w' ⟨rfl, rfl⟩)
        go_round
        case rel => exact ⟨n + 1, _, and_lt' ha, rfl, Lib.hid (by rw [HY.out]; rfl), .inr ⟨n, y, hy, rfl, Lib.hid ⟨rfl, HY.out⟩⟩⟩
        case measure =>
          show muL (.int .i64 (y : Int)) < muL (.int .i64 (b : Int))
          rw [muL_nat, muL_nat]
          have h1 := HN.out.1; have h2 := HN.out.2; have h3 := HY.out; subst h1
          have := pc_lt hb hy (by rw [h2, h3]; exact iter_up HB.out HM.out m) HE.out
          have := pc_le y
          omega
theorem s_l7Greatest (t : ByteArray) (o a : Nat) (w : World) (h : Dg 16 t) (hm : Mono (dig t)) (ho : o < 16) (ha : a < 16) : Calls Try.prog 213 #[.string t, .int .i64 (o : Int), .int .i64 (a : Int)] w fun e w' => e = .returned (.int .i64 (gfp (eqB (dig t) o a) : Int)) ∧ w = w' := by
  have hB : Bd (eqB (dig t) o a) := eqB_bd ha
  have hM : Mono (eqB (dig t) o a) := eqB_mono hm o a
  have HB := Lib.hid hB; have HM := Lib.hid hM; clear hB hM hm
  go_enter Try.func213, Try.ntmps213
  go_wp2
  go_loop [7, 8] (fun ys bs => ∃ n y : Nat, y < 16 ∧ ys = .int .i64 y ∧ Hid (y = iter (eqB (dig t) o a) 15 n) ∧ (bs = .int .i64 (-1) ∨ ∃ m b : Nat, b < 16 ∧ bs = .int .i64 b ∧ Hid (n = m + 1 ∧ b = iter (eqB (dig t) o a) 15 m))) (fun _ bs => muG bs)
  case atStart => exact ⟨0, 15, by omega, rfl, Lib.hid rfl, .inl rfl⟩
  case round =>
    obtain ⟨n, y, hy, rfl, HY, hbs⟩ := hrel
    have e1 := bits_or_nat (dig t y) o (by have := dig_lt t y; omega) (by omega)
    have e2 := bits_and_nat (dig t y ||| o) a (by have := or_lt (dig_lt t y) ho; omega) (by omega)
    rcases hbs with rfl | ⟨m, b, hb, rfl, HN⟩
    · have hne : ((-1 : Int) != (y : Int)) = true := by rw [bne_iff_ne]; omega
      go_wp2_with (go_at_call 148; refine (s_l3Value _ _ _ h hy).mono ?_; rintro e w' ⟨rfl, rfl⟩)
      go_round
      case rel => exact ⟨n + 1, _, and_lt' ha, rfl, Lib.hid (by rw [HY.out]; rfl), .inr ⟨n, y, hy, rfl, Lib.hid ⟨rfl, HY.out⟩⟩⟩
      case measure => show muG (.int .i64 (y : Int)) < muG (.int .i64 (-1)); rw [muG_nat, muG_neg]; have := pc_le y; omega
    · by_cases he : b = y
      · have HE := Lib.hid he
        have hne : ((b : Int) != (y : Int)) = false := by rw [he]; simp
        clear he
        go_wp2
        go_ret
        refine ⟨ret_int ?_, rfl⟩
        have h1 := HN.out.1; have h2 := HN.out.2; have h3 := HY.out; have h4 := HE.out
        subst h1
        have : eqB (dig t) o a (iter (eqB (dig t) o a) 15 m) = iter (eqB (dig t) o a) 15 m := by
          show iter (eqB (dig t) o a) 15 (m + 1) = _
          rw [← h3, ← h4, h2]
        rw [h3, show iter (eqB (dig t) o a) 15 (m + 1) = iter (eqB (dig t) o a) 15 m from this, gfp_of HB.out HM.out this]
      · have hne : ((b : Int) != (y : Int)) = true := by rw [bne_iff_ne]; omega
        have HE := Lib.hid he; clear he
        go_wp2_with (go_at_call 148; refine (s_l3Value _ _ _ h hy).mono ?_; rintro e w' ⟨rfl, rfl⟩)
        go_round
        case rel => exact ⟨n + 1, _, and_lt' ha, rfl, Lib.hid (by rw [HY.out]; rfl), .inr ⟨n, y, hy, rfl, Lib.hid ⟨rfl, HY.out⟩⟩⟩
        case measure =>
          show muG (.int .i64 (y : Int)) < muG (.int .i64 (b : Int))
          rw [muG_nat, muG_nat]
          have h1 := HN.out.1; have h2 := HN.out.2; have h3 := HY.out; subst h1
          have := pc_lt hy hb (by rw [h2, h3]; exact iter_down HB.out HM.out m) (fun h => HE.out h.symm)
          omega
theorem s_l3Assert (p : Nat) (w : World) (hp : p < 16) : Calls Try.prog 159 #[.int .i64 (p : Int)] w fun e w' => e = .returned (.string (txt 16 (fun q => p &&& q))) ∧ w = w' := by
  go_enter Try.func159, Try.ntmps159
  go_wp2
  go_loop [3, 4] (fun o i => ∃ k : Nat, k ≤ 16 ∧ i = .int .i64 k ∧ o = .string (txt k (fun q => p &&& q))) (fun _ i => 16 - (intOf i).toNat)
  case atStart => exact ⟨0, by omega, rfl, rfl⟩
  case round =>
    obtain ⟨k, hk, rfl, rfl⟩ := hrel
    by_cases hlt : k < 16
    · have ht := txt_snoc k (fun q => p &&& q)
      have HT := Lib.hid ht; clear ht
      have hz : (txt k (fun q => p &&& q)).size ≤ 16 := by rw [txt_size]; exact hk
      have e1 := bits_and_nat p k (by omega) (by omega)
      go_wp2_with (first | (go_at_call 100; refine (s_l2Digit _ _ (and_lt hp)).mono ?_; rintro e w' ⟨rfl, rfl⟩))
      go_round
      case rel => exact ⟨k + 1, by omega, by go_num, by rw [← HT.out]⟩
      case measure => simp [intOf]; omega
    · obtain rfl : k = 16 := by omega
      go_wp2
      go_ret
      exact ⟨rfl, rfl⟩
theorem s_l3Then (t u : ByteArray) (w : World) (ht : Dg 16 t) (hu : Dg 16 u) : Calls Try.prog 158 #[.string t, .string u] w fun e w' => e = .returned (.string (txt 16 (fun p => dig t (dig u p)))) ∧ w = w' := by
  go_enter Try.func158, Try.ntmps158
  go_wp2
  go_loop [5, 6] (fun o i => ∃ k : Nat, k ≤ 16 ∧ i = .int .i64 k ∧ o = .string (txt k (fun p => dig t (dig u p)))) (fun _ i => 16 - (intOf i).toNat)
  case atStart => exact ⟨0, by omega, rfl, rfl⟩
  case round =>
    obtain ⟨k, hk, rfl, rfl⟩ := hrel
    by_cases hlt : k < 16
    · have ht := txt_snoc k (fun p => dig t (dig u p))
      have HT := Lib.hid ht; clear ht
      have hz : (txt k (fun p => dig t (dig u p))).size ≤ 16 := by rw [txt_size]; exact hk
      skip
      go_wp2_with (first | (go_at_call 148; refine (s_l3Value _ _ _ (by assumption) (by first | omega | exact dig_lt _ _)).mono ?_; rintro e w' ⟨rfl, rfl⟩) | (go_at_call 100; refine (s_l2Digit _ _ (dig_lt _ _)).mono ?_; rintro e w' ⟨rfl, rfl⟩))
      go_round
      case rel => exact ⟨k + 1, by omega, by go_num, by rw [← HT.out]⟩
      case measure => simp [intOf]; omega
    · obtain rfl : k = 16 := by omega
      go_wp2
      go_ret
      exact ⟨rfl, rfl⟩
theorem s_l3Meet (t u : ByteArray) (w : World) (ht : Dg 16 t) (hu : Dg 16 u) : Calls Try.prog 231 #[.string t, .string u] w fun e w' => e = .returned (.string (txt 16 (fun p => dig t p &&& dig u p))) ∧ w = w' := by
  go_enter Try.func231, Try.ntmps231
  go_wp2
  go_loop [5, 6] (fun o i => ∃ k : Nat, k ≤ 16 ∧ i = .int .i64 k ∧ o = .string (txt k (fun p => dig t p &&& dig u p))) (fun _ i => 16 - (intOf i).toNat)
  case atStart => exact ⟨0, by omega, rfl, rfl⟩
  case round =>
    obtain ⟨k, hk, rfl, rfl⟩ := hrel
    by_cases hlt : k < 16
    · have ht := txt_snoc k (fun p => dig t p &&& dig u p)
      have HT := Lib.hid ht; clear ht
      have hz : (txt k (fun p => dig t p &&& dig u p)).size ≤ 16 := by rw [txt_size]; exact hk
      have e1 := bits_and_nat (dig t k) (dig u k) (by have := dig_lt t k; omega) (by have := dig_lt u k; omega)
      go_wp2_with (first | (go_at_call 148; refine (s_l3Value _ _ _ (by assumption) (by first | omega | exact dig_lt _ _)).mono ?_; rintro e w' ⟨rfl, rfl⟩) | (go_at_call 100; refine (s_l2Digit _ _ (and_lt (dig_lt _ _))).mono ?_; rintro e w' ⟨rfl, rfl⟩))
      go_round
      case rel => exact ⟨k + 1, by omega, by go_num, by rw [← HT.out]⟩
      case measure => simp [intOf]; omega
    · obtain rfl : k = 16 := by omega
      go_wp2
      go_ret
      exact ⟨rfl, rfl⟩
theorem s_l3Join (t u : ByteArray) (w : World) (ht : Dg 16 t) (hu : Dg 16 u) : Calls Try.prog 232 #[.string t, .string u] w fun e w' => e = .returned (.string (txt 16 (fun p => dig t p ||| dig u p))) ∧ w = w' := by
  go_enter Try.func232, Try.ntmps232
  go_wp2
  go_loop [5, 6] (fun o i => ∃ k : Nat, k ≤ 16 ∧ i = .int .i64 k ∧ o = .string (txt k (fun p => dig t p ||| dig u p))) (fun _ i => 16 - (intOf i).toNat)
  case atStart => exact ⟨0, by omega, rfl, rfl⟩
  case round =>
    obtain ⟨k, hk, rfl, rfl⟩ := hrel
    by_cases hlt : k < 16
    · have ht := txt_snoc k (fun p => dig t p ||| dig u p)
      have HT := Lib.hid ht; clear ht
      have hz : (txt k (fun p => dig t p ||| dig u p)).size ≤ 16 := by rw [txt_size]; exact hk
      have e1 := bits_or_nat (dig t k) (dig u k) (by have := dig_lt t k; omega) (by have := dig_lt u k; omega)
      go_wp2_with (first | (go_at_call 148; refine (s_l3Value _ _ _ (by assumption) (by first | omega | exact dig_lt _ _)).mono ?_; rintro e w' ⟨rfl, rfl⟩) | (go_at_call 100; refine (s_l2Digit _ _ (or_lt (dig_lt _ _) (dig_lt _ _))).mono ?_; rintro e w' ⟨rfl, rfl⟩))
      go_round
      case rel => exact ⟨k + 1, by omega, by go_num, by rw [← HT.out]⟩
      case measure => simp [intOf]; omega
    · obtain rfl : k = 16 := by omega
      go_wp2
      go_ret
      exact ⟨rfl, rfl⟩
theorem s_l3Dual (t : ByteArray) (w : World) (ht : Dg 16 t) : Calls Try.prog 217 #[.string t] w fun e w' => e = .returned (.string (txt 16 (fun p => andn 15 (dig t (andn 15 p))))) ∧ w = w' := by
  go_enter Try.func217, Try.ntmps217
  go_wp2
  go_loop [3, 4] (fun o i => ∃ k : Nat, k ≤ 16 ∧ i = .int .i64 k ∧ o = .string (txt k (fun p => andn 15 (dig t (andn 15 p))))) (fun _ i => 16 - (intOf i).toNat)
  case atStart => exact ⟨0, by omega, rfl, rfl⟩
  case round =>
    obtain ⟨k, hk, rfl, rfl⟩ := hrel
    by_cases hlt : k < 16
    · have ht := txt_snoc k (fun p => andn 15 (dig t (andn 15 p)))
      have HT := Lib.hid ht; clear ht
      have hz : (txt k (fun p => andn 15 (dig t (andn 15 p)))).size ≤ 16 := by rw [txt_size]; exact hk
      have e1 : bits .andNot .i64 (15 : Int) (k : Int) = ((andn 15 k : Nat) : Int) := bits_andn_nat 15 k (by omega) (by omega); have e2 : bits .andNot .i64 (15 : Int) (dig t (andn 15 k) : Int) = ((andn 15 (dig t (andn 15 k)) : Nat) : Int) := bits_andn_nat 15 (dig t (andn 15 k)) (by omega) (dig_lt _ _); have hx := andn_lt (a := 15) (b := k) (by omega)
      go_wp2_with (first | (go_at_call 148; refine (s_l3Value _ _ _ (by assumption) (by first | omega | exact dig_lt _ _)).mono ?_; rintro e w' ⟨rfl, rfl⟩) | (go_at_call 100; refine (s_l2Digit _ _ (andn_lt (by omega))).mono ?_; rintro e w' ⟨rfl, rfl⟩))
      go_round
      case rel => exact ⟨k + 1, by omega, by go_num, by rw [← HT.out]⟩
      case measure => simp [intOf]; omega
    · obtain rfl : k = 16 := by omega
      go_wp2
      go_ret
      exact ⟨rfl, rfl⟩
theorem s_l8Turn (p b q : Nat) (w : World) (hp : p < 16) (hb : b < 16) (hq : q < 16) : Calls Try.prog 226 #[.int .i64 (p : Int), .int .i64 (b : Int), .int .i64 (q : Int)] w fun e w' => e = .returned (.int .i64 (turn p b q : Int)) ∧ w = w' := by
  have e1 := bits_and_nat p b (by omega) (by omega)
  have e2 := bits_andn_nat q p hq hp
  have e3 := bits_or_nat (p &&& b) (andn q p) (by have := and_lt (b := b) hp; omega) (by have := andn_lt (b := p) hq; omega)
  go_enter Try.func226, Try.ntmps226
  go_wp2
  go_ret
  exact ⟨rfl, rfl⟩
theorem s_l9Assign (s t : Nat) (w : World) (hs : s < 4) (ht : t < 4) : Calls Try.prog 167 #[.int .i64 (s : Int), .int .i64 (t : Int)] w fun e w' => e = .returned (.string ((⟨#[65]⟩ : ByteArray) ++ txt 4 (fun i => one (if i = s then t else i)))) ∧ w = w' := by
  go_enter Try.func167, Try.ntmps167
  go_wp2
  go_loop [5, 6] (fun o i => ∃ k : Nat, k ≤ 4 ∧ i = .int .i64 k ∧ o = .string ((⟨#[65]⟩ : ByteArray) ++ txt k (fun i => one (if i = s then t else i)))) (fun _ i => 4 - (intOf i).toNat)
  case atStart => exact ⟨0, by omega, rfl, rfl⟩
  case round =>
    obtain ⟨k, hk, rfl, rfl⟩ := hrel
    by_cases hlt : k < 4
    · have ht' := txt_snoc k (fun i => one (if i = s then t else i))
      have HT := Lib.hid ht'; clear ht'
      have hz : (txt k (fun i => one (if i = s then t else i))).size ≤ 4 := by rw [txt_size]; exact hk
      have hz2 : ((⟨#[65]⟩ : ByteArray) ++ txt k (fun i => one (if i = s then t else i))).size ≤ 8 := by rw [ByteArray.size_append, txt_size]; show 1 + k ≤ 8; omega
      have e1 := wrap_one (t := t) (by omega)
      have e2 := wrap_one (t := k) (by omega)
      by_cases he : k = s
      · have hb : ((k : Int) == (s : Int)) = true := by simp [he]
        have HE := Lib.hid he; clear he
        go_wp2_with (go_at_call 100; refine (s_l2Digit _ _ (one_lt ht)).mono ?_; rintro e w' ⟨rfl, rfl⟩)
        go_round
        case rel => exact ⟨k + 1, by omega, by go_num, by rw [← HT.out, if_pos HE.out, ByteArray.append_assoc]⟩
        case measure => simp [intOf]; omega
      · have hb : ((k : Int) == (s : Int)) = false := by rw [beq_eq_false_iff_ne]; omega
        have HE := Lib.hid he; clear he
        go_wp2_with (go_at_call 100; refine (s_l2Digit _ _ (one_lt hlt)).mono ?_; rintro e w' ⟨rfl, rfl⟩)
        go_round
        case rel => exact ⟨k + 1, by omega, by go_num, by rw [← HT.out, if_neg HE.out, ByteArray.append_assoc]⟩
        case measure => simp [intOf]; omega
    · obtain rfl : k = 4 := by omega
      go_wp2
      go_ret
      exact ⟨rfl, rfl⟩
end Go.Proofs.Ytiaeakpgldpaiaa
