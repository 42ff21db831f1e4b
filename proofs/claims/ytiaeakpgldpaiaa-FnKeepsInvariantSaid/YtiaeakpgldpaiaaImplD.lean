/- The program's tables and families made of functions, and its fixed points. -/
import Derived.Test.YtiaeakpgldpaiaaImplB
import Derived.Test.YtiaeakpgldpaiaaBase2
namespace Go.Proofs.Ytiaeakpgldpaiaa
set_option linter.unusedSimpArgs false
set_option linter.unusedVariables false
set_option maxRecDepth 4000
open Go.RowKit

/-- A function value that says whether each number below n is so. -/
def PrIs (P : Program) (fv : Value) (w : World) (f : Nat → Bool) (n : Nat) : Prop :=
  ∃ g lb, fv = .func (.func g) #[] lb ∧ (∀ args w, (callFunc g args).run P w = .ok (.enter g args) w) ∧
    ∀ (W : World) (p : Nat), Below w.heap.size w W → p < n → Calls P g (#[.int .i64 (p : Int)] ++ lb) W fun e W' => e = .returned (.bool (f p)) ∧ Below W.heap.size W W'
/-- .. or each pair. -/
def Pr2Is (P : Program) (fv : Value) (w : World) (f : Nat → Nat → Bool) (n : Nat) : Prop :=
  ∃ g lb, fv = .func (.func g) #[] lb ∧ (∀ args w, (callFunc g args).run P w = .ok (.enter g args) w) ∧
    ∀ (W : World) (p q : Nat), Below w.heap.size w W → p < n → q < n → Calls P g (#[.int .i64 (p : Int), .int .i64 (q : Int)] ++ lb) W fun e W' => e = .returned (.bool (f p q)) ∧ Below W.heap.size W W'

set_option maxHeartbeats 1000000 in
theorem i_makeRel (fv : Value) (f : Nat → Nat → Bool) (w : World) (hf : Pr2Is Try.prog fv w f 4) : Calls Try.prog 119 #[fv] w fun e w' => e = .returned (.agg (row 4 (fun s => mkC (f s) 4))) ∧ Below w.heap.size w w' := by
  obtain ⟨g, lb, rfl, hent, hcall⟩ := hf
  have HC := Lib.hid hcall; clear hcall
  go_enter Try.func119, Try.ntmps119
  go_wp2_with fail
  go_loopw [7] (fun t wr => ∃ k : Nat, k ≤ 4 ∧ t = .int .i64 k ∧ RowAt wr (w.heap.size + 1) 68 (row 4 (fun i => if i < k then mkC (f i) 4 else 0)) ∧ RowAt wr w.heap.size 68 (row 4 (fun _ => 0)) ∧ Below w.heap.size w wr) (fun t _ => (4 - intOf t).toNat)
  case atStart => exact ⟨0, by omega, rfl, RowAt.fresh1 _ _ _ _, (RowAt.fresh _ _ _).alloc _, ((Below.refl _ _).alloc (Nat.le_refl _) _).alloc (by simp) _⟩
  case round =>
    obtain ⟨k, hk, rfl, hr1, hr0, hb⟩ := hrel
    by_cases hlt : k < 4
    · have hd : decide ((k : Int) < 4) = true := by simp; omega
      go_wp2_with fail
      clear hd
      go_loopw [10] (fun t wr => ∃ j : Nat, j ≤ 4 ∧ t = .int .i64 j ∧ RowAt wr (w.heap.size + 1) 68 (row 4 (fun i => if i < k then mkC (f i) 4 else if i = k then mkC (f k) j else 0)) ∧ RowAt wr w.heap.size 68 (row 4 (fun _ => 0)) ∧ Below w.heap.size w wr) (fun t _ => (4 - intOf t).toNat)
      case atStart => exact ⟨0, by omega, rfl, hr1.of (row_congr fun i _ => by split <;> simp [mkC]), hr0, hb⟩
      case round =>
        clear hr1 hr0 hb
        obtain ⟨j, hj, rfl, hr1, hr0, hb⟩ := hrel
        by_cases hlj : j < 4
        · have e1 := wrap_one (t := j) (by omega)
          have hz : mkC (f k) j < 16 := by
            have h1 := mkC_lt (f k) j
            have h2 : 2 ^ j ≤ 2 ^ 4 := Nat.pow_le_pow_right (by decide) hj
            omega
          have e2 := bits_or_nat (mkC (f k) j) (one j) (by omega) (by have := one_lt hlj; omega)
          cases hp : f k j
          · have HP := Lib.hid hp; clear hp
            go_wp2_with fail
            refine (HC.out _ k j hb hlt hlj).mono ?_
            rw [HP.out]
            rintro e w1 ⟨rfl, hb1⟩
            have hr1' := hr1.later hb1
            have hr0' := hr0.later hb1
            go_wp2_with fail
            go_roundw
            case rel => exact ⟨j + 1, by omega, by go_num, hr1'.of (row_congr fun i _ => by rw [show mkC (f k) (j + 1) = mkC (f k) j by rw [mkC, HP.out]; rfl]), hr0', bel_on hb hb1 hb.size⟩
            case measure => simp [intOf]; omega
          · have HP := Lib.hid hp; clear hp
            go_wp2_with fail
            refine (HC.out _ k j hb hlt hlj).mono ?_
            rw [HP.out]
            rintro e w1 ⟨rfl, hb1⟩
            have hr1' := hr1.later hb1
            have hr0' := hr0.later hb1
            have hbb := bel_on hb hb1 hb.size
            have hc := hr1'.cell k hlt
            rw [if_neg (Nat.lt_irrefl k), if_pos rfl] at hc
            have hf := hr1'.free k
            have i1 := lt_cast hlt
            clear hb1 hb hr1 hr0
            go_wp2_with fail
            go_region
            all_goals
              go_wp2_with fail
              go_roundw
              case rel =>
                refine ⟨j + 1, by omega, by go_num, (hr1'.set k (mkC (f k) j ||| one j)).of (row_congr fun i _ => ?_), hr0'.other _ _ (by simp), (hbb.setCell (by simp) _).drew⟩
                unfold upd
                by_cases hik : i = k
                · subst hik
                  simp only [if_true, Nat.lt_irrefl, if_false]
                  rw [mkC, HP.out]; rfl
                · simp [hik]
              case measure => simp [intOf]; omega
        · obtain rfl : j = 4 := by omega
          go_wp2_with fail
          go_roundw
          case rel =>
            refine ⟨k + 1, by omega, by go_num, hr1.of (row_congr fun i _ => ?_), hr0, hb⟩
            by_cases h1 : i < k
            · rw [if_pos h1, if_pos (by omega)]
            · by_cases h2 : i = k
              · subst h2; simp
              · rw [if_neg h1, if_neg h2, if_neg (by omega)]
          case measure => simp [intOf]; omega
    · obtain rfl : k = 4 := by omega
      have hr1 := hr1.of (row_congr (G := fun s => mkC (f s) 4) (fun i hi => by simp [hi]))
      go_wp2_with (first | (refine wpList_load_row rfl 68 _ rfl (w.heap.size + 1) rfl 68 (row 4 (fun s => mkC (f s) 4)) (0, 0) _ hr1 Try.underlying68 rfl (by rw [row_size]; kernel_rfl) ?_) | (refine wpList_store_row rfl 68 _ _ rfl (w.heap.size) (row 4 (fun s => mkC (f s) 4)) rfl rfl 68 _ hr0 (by rw [row_size]; kernel_rfl) (by first | rfl | (rw [row_size, row_size]) | (simp [row_size]; done)) (row_one _ _) ?_))
      have hr := hr0.put (row 4 (fun s => mkC (f s) 4))
      exact bodyPost_ret (results_cell_row rfl _ _ w.heap.size 68 _ (0, 0) _ rfl hr Try.underlying68 rfl (by rw [row_size]; kernel_rfl)) rfl ⟨rfl, bel_setRow hb (Nat.le_refl _) _⟩
theorem i_leastPoint (fv : Value) (f : Nat → Nat) (w : World) (hf : FnIs Try.prog fv w f 16) (hB : Bd f) (hM : Mono f) : Calls Try.prog 130 #[fv] w fun e w' => e = .returned (.int .i64 (lfp f : Int)) ∧ Below w.heap.size w w' := by
  obtain ⟨g, lb, rfl, hent, hcall⟩ := hf
  have HC := Lib.hid hcall; have HB := Lib.hid hB; have HM := Lib.hid hM; clear hcall hB hM
  go_enter Try.func130, Try.ntmps130
  go_wp2_with fail
  go_loopw [3] (fun ys wr => ∃ n y : Nat, y < 16 ∧ ys = .int .i64 y ∧ Hid (y = iter f 0 n) ∧ Below w.heap.size w wr) (fun ys _ => 5 - pc (intOf ys).toNat)
  case atStart => exact ⟨0, 0, by omega, rfl, Lib.hid rfl, Below.refl _ _⟩
  case round =>
    obtain ⟨n, y, hy, rfl, HY, hb⟩ := hrel
    by_cases he : f y = y
    · have hne : ((f y : Int) != (y : Int)) = false := by rw [he]; simp
      have HE := Lib.hid he; clear he
      go_wp2_with fail
      refine (HC.out _ y hb hy).mono ?_
      rintro e w1 ⟨rfl, hb1⟩
      go_wp2_with fail
      go_ret
      refine ⟨ret_int ?_, bel_on hb hb1 hb.size⟩
      have h1 := HY.out; have h2 := HE.out
      subst h1
      rw [lfp_of HB.out HM.out h2]
    · have hne : ((f y : Int) != (y : Int)) = true := by rw [bne_iff_ne]; omega
      have HE := Lib.hid he; clear he
      go_wp2_with fail
      refine (HC.out _ y hb hy).mono ?_
      rintro e w1 ⟨rfl, hb1⟩
      have hb2 := bel_on hb hb1 hb.size
      go_wp2_with fail
      refine (HC.out _ y hb2 hy).mono ?_
      rintro e w2 ⟨rfl, hb3⟩
      go_wp2_with fail
      go_roundw
      case rel => exact ⟨n + 1, _, HB.out y hy, rfl, Lib.hid (by rw [HY.out]; rfl), bel_on hb2 hb3 hb2.size⟩
      case measure =>
        show 5 - pc ((f y : Int)).toNat < 5 - pc ((y : Int)).toNat
        rw [Int.toNat_natCast, Int.toNat_natCast]
        have := pc_lt hy (HB.out y hy) (by rw [HY.out]; exact iter_up HB.out HM.out n) (fun h => HE.out h.symm)
        have := pc_le (f y)
        omega
theorem i_greatestPoint (fv : Value) (f : Nat → Nat) (w : World) (hf : FnIs Try.prog fv w f 16) (hB : Bd f) (hM : Mono f) : Calls Try.prog 134 #[fv] w fun e w' => e = .returned (.int .i64 (gfp f : Int)) ∧ Below w.heap.size w w' := by
  obtain ⟨g, lb, rfl, hent, hcall⟩ := hf
  have HC := Lib.hid hcall; have HB := Lib.hid hB; have HM := Lib.hid hM; clear hcall hB hM
  go_enter Try.func134, Try.ntmps134
  go_wp2_with fail
  go_loopw [3] (fun ys wr => ∃ n y : Nat, y < 16 ∧ ys = .int .i64 y ∧ Hid (y = iter f 15 n) ∧ Below w.heap.size w wr) (fun ys _ => pc (intOf ys).toNat)
  case atStart => exact ⟨0, 15, by omega, rfl, Lib.hid rfl, Below.refl _ _⟩
  case round =>
    obtain ⟨n, y, hy, rfl, HY, hb⟩ := hrel
    by_cases he : f y = y
    · have hne : ((f y : Int) != (y : Int)) = false := by rw [he]; simp
      have HE := Lib.hid he; clear he
      go_wp2_with fail
      refine (HC.out _ y hb hy).mono ?_
      rintro e w1 ⟨rfl, hb1⟩
      go_wp2_with fail
      go_ret
      refine ⟨ret_int ?_, bel_on hb hb1 hb.size⟩
      have h1 := HY.out; have h2 := HE.out
      subst h1
      rw [gfp_of HB.out HM.out h2]
    · have hne : ((f y : Int) != (y : Int)) = true := by rw [bne_iff_ne]; omega
      have HE := Lib.hid he; clear he
      go_wp2_with fail
      refine (HC.out _ y hb hy).mono ?_
      rintro e w1 ⟨rfl, hb1⟩
      have hb2 := bel_on hb hb1 hb.size
      go_wp2_with fail
      refine (HC.out _ y hb2 hy).mono ?_
      rintro e w2 ⟨rfl, hb3⟩
      go_wp2_with fail
      go_roundw
      case rel => exact ⟨n + 1, _, HB.out y hy, rfl, Lib.hid (by rw [HY.out]; rfl), bel_on hb2 hb3 hb2.size⟩
      case measure =>
        show pc ((f y : Int)).toNat < pc ((y : Int)).toNat
        rw [Int.toNat_natCast, Int.toNat_natCast]
        exact pc_lt (HB.out y hy) hy (by rw [HY.out]; exact iter_down HB.out HM.out n) HE.out
end Go.Proofs.Ytiaeakpgldpaiaa
