/- The program's tables and families made of functions, and its fixed points. -/
import Derived.Test.YtmhiphcnclkhhaaImplB
import Derived.Test.YtmhiphcnclkhhaaBase2
namespace Go.Proofs.Ytmhiphcnclkhhaa
set_option linter.unusedSimpArgs false
set_option linter.unusedVariables false
set_option maxRecDepth 4000
open Go.RowKit

/-- A function value that says whether each number below n is so. -/
def PrIs (P : Program) (fv : Value) (w : World) (f : Nat → Bool) (n : Nat) : Prop :=
  ∃ g lb, fv = .func (.func g) #[] lb ∧ (∀ args w, (callFunc g args).run P w = .ok (.enter g args) w) ∧
    ∀ (W : World) (p : Nat), Below w.heap.size w W → p < n → Calls P g (#[.int .i64 (p : Int)] ++ lb) W fun e W' => e = .returned (.bool (f p)) ∧ Below W.heap.size W W'
/-- .. or each pair. -/
def Pr2Is (P : Program) (fv : Value) (w : World) (f : Nat → Nat → Bool) (n : Nat) : Prop :=
  ∃ g lb, fv = .func (.func g) #[] lb ∧ (∀ args w, (callFunc g args).run P w = .ok (.enter g args) w) ∧
    ∀ (W : World) (p q : Nat), Below w.heap.size w W → p < n → q < n → Calls P g (#[.int .i64 (p : Int), .int .i64 (q : Int)] ++ lb) W fun e W' => e = .returned (.bool (f p q)) ∧ Below W.heap.size W W'

set_option maxHeartbeats 400000 in
theorem i_family (fv : Value) (f : Nat → Bool) (w : World) (hf : PrIs Try.prog fv w f 16) : Calls Try.prog 116 #[fv] w fun e w' => e = .returned (.int .i64 (mkC f 16 : Int)) ∧ Below w.heap.size w w' := by
  obtain ⟨g, lb, rfl, hent, hcall⟩ := hf
  have HC := Lib.hid hcall; clear hcall
  go_enter Try.func116, Try.ntmps116
  go_wp2_with fail
  go_loopw [3, 5] (fun o t wr => ∃ k : Nat, k ≤ 16 ∧ t = .int .i64 k ∧ o = .int .i64 (mkC f k : Int) ∧ Below w.heap.size w wr) (fun _ t _ => (16 - intOf t).toNat)
  case atStart => exact ⟨0, by omega, rfl, rfl, Below.refl _ _⟩
  case round =>
    obtain ⟨k, hk, rfl, rfl, hb⟩ := hrel
    by_cases hlt : k < 16
    · have e1 := wrap_one hlt
      have hz : mkC f k < 65536 := Nat.lt_of_lt_of_le (mkC_lt _ k) (Nat.pow_le_pow_right (n := 2) (j := 16) (by decide) hk)
      have e2 := bits_or_nat _ _ hz (one_lt16 hlt)
      cases hp : f k
      all_goals
        have HP := Lib.hid hp; clear hp
        go_wp2_with fail
        refine (HC.out _ k hb hlt).mono ?_
        rw [HP.out]
        rintro e w1 ⟨rfl, hb1⟩
        go_wp2_with fail
        go_roundw
        case rel => exact ⟨k + 1, by omega, by go_num, by rw [mkC, HP.out]; rfl, bel_on hb hb1 hb.size⟩
        case measure => simp [intOf]; omega
    · obtain rfl : k = 16 := by omega
      go_wp2_with fail
      go_ret
      exact ⟨rfl, hb⟩
theorem i_leastPoint (fv : Value) (f : Nat → Nat) (w : World) (hf : FnIs Try.prog fv w f 16) (hB : Bd f) (hM : Mono f) : Calls Try.prog 86 #[fv] w fun e w' => e = .returned (.int .i64 (lfp f : Int)) ∧ Below w.heap.size w w' := by
  obtain ⟨g, lb, rfl, hent, hcall⟩ := hf
  have HC := Lib.hid hcall; have HB := Lib.hid hB; have HM := Lib.hid hM; clear hcall hB hM
  go_enter Try.func86, Try.ntmps86
  go_wp2_with fail
  go_loopw [3] (fun ys wr => ∃ n y : Nat, y < 16 ∧ ys = .int .i64 y ∧ Hid (y = iter f 0 n) ∧ Below w.heap.size w wr) (fun ys _ => 5 - pc (intOf ys).toNat)
  case atStart => exact ⟨0, 0, by omega, rfl, Lib.hid rfl, Below.refl _ _⟩
  case round =>
    obtain ⟨n, y, hy, rfl, HY, hb⟩ := hrel
    by_cases he : f y = y
    · have hne : ((f y : Int) != (y : Int)) = false := by rw [he]; simp
      have HE := Lib.hid he; clear he
      go_wp2_with fail
      refine (HC.out _ y hb hy).mono ?_
      rintro e w1 ⟨rfl, hb1⟩
      go_wp2_with fail
      go_ret
      refine ⟨ret_int ?_, bel_on hb hb1 hb.size⟩
      have h1 := HY.out; have h2 := HE.out
      subst h1
      rw [lfp_of HB.out HM.out h2]
    · have hne : ((f y : Int) != (y : Int)) = true := by rw [bne_iff_ne]; omega
      have HE := Lib.hid he; clear he
      go_wp2_with fail
      refine (HC.out _ y hb hy).mono ?_
      rintro e w1 ⟨rfl, hb1⟩
      have hb2 := bel_on hb hb1 hb.size
      go_wp2_with fail
      refine (HC.out _ y hb2 hy).mono ?_
      rintro e w2 ⟨rfl, hb3⟩
      go_wp2_with fail
      go_roundw
      case rel => exact ⟨n + 1, _, HB.out y hy, rfl, Lib.hid (by rw [HY.out]; rfl), bel_on hb2 hb3 hb2.size⟩
      case measure =>
        show 5 - pc ((f y : Int)).toNat < 5 - pc ((y : Int)).toNat
        rw [Int.toNat_natCast, Int.toNat_natCast]
        have := pc_lt hy (HB.out y hy) (by rw [HY.out]; exact iter_up HB.out HM.out n) (fun h => HE.out h.symm)
        have := pc_le (f y)
        omega
theorem i_greatestPoint (fv : Value) (f : Nat → Nat) (w : World) (hf : FnIs Try.prog fv w f 16) (hB : Bd f) (hM : Mono f) : Calls Try.prog 102 #[fv] w fun e w' => e = .returned (.int .i64 (gfp f : Int)) ∧ Below w.heap.size w w' := by
  obtain ⟨g, lb, rfl, hent, hcall⟩ := hf
  have HC := Lib.hid hcall; have HB := Lib.hid hB; have HM := Lib.hid hM; clear hcall hB hM
  go_enter Try.func102, Try.ntmps102
  go_wp2_with fail
  go_loopw [3] (fun ys wr => ∃ n y : Nat, y < 16 ∧ ys = .int .i64 y ∧ Hid (y = iter f 15 n) ∧ Below w.heap.size w wr) (fun ys _ => pc (intOf ys).toNat)
  case atStart => exact ⟨0, 15, by omega, rfl, Lib.hid rfl, Below.refl _ _⟩
  case round =>
    obtain ⟨n, y, hy, rfl, HY, hb⟩ := hrel
    by_cases he : f y = y
    · have hne : ((f y : Int) != (y : Int)) = false := by rw [he]; simp
      have HE := Lib.hid he; clear he
      go_wp2_with fail
      refine (HC.out _ y hb hy).mono ?_
      rintro e w1 ⟨rfl, hb1⟩
      go_wp2_with fail
      go_ret
      refine ⟨ret_int ?_, bel_on hb hb1 hb.size⟩
      have h1 := HY.out; have h2 := HE.out
      subst h1
      rw [gfp_of HB.out HM.out h2]
    · have hne : ((f y : Int) != (y : Int)) = true := by rw [bne_iff_ne]; omega
      have HE := Lib.hid he; clear he
      go_wp2_with fail
      refine (HC.out _ y hb hy).mono ?_
      rintro e w1 ⟨rfl, hb1⟩
      have hb2 := bel_on hb hb1 hb.size
      go_wp2_with fail
      refine (HC.out _ y hb2 hy).mono ?_
      rintro e w2 ⟨rfl, hb3⟩
      go_wp2_with fail
      go_roundw
      case rel => exact ⟨n + 1, _, HB.out y hy, rfl, Lib.hid (by rw [HY.out]; rfl), bel_on hb2 hb3 hb2.size⟩
      case measure =>
        show pc ((f y : Int)).toNat < pc ((y : Int)).toNat
        rw [Int.toNat_natCast, Int.toNat_natCast]
        exact pc_lt (HB.out y hy) hy (by rw [HY.out]; exact iter_down HB.out HM.out n) HE.out
end Go.Proofs.Ytmhiphcnclkhhaa
