/- The program's tables and families made of functions, and its fixed points. -/
import Derived.Test.YtajehekoegjahaaImplB
import Derived.Test.YtajehekoegjahaaBase2
namespace Go.Proofs.Ytajehekoegjahaa
set_option linter.unusedSimpArgs false
set_option linter.unusedVariables false
open Go.RowKit

/-- A function value that says whether each number below n is so. -/
def PrIs (P : Program) (fv : Value) (w : World) (f : Nat → Bool) (n : Nat) : Prop :=
  ∃ g lb, fv = .func (.func g) #[] lb ∧ (∀ args w, (callFunc g args).run P w = .ok (.enter g args) w) ∧
    ∀ (W : World) (p : Nat), Below w.heap.size w W → p < n → Calls P g (#[.int .i64 (p : Int)] ++ lb) W fun e W' => e = .returned (.bool (f p)) ∧ Below W.heap.size W W'
/-- .. or each pair. -/
def Pr2Is (P : Program) (fv : Value) (w : World) (f : Nat → Nat → Bool) (n : Nat) : Prop :=
  ∃ g lb, fv = .func (.func g) #[] lb ∧ (∀ args w, (callFunc g args).run P w = .ok (.enter g args) w) ∧
    ∀ (W : World) (p q : Nat), Below w.heap.size w W → p < n → q < n → Calls P g (#[.int .i64 (p : Int), .int .i64 (q : Int)] ++ lb) W fun e W' => e = .returned (.bool (f p q)) ∧ Below W.heap.size W W'

theorem i_leastPoint (fv : Value) (f : Nat → Nat) (w : World) (hf : FnIs Try.prog fv w f 16) (hB : Bd f) (hM : Mono f) : Calls Try.prog 54 #[fv] w fun e w' => e = .returned (.int .i64 (lfp f : Int)) ∧ Below w.heap.size w w' := by
  obtain ⟨g, lb, rfl, hent, hcall⟩ := hf
  have HC := Lib.hid hcall; have HB := Lib.hid hB; have HM := Lib.hid hM; clear hcall hB hM
  go_enter Try.func54, Try.ntmps54
  go_wp2_with fail
  go_loopw [3] (fun ys wr => ∃ n y : Nat, y < 16 ∧ ys = .int .i64 y ∧ Hid (y = iter f 0 n) ∧ Below w.heap.size w wr) (fun ys _ => 5 - pc (intOf ys).toNat)
  case atStart => exact ⟨0, 0, by omega, rfl, Lib.hid rfl, Below.refl _ _⟩
  case round =>
    obtain ⟨n, y, hy, rfl, HY, hb⟩ := hrel
    by_cases he : f y = y
    · have hne : ((f y : Int) != (y : Int)) = false := by rw [he]; simp
      have HE := Lib.hid he; clear he
      go_wp2_with fail
      refine (HC.out _ y hb hy).mono ?_
      rintro e w1 ⟨rfl, hb1⟩
      go_wp2_with fail
      go_ret
      refine ⟨ret_int ?_, bel_on hb hb1 hb.size⟩
      have h1 := HY.out; have h2 := HE.out
      subst h1
      rw [lfp_of HB.out HM.out h2]
    · have hne : ((f y : Int) != (y : Int)) = true := by rw [bne_iff_ne]; omega
      have HE := Lib.hid he; clear he
      go_wp2_with fail
      refine (HC.out _ y hb hy).mono ?_
      rintro e w1 ⟨rfl, hb1⟩
      have hb2 := bel_on hb hb1 hb.size
      go_wp2_with fail
      refine (HC.out _ y hb2 hy).mono ?_
      rintro e w2 ⟨rfl, hb3⟩
      go_wp2_with fail
      go_roundw
      case rel => exact ⟨n + 1, _, HB.out y hy, rfl, Lib.hid (by rw [HY.out]; rfl), bel_on hb2 hb3 hb2.size⟩
      case measure =>
        show 5 - pc ((f y : Int)).toNat < 5 - pc ((y : Int)).toNat
        rw [Int.toNat_natCast, Int.toNat_natCast]
        have := pc_lt hy (HB.out y hy) (by rw [HY.out]; exact iter_up HB.out HM.out n) (fun h => HE.out h.symm)
        have := pc_le (f y)
        omega
theorem i_greatestPoint (fv : Value) (f : Nat → Nat) (w : World) (hf : FnIs Try.prog fv w f 16) (hB : Bd f) (hM : Mono f) : Calls Try.prog 57 #[fv] w fun e w' => e = .returned (.int .i64 (gfp f : Int)) ∧ Below w.heap.size w w' := by
  obtain ⟨g, lb, rfl, hent, hcall⟩ := hf
  have HC := Lib.hid hcall; have HB := Lib.hid hB; have HM := Lib.hid hM; clear hcall hB hM
  go_enter Try.func57, Try.ntmps57
  go_wp2_with fail
  go_loopw [3] (fun ys wr => ∃ n y : Nat, y < 16 ∧ ys = .int .i64 y ∧ Hid (y = iter f 15 n) ∧ Below w.heap.size w wr) (fun ys _ => pc (intOf ys).toNat)
  case atStart => exact ⟨0, 15, by omega, rfl, Lib.hid rfl, Below.refl _ _⟩
  case round =>
    obtain ⟨n, y, hy, rfl, HY, hb⟩ := hrel
    by_cases he : f y = y
    · have hne : ((f y : Int) != (y : Int)) = false := by rw [he]; simp
      have HE := Lib.hid he; clear he
      go_wp2_with fail
      refine (HC.out _ y hb hy).mono ?_
      rintro e w1 ⟨rfl, hb1⟩
      go_wp2_with fail
      go_ret
      refine ⟨ret_int ?_, bel_on hb hb1 hb.size⟩
      have h1 := HY.out; have h2 := HE.out
      subst h1
      rw [gfp_of HB.out HM.out h2]
    · have hne : ((f y : Int) != (y : Int)) = true := by rw [bne_iff_ne]; omega
      have HE := Lib.hid he; clear he
      go_wp2_with fail
      refine (HC.out _ y hb hy).mono ?_
      rintro e w1 ⟨rfl, hb1⟩
      have hb2 := bel_on hb hb1 hb.size
      go_wp2_with fail
      refine (HC.out _ y hb2 hy).mono ?_
      rintro e w2 ⟨rfl, hb3⟩
      go_wp2_with fail
      go_roundw
      case rel => exact ⟨n + 1, _, HB.out y hy, rfl, Lib.hid (by rw [HY.out]; rfl), bel_on hb2 hb3 hb2.size⟩
      case measure =>
        show pc ((f y : Int)).toNat < pc ((y : Int)).toNat
        rw [Int.toNat_natCast, Int.toNat_natCast]
        exact pc_lt (HB.out y hy) hy (by rw [HY.out]; exact iter_down HB.out HM.out n) HE.out
end Go.Proofs.Ytajehekoegjahaa
