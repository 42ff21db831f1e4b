/- Choices of transformers, where they start and where they are magic, as the laws call them. -/
import Derived.Test.YtiaeakpgldpaiaaApp2
import Derived.Test.YtiaeakpgldpaiaaImplT
namespace Go.Proofs.Ytiaeakpgldpaiaa
set_option linter.unusedSimpArgs false
set_option linter.unusedVariables false
set_option maxRecDepth 4000
open Go.RowKit

theorem i_MeetTrans (t u : ByteArray) (w : World) : Calls Try.prog 138 #[.string t, .string u] w fun e w' => e = .returned (.tuple #[.string (optS (trOk t && trOk u) (txt 16 (fun p => dig t p &&& dig u p))), .bool (trOk t && trOk u)]) ∧ Below w.heap.size w w' := by
  have h := i_both t u (.func (.func 199) #[] #[]) (fun p => dig t p &&& dig u p) w (fun i hi => and_lt (dig_lt _ _)) (fun _ _ => ⟨199, _, rfl, enters_of Try.func199 (by kernel_rfl) rfl, fun W _ => i_meet (dig t) (dig u) W (dig_bd t) (dig_bd u)⟩)
  have H := Lib.hid h; clear h
  go_enter Try.func138, Try.ntmps138
  go_wp2_with fail
  refine H.out.mono ?_
  rintro e w1 ⟨rfl, hb⟩
  go_wp2_with fail
  go_ret2
  exact ⟨rfl, hb⟩
theorem l_dcMeet (t u : ByteArray) (w : World) (hok : trOk t = true) (hok2 : trOk u = true) : Calls Try.prog 41 #[.string t, .string u] w fun e w' => e = .returned (.string (txt 16 (fun p => dig t p &&& dig u p))) ∧ Below w.heap.size w w' := by
  go_enter Try.func41, Try.ntmps41
  go_wp2_with fail
  refine (i_MeetTrans t u _).mono ?_
  rw [hok, hok2]
  rintro e w1 ⟨rfl, hb⟩
  go_wp2_with fail
  go_ret
  exact ⟨rfl, hb⟩
theorem i_JoinTrans (t u : ByteArray) (w : World) : Calls Try.prog 106 #[.string t, .string u] w fun e w' => e = .returned (.tuple #[.string (optS (trOk t && trOk u) (txt 16 (fun p => dig t p ||| dig u p))), .bool (trOk t && trOk u)]) ∧ Below w.heap.size w w' := by
  have h := i_both t u (.func (.func 185) #[] #[]) (fun p => dig t p ||| dig u p) w (fun i hi => or_lt (dig_lt _ _) (dig_lt _ _)) (fun _ _ => ⟨185, _, rfl, enters_of Try.func185 (by kernel_rfl) rfl, fun W _ => i_join (dig t) (dig u) W (dig_bd t) (dig_bd u)⟩)
  have H := Lib.hid h; clear h
  go_enter Try.func106, Try.ntmps106
  go_wp2_with fail
  refine H.out.mono ?_
  rintro e w1 ⟨rfl, hb⟩
  go_wp2_with fail
  go_ret2
  exact ⟨rfl, hb⟩
theorem l_dcJoin (t u : ByteArray) (w : World) (hok : trOk t = true) (hok2 : trOk u = true) : Calls Try.prog 19 #[.string t, .string u] w fun e w' => e = .returned (.string (txt 16 (fun p => dig t p ||| dig u p))) ∧ Below w.heap.size w w' := by
  go_enter Try.func19, Try.ntmps19
  go_wp2_with fail
  refine (i_JoinTrans t u _).mono ?_
  rw [hok, hok2]
  rintro e w1 ⟨rfl, hb⟩
  go_wp2_with fail
  go_ret
  exact ⟨rfl, hb⟩
theorem i_StartsN (t : ByteArray) (w : World) (hok : trOk t = true) : Calls Try.prog 48 #[.string t] w fun e w' => e = .returned (.int .i64 (dig t 15 : Int)) ∧ Below w.heap.size w w' := by
  go_enter Try.func48, Try.ntmps48
  go_wp2_with fail
  refine (i_ApplyN t 15 _ hok (by omega)).mono ?_
  rintro e w1 ⟨rfl, hb⟩
  go_wp2_with fail
  go_ret
  exact ⟨rfl, hb⟩
theorem i_MiraclesN (t : ByteArray) (w : World) (hok : trOk t = true) : Calls Try.prog 50 #[.string t] w fun e w' => e = .returned (.int .i64 (dig t 0 : Int)) ∧ Below w.heap.size w w' := by
  go_enter Try.func50, Try.ntmps50
  go_wp2_with fail
  refine (i_ApplyN t 0 _ hok (by omega)).mono ?_
  rintro e w1 ⟨rfl, hb⟩
  go_wp2_with fail
  go_ret
  exact ⟨rfl, hb⟩
/-- The text of the transformer that does nothing. -/
def skipS : ByteArray := ⟨#[48, 49, 50, 51, 52, 53, 54, 55, 56, 57, 97, 98, 99, 100, 101, 102]⟩
theorem skip_ok : trOk ⟨#[48, 49, 50, 51, 52, 53, 54, 55, 56, 57, 97, 98, 99, 100, 101, 102]⟩ = true := by decide
theorem skip_dig : ∀ q, q < 16 → dig ⟨#[48, 49, 50, 51, 52, 53, 54, 55, 56, 57, 97, 98, 99, 100, 101, 102]⟩ q = q := by decide
end Go.Proofs.Ytiaeakpgldpaiaa
