/- The program's listed functions on specifications and codes. -/
import Derived.Test.YtjbfebjdegabaaaImplE
import Derived.Test.YtjbfebjdegabaaaImplS
import Derived.Test.YtjbfebjdegabaaaImplC
namespace Go.Proofs.Ytjbfebjdegabaaa
set_option linter.unusedSimpArgs false
set_option linter.unusedVariables false
set_option maxRecDepth 4000
open Go.RowKit

theorem specs_ok (a b c d : Bool) : (((a && b) && c) && d) = ((c && a) && (d && b)) := by cases a <;> cases b <;> cases c <;> cases d <;> rfl
theorem i_AssignCode (s t : Int) (w : World) : Calls Try.prog 55 #[.int .i64 s, .int .i64 t] w fun e w' => e = .returned (.tuple #[.string (optS (stB s && stB t) (fAssign s.toNat t.toNat)), .bool (stB s && stB t)]) ∧ Below w.heap.size w w' := by
  cases hs : stB s <;> cases ht : stB t
  case true.true =>
    obtain ⟨s, h1, rfl⟩ := (stB_iff s).1 hs
    obtain ⟨t, h2, rfl⟩ := (stB_iff t).1 ht
    have r1 := (RowAt.fresh w 3 #[.int .i64 (s : Int)]).alloc (.cells #[.int .i64 (t : Int)] 3)
    have r2 := RowAt.fresh1 w (.cells #[.int .i64 (s : Int)] 3) 3 #[.int .i64 (t : Int)]
    have c1 := r1.get 0
    have c2 := r2.get 0
    go_enter Try.func55, Try.ntmps55
    go_wp2_with (first | (go_at_call 118; refine (i_stateOk _ _).mono ?_; (first | rw [hs] | rw [ht]); rintro e w' ⟨rfl, rfl⟩))
    have hlt : ∀ i, i < 4 → mkC (fAsg s t i) 4 < 16 := fun i _ => mkC_lt16 _
    refine (i_makeRel _ _ _ (fn_assign _ _ _ s t r1 r2)).mono ?_
    rintro e w1 ⟨rfl, hb⟩
    have rx := RowAt.fresh w1 53 (row 4 (fun a => mkC (fAsg s t a) 4))
    have hz : (txt 4 (fun a => mkC (fAsg s t a) 4)).size ≤ 4 := Nat.le_of_eq (txt_size _ _)
    have e0 : (⟨#[65]⟩ : ByteArray) ++ txt 4 (fun a => mkC (fAsg s t a) 4) = fAssign s t := by
      unfold fAssign sA
      rw [txt_congr fun i hi => fAsg_mk i hi h2]
    have E0 := Lib.hid e0; clear e0
    have HL := Lib.hid hlt; clear hlt
    go_wp2_with (first | (refine wpList_store_new rfl 53 _ _ rfl (row 4 (fun a => mkC (fAsg s t a) 4)) rfl rfl (by rw [row_size]; kernel_rfl) (by first | rfl | (rw [row_size, row_size]) | (simp [row_size]; done)) (row_one _ _) ?_) | (refine wpList_load_row rfl 53 _ rfl (w1.heap.size) rfl 53 (row 4 (fun a => mkC (fAsg s t a) 4)) (0, 0) _ rx Try.underlying53 rfl (by rw [row_size]; kernel_rfl) ?_))
    refine (i_relText _ _ HL.out).mono ?_
    rintro e w2 ⟨rfl, hb2⟩
    go_wp2_with fail
    go_ret2
    exact ⟨ret_sb E0.out rfl, bel_on' (bel_on' (bel_on' (bel_2 w _ _) hb) (bel_1 _ _)) hb2⟩
  all_goals
    go_enter Try.func55, Try.ntmps55
    go_wp2_with (go_at_call 118; refine (i_stateOk _ _).mono ?_; (first | rw [hs] | rw [ht]); rintro e w' ⟨rfl, rfl⟩)
    go_ret2
    exact ⟨rfl, bel_2 w _ _⟩
theorem bits_has0 (p s : Nat) (hp : p < 65536) : (bits .and .i64 ((p : Int) / 2 ^ s) 1 == 0) = !p.testBit s := by
  have h := bits_has' p s hp
  have e : bits .and .i64 ((p : Int) / 2 ^ s) 1 = (((p / 2 ^ s : Nat) &&& 1 : Nat) : Int) := by
    have e : ((p : Int) / 2 ^ s) = ((p / 2 ^ s : Nat) : Int) := by
      rw [Int.natCast_ediv]
      congr 1
    rw [e]
    exact bits_and_nat (p / 2 ^ s) 1 (Nat.lt_of_le_of_lt (Nat.div_le_self _ _) hp) (by omega)
  rw [e] at h ⊢
  have h1 : (p / 2 ^ s &&& 1) ≤ 1 := Nat.and_le_right
  rw [← h]
  have : (p / 2 ^ s &&& 1) = 0 ∨ (p / 2 ^ s &&& 1) = 1 := by omega
  rcases this with h | h <;> rw [h] <;> rfl
theorem upd_upd (F : Nat → Nat) (k a b i : Nat) : upd (upd F k a) k b i = upd F k b i := by unfold upd; split <;> rfl
end Go.Proofs.Ytjbfebjdegabaaa
