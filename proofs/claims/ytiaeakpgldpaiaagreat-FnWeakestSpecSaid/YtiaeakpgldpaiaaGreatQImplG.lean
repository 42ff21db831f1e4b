/- The program's listed functions on specifications and codes. -/
import Derived.Test.YtiaeakpgldpaiaaGreatQJ3
import Derived.Test.YtiaeakpgldpaiaaGreatQImplS
namespace Go.Proofs.YtiaeakpgldpaiaaGreat
set_option linter.unusedSimpArgs false
set_option linter.unusedVariables false
set_option maxRecDepth 4000
open Go.RowKit

theorem specs_ok (a b c d : Bool) : (((a && b) && c) && d) = ((c && a) && (d && b)) := by cases a <;> cases b <;> cases c <;> cases d <;> rfl
set_option maxHeartbeats 1000000 in
theorem i_SpecWeaker (p : Int) (r : ByteArray) (q : Int) (s : ByteArray) (w : World) : Calls Tryz.prog 19 #[.int .i64 p, .string r, .int .i64 q, .string s] w fun e w' => e = .returned (.bool ((cvB p && relOk r) && (cvB q && relOk s) && (decide (andn q.toNat p.toNat = 0) && fWithin q.toNat (dig r) (dig s) 4))) ∧ Below w.heap.size w w' := by
  cases hok : ((cvB p && relOk r) && (cvB q && relOk s))
  · go_enter Tryz.func19, Tryz.ntmps19
    go_wp2_with fail
    refine (i_specs _ _ _ _ _).mono ?_
    rw [specs_ok, hok]
    rintro e w1 ⟨rfl, hb⟩
    go_wp2_with (first | (refine wpList_store_new2 rfl 48 _ _ rfl (row 4 (relF r)) rfl rfl (by rw [row_size]; kernel_rfl) (by first | rfl | (rw [row_size, row_size]) | (simp [row_size]; done)) (row_one _ _) ?_) | (refine wpList_store_new1 rfl 48 _ _ rfl (row 4 (relF s)) rfl rfl (by rw [row_size]; kernel_rfl) (by first | rfl | (rw [row_size, row_size]) | (simp [row_size]; done)) (row_one _ _) ?_))
    go_ret
    exact ⟨rfl, bel_on' hb (bel_2 _ _ _)⟩
  have g := hok
  rw [Bool.and_eq_true, Bool.and_eq_true, Bool.and_eq_true] at g
  obtain ⟨n, hn, rfl⟩ := (cvB_iff p).1 g.1.1
  obtain ⟨m, hm, rfl⟩ := (cvB_iff q).1 g.2.1
  have k1 := relF_ok g.1.2
  have k2 := relF_ok g.2.2
  have K1 := Lib.hid k1; have K2 := Lib.hid k2; clear k1 k2 g
  have e1 := bits_andn_nat m n hm hn
  by_cases hz : andn m n = 0
  · have b1 : ((andn m n : Int) != 0) = false := by simp [hz]
    have HZ := Lib.hid hz; clear hz
    go_enter Tryz.func19, Tryz.ntmps19
    go_wp2_with fail
    refine (i_specs _ _ _ _ _).mono ?_
    rw [specs_ok, hok, K1.out, K2.out]
    rintro e w1 ⟨rfl, hb⟩
    go_wp2_with (first | (refine wpList_store_new2 rfl 48 _ _ rfl (row 4 (dig r)) rfl rfl (by rw [row_size]; kernel_rfl) (by first | rfl | (rw [row_size, row_size]) | (simp [row_size]; done)) (row_one _ _) ?_) | (refine wpList_store_new1 rfl 48 _ _ rfl (row 4 (dig s)) rfl rfl (by rw [row_size]; kernel_rfl) (by first | rfl | (rw [row_size, row_size]) | (simp [row_size]; done)) (row_one _ _) ?_))
    have r1 := (RowAt.fresh w1 48 (row 4 (dig r))).alloc (.cells (row 4 (dig s)) 48)
    have r2 := RowAt.fresh1 w1 (.cells (row 4 (dig r)) 48) 48 (row 4 (dig s))
    have hbb := bel_on' hb (bel_2 w1 (.cells (row 4 (dig r)) 48) (.cells (row 4 (dig s)) 48))
    go_loopw [30] (fun t wr => ∃ k : Nat, k ≤ 4 ∧ t = .int .i64 k ∧ Hid (fWithin m (dig r) (dig s) k = true) ∧ RowAt wr w1.heap.size 48 (row 4 (dig r)) ∧ RowAt wr (w1.heap.size + 1) 48 (row 4 (dig s)) ∧ Below w.heap.size w wr) (fun t _ => (4 - intOf t).toNat)
    case atStart => exact ⟨0, by omega, rfl, Lib.hid rfl, r1, r2, hbb⟩
    case round =>
      clear r1 r2 hbb hb
      obtain ⟨k, hk, rfl, HW, r1, r2, hbb⟩ := hrel
      by_cases hlt : k < 4
      · have e2 := bits_andn_nat (dig r k) (dig s k) (dig_lt _ _) (dig_lt _ _)
        have c1 := r1.cell k hlt
        have c2 := r2.cell k hlt
        have i1 := lt_cast hlt
        have hbit := bits_has' m k (by omega)
        cases ht : m.testBit k
        · rw [ht] at hbit
          have HT := Lib.hid ht; clear ht
          go_wp2_with fail
          go_quiet (fail)
          go_wp2_with fail
          go_roundw
          case rel => exact ⟨k + 1, by omega, by go_num, Lib.hid (fWithin_succ HW.out fun h => by rw [HT.out] at h; cases h), r1.drewN _, r2.drewN _, bel_drewN hbb _⟩
          case measure => simp [intOf]; omega
        · rw [ht] at hbit
          have HT := Lib.hid ht; clear ht
          by_cases hy : andn (dig r k) (dig s k) = 0
          · have b2 : ((andn (dig r k) (dig s k) : Int) != 0) = false := by simp [hy]
            have HY := Lib.hid hy; clear hy
            go_wp2_with fail
            go_quiet (fail)
            go_wp2_with fail
            go_roundw
            case rel => exact ⟨k + 1, by omega, by go_num, Lib.hid (fWithin_succ HW.out fun _ => HY.out), r1.drewN _, r2.drewN _, bel_drewN hbb _⟩
            case measure => simp [intOf]; omega
          · have b2 : ((andn (dig r k) (dig s k) : Int) != 0) = true := by rw [bne_iff_ne]; omega
            have HY := Lib.hid hy; clear hy
            go_wp2_with fail
            go_quiet (fail)
            go_wp2_with fail
            go_ret
            refine ⟨ret_bool ?_, bel_drewN hbb _⟩
            show false = (true && (decide (andn m n = 0) && fWithin m (dig r) (dig s) 4))
            rw [fWithin_no hlt HT.out HY.out, Bool.and_false]; rfl
      · obtain rfl : k = 4 := by omega
        go_wp2_with fail
        go_ret
        refine ⟨ret_bool ?_, hbb⟩
        show true = (true && (decide (andn m n = 0) && fWithin m (dig r) (dig s) 4))
        rw [HW.out, HZ.out]; rfl
  · have b1 : ((andn m n : Int) != 0) = true := by rw [bne_iff_ne]; omega
    have HZ := Lib.hid hz; clear hz
    go_enter Tryz.func19, Tryz.ntmps19
    go_wp2_with fail
    refine (i_specs _ _ _ _ _).mono ?_
    rw [specs_ok, hok, K1.out, K2.out]
    rintro e w1 ⟨rfl, hb⟩
    go_wp2_with (first | (refine wpList_store_new2 rfl 48 _ _ rfl (row 4 (dig r)) rfl rfl (by rw [row_size]; kernel_rfl) (by first | rfl | (rw [row_size, row_size]) | (simp [row_size]; done)) (row_one _ _) ?_) | (refine wpList_store_new1 rfl 48 _ _ rfl (row 4 (dig s)) rfl rfl (by rw [row_size]; kernel_rfl) (by first | rfl | (rw [row_size, row_size]) | (simp [row_size]; done)) (row_one _ _) ?_))
    go_ret
    refine ⟨ret_bool ?_, bel_on' hb (bel_2 _ _ _)⟩
    show false = (true && (decide (andn m n = 0) && fWithin m (dig r) (dig s) 4))
    rw [decide_eq_false HZ.out]; rfl
theorem bits_has0 (p s : Nat) (hp : p < 65536) : (bits .and .i64 ((p : Int) / 2 ^ s) 1 == 0) = !p.testBit s := by
  have h := bits_has' p s hp
  have e : bits .and .i64 ((p : Int) / 2 ^ s) 1 = (((p / 2 ^ s : Nat) &&& 1 : Nat) : Int) := by
    have e : ((p : Int) / 2 ^ s) = ((p / 2 ^ s : Nat) : Int) := by
      rw [Int.natCast_ediv]
      congr 1
    rw [e]
    exact bits_and_nat (p / 2 ^ s) 1 (Nat.lt_of_le_of_lt (Nat.div_le_self _ _) hp) (by omega)
  rw [e] at h ⊢
  have h1 : (p / 2 ^ s &&& 1) ≤ 1 := Nat.and_le_right
  rw [← h]
  have : (p / 2 ^ s &&& 1) = 0 ∨ (p / 2 ^ s &&& 1) = 1 := by omega
  rcases this with h | h <;> rw [h] <;> rfl
theorem upd_upd (F : Nat → Nat) (k a b i : Nat) : upd (upd F k a) k b i = upd F k b i := by unfold upd; split <;> rfl
end Go.Proofs.YtiaeakpgldpaiaaGreat
