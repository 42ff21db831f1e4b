/- The program's listed functions on specifications and codes. -/
import Derived.Test.YtiaeakpgldpaiaaQJ3
import Derived.Test.YtiaeakpgldpaiaaQImplS
namespace Go.Proofs.Ytiaeakpgldpaiaa
set_option linter.unusedSimpArgs false
set_option linter.unusedVariables false
set_option maxRecDepth 4000
open Go.RowKit

theorem specs_ok (a b c d : Bool) : (((a && b) && c) && d) = ((c && a) && (d && b)) := by cases a <;> cases b <;> cases c <;> cases d <;> rfl
theorem i_CodeSpec (p : Int) (r : ByteArray) (w : World) (hr : r.size ≤ 1048576) : Calls Try.prog 80 #[.int .i64 p, .string r] w fun e w' => e = .returned (.tuple #[.string (optS (cvB p && relOk r) (fCode p.toNat r)), .bool (cvB p && relOk r)]) ∧ Below w.heap.size w w' := by
  cases hp : cvB p
  · go_enter Try.func80, Try.ntmps80
    go_wp2_with (go_at_call 56; refine (i_ConditionValid _ _).mono ?_; rw [hp]; rintro e w' ⟨rfl, rfl⟩)
    go_ret2
    exact ⟨rfl, Below.refl _ _⟩
  · obtain ⟨n, hn, rfl⟩ := (cvB_iff p).1 hp
    cases hk : relOk r
    · go_enter Try.func80, Try.ntmps80
      go_wp2_with (first | (go_at_call 56; refine (i_ConditionValid _ _).mono ?_; rw [hp]; rintro e w' ⟨rfl, rfl⟩) | (go_at_call 169; refine (i_RelValid _ _).mono ?_; rw [hk]; rintro e w1 ⟨rfl, hb⟩))
      go_ret2
      exact ⟨rfl, hb⟩
    · go_enter Try.func80, Try.ntmps80
      go_wp2_with (first | (go_at_call 56; refine (i_ConditionValid _ _).mono ?_; rw [hp]; rintro e w' ⟨rfl, rfl⟩) | (go_at_call 169; refine (i_RelValid _ _).mono ?_; rw [hk]; rintro e w1 ⟨rfl, hb⟩) | (go_at_call 166; refine (i_digit _ _ hn).mono ?_; rintro e w' ⟨rfl, rfl⟩))
      go_ret2
      exact ⟨rfl, hb⟩
theorem i_AssignCode (s t : Int) (w : World) : Calls Try.prog 165 #[.int .i64 s, .int .i64 t] w fun e w' => e = .returned (.tuple #[.string (optS (stB s && stB t) (fAssign s.toNat t.toNat)), .bool (stB s && stB t)]) ∧ Below w.heap.size w w' := by
  cases hs : stB s <;> cases ht : stB t
  case true.true =>
    obtain ⟨s, h1, rfl⟩ := (stB_iff s).1 hs
    obtain ⟨t, h2, rfl⟩ := (stB_iff t).1 ht
    have r1 := (RowAt.fresh w 3 #[.int .i64 (s : Int)]).alloc (.cells #[.int .i64 (t : Int)] 3)
    have r2 := RowAt.fresh1 w (.cells #[.int .i64 (s : Int)] 3) 3 #[.int .i64 (t : Int)]
    have c1 := r1.get 0
    have c2 := r2.get 0
    go_enter Try.func165, Try.ntmps165
    go_wp2_with (first | (go_at_call 162; refine (i_stateOk _ _).mono ?_; (first | rw [hs] | rw [ht]); rintro e w' ⟨rfl, rfl⟩))
    have hlt : ∀ i, i < 4 → mkC (fAsg s t i) 4 < 16 := fun i _ => mkC_lt16 _
    refine (i_makeRel _ _ _ (fn_assign _ _ _ s t r1 r2)).mono ?_
    rintro e w1 ⟨rfl, hb⟩
    have rx := RowAt.fresh w1 68 (row 4 (fun a => mkC (fAsg s t a) 4))
    have hz : (txt 4 (fun a => mkC (fAsg s t a) 4)).size ≤ 4 := Nat.le_of_eq (txt_size _ _)
    have e0 : (⟨#[65]⟩ : ByteArray) ++ txt 4 (fun a => mkC (fAsg s t a) 4) = fAssign s t := by
      unfold fAssign sA
      rw [txt_congr fun i hi => fAsg_mk i hi h2]
    have E0 := Lib.hid e0; clear e0
    have HL := Lib.hid hlt; clear hlt
    go_wp2_with (first | (refine wpList_store_new rfl 68 _ _ rfl (row 4 (fun a => mkC (fAsg s t a) 4)) rfl rfl (by rw [row_size]; kernel_rfl) (by first | rfl | (rw [row_size, row_size]) | (simp [row_size]; done)) (row_one _ _) ?_) | (refine wpList_load_row rfl 68 _ rfl (w1.heap.size) rfl 68 (row 4 (fun a => mkC (fAsg s t a) 4)) (0, 0) _ rx Try.underlying68 rfl (by rw [row_size]; kernel_rfl) ?_))
    refine (i_relText _ _ HL.out).mono ?_
    rintro e w2 ⟨rfl, hb2⟩
    go_wp2_with fail
    go_ret2
    exact ⟨ret_sb E0.out rfl, bel_on' (bel_on' (bel_on' (bel_2 w _ _) hb) (bel_1 _ _)) hb2⟩
  all_goals
    go_enter Try.func165, Try.ntmps165
    go_wp2_with (go_at_call 162; refine (i_stateOk _ _).mono ?_; (first | rw [hs] | rw [ht]); rintro e w' ⟨rfl, rfl⟩)
    go_ret2
    exact ⟨rfl, bel_2 w _ _⟩
set_option maxHeartbeats 1000000 in
theorem i_SpecWeaker (p : Int) (r : ByteArray) (q : Int) (s : ByteArray) (w : World) : Calls Try.prog 22 #[.int .i64 p, .string r, .int .i64 q, .string s] w fun e w' => e = .returned (.bool ((cvB p && relOk r) && (cvB q && relOk s) && (decide (andn q.toNat p.toNat = 0) && fWithin q.toNat (dig r) (dig s) 4))) ∧ Below w.heap.size w w' := by
  cases hok : ((cvB p && relOk r) && (cvB q && relOk s))
  · go_enter Try.func22, Try.ntmps22
    go_wp2_with fail
    refine (i_specs _ _ _ _ _).mono ?_
    rw [specs_ok, hok]
    rintro e w1 ⟨rfl, hb⟩
    go_wp2_with (first | (refine wpList_store_new2 rfl 68 _ _ rfl (row 4 (relF r)) rfl rfl (by rw [row_size]; kernel_rfl) (by first | rfl | (rw [row_size, row_size]) | (simp [row_size]; done)) (row_one _ _) ?_) | (refine wpList_store_new1 rfl 68 _ _ rfl (row 4 (relF s)) rfl rfl (by rw [row_size]; kernel_rfl) (by first | rfl | (rw [row_size, row_size]) | (simp [row_size]; done)) (row_one _ _) ?_))
    go_ret
    exact ⟨rfl, bel_on' hb (bel_2 _ _ _)⟩
  have g := hok
  rw [Bool.and_eq_true, Bool.and_eq_true, Bool.and_eq_true] at g
  obtain ⟨n, hn, rfl⟩ := (cvB_iff p).1 g.1.1
  obtain ⟨m, hm, rfl⟩ := (cvB_iff q).1 g.2.1
  have k1 := relF_ok g.1.2
  have k2 := relF_ok g.2.2
  have K1 := Lib.hid k1; have K2 := Lib.hid k2; clear k1 k2 g
  have e1 := bits_andn_nat m n hm hn
  by_cases hz : andn m n = 0
  · have b1 : ((andn m n : Int) != 0) = false := by simp [hz]
    have HZ := Lib.hid hz; clear hz
    go_enter Try.func22, Try.ntmps22
    go_wp2_with fail
    refine (i_specs _ _ _ _ _).mono ?_
    rw [specs_ok, hok, K1.out, K2.out]
    rintro e w1 ⟨rfl, hb⟩
    go_wp2_with (first | (refine wpList_store_new2 rfl 68 _ _ rfl (row 4 (dig r)) rfl rfl (by rw [row_size]; kernel_rfl) (by first | rfl | (rw [row_size, row_size]) | (simp [row_size]; done)) (row_one _ _) ?_) | (refine wpList_store_new1 rfl 68 _ _ rfl (row 4 (dig s)) rfl rfl (by rw [row_size]; kernel_rfl) (by first | rfl | (rw [row_size, row_size]) | (simp [row_size]; done)) (row_one _ _) ?_))
    have r1 := (RowAt.fresh w1 68 (row 4 (dig r))).alloc (.cells (row 4 (dig s)) 68)
    have r2 := RowAt.fresh1 w1 (.cells (row 4 (dig r)) 68) 68 (row 4 (dig s))
    have hbb := bel_on' hb (bel_2 w1 (.cells (row 4 (dig r)) 68) (.cells (row 4 (dig s)) 68))
    go_loopw [30] (fun t wr => ∃ k : Nat, k ≤ 4 ∧ t = .int .i64 k ∧ Hid (fWithin m (dig r) (dig s) k = true) ∧ RowAt wr w1.heap.size 68 (row 4 (dig r)) ∧ RowAt wr (w1.heap.size + 1) 68 (row 4 (dig s)) ∧ Below w.heap.size w wr) (fun t _ => (4 - intOf t).toNat)
    case atStart => exact ⟨0, by omega, rfl, Lib.hid rfl, r1, r2, hbb⟩
    case round =>
      clear r1 r2 hbb hb
      obtain ⟨k, hk, rfl, HW, r1, r2, hbb⟩ := hrel
      by_cases hlt : k < 4
      · have e2 := bits_andn_nat (dig r k) (dig s k) (dig_lt _ _) (dig_lt _ _)
        have c1 := r1.cell k hlt
        have c2 := r2.cell k hlt
        have i1 := lt_cast hlt
        have hbit := bits_has' m k (by omega)
        cases ht : m.testBit k
        · rw [ht] at hbit
          have HT := Lib.hid ht; clear ht
          go_wp2_with fail
          go_quiet (fail)
          go_wp2_with fail
          go_roundw
          case rel => exact ⟨k + 1, by omega, by go_num, Lib.hid (fWithin_succ HW.out fun h => by rw [HT.out] at h; cases h), r1.drewN _, r2.drewN _, bel_drewN hbb _⟩
          case measure => simp [intOf]; omega
        · rw [ht] at hbit
          have HT := Lib.hid ht; clear ht
          by_cases hy : andn (dig r k) (dig s k) = 0
          · have b2 : ((andn (dig r k) (dig s k) : Int) != 0) = false := by simp [hy]
            have HY := Lib.hid hy; clear hy
            go_wp2_with fail
            go_quiet (fail)
            go_wp2_with fail
            go_roundw
            case rel => exact ⟨k + 1, by omega, by go_num, Lib.hid (fWithin_succ HW.out fun _ => HY.out), r1.drewN _, r2.drewN _, bel_drewN hbb _⟩
            case measure => simp [intOf]; omega
          · have b2 : ((andn (dig r k) (dig s k) : Int) != 0) = true := by rw [bne_iff_ne]; omega
            have HY := Lib.hid hy; clear hy
            go_wp2_with fail
            go_quiet (fail)
            go_wp2_with fail
            go_ret
            refine ⟨ret_bool ?_, bel_drewN hbb _⟩
            show false = (true && (decide (andn m n = 0) && fWithin m (dig r) (dig s) 4))
            rw [fWithin_no hlt HT.out HY.out, Bool.and_false]; rfl
      · obtain rfl : k = 4 := by omega
        go_wp2_with fail
        go_ret
        refine ⟨ret_bool ?_, hbb⟩
        show true = (true && (decide (andn m n = 0) && fWithin m (dig r) (dig s) 4))
        rw [HW.out, HZ.out]; rfl
  · have b1 : ((andn m n : Int) != 0) = true := by rw [bne_iff_ne]; omega
    have HZ := Lib.hid hz; clear hz
    go_enter Try.func22, Try.ntmps22
    go_wp2_with fail
    refine (i_specs _ _ _ _ _).mono ?_
    rw [specs_ok, hok, K1.out, K2.out]
    rintro e w1 ⟨rfl, hb⟩
    go_wp2_with (first | (refine wpList_store_new2 rfl 68 _ _ rfl (row 4 (dig r)) rfl rfl (by rw [row_size]; kernel_rfl) (by first | rfl | (rw [row_size, row_size]) | (simp [row_size]; done)) (row_one _ _) ?_) | (refine wpList_store_new1 rfl 68 _ _ rfl (row 4 (dig s)) rfl rfl (by rw [row_size]; kernel_rfl) (by first | rfl | (rw [row_size, row_size]) | (simp [row_size]; done)) (row_one _ _) ?_))
    go_ret
    refine ⟨ret_bool ?_, bel_on' hb (bel_2 _ _ _)⟩
    show false = (true && (decide (andn m n = 0) && fWithin m (dig r) (dig s) 4))
    rw [decide_eq_false HZ.out]; rfl
theorem bits_has0 (p s : Nat) (hp : p < 65536) : (bits .and .i64 ((p : Int) / 2 ^ s) 1 == 0) = !p.testBit s := by
  have h := bits_has' p s hp
  have e : bits .and .i64 ((p : Int) / 2 ^ s) 1 = (((p / 2 ^ s : Nat) &&& 1 : Nat) : Int) := by
    have e : ((p : Int) / 2 ^ s) = ((p / 2 ^ s : Nat) : Int) := by
      rw [Int.natCast_ediv]
      congr 1
    rw [e]
    exact bits_and_nat (p / 2 ^ s) 1 (Nat.lt_of_le_of_lt (Nat.div_le_self _ _) hp) (by omega)
  rw [e] at h ⊢
  have h1 : (p / 2 ^ s &&& 1) ≤ 1 := Nat.and_le_right
  rw [← h]
  have : (p / 2 ^ s &&& 1) = 0 ∨ (p / 2 ^ s &&& 1) = 1 := by omega
  rcases this with h | h <;> rw [h] <;> rfl
theorem upd_upd (F : Nat → Nat) (k a b i : Nat) : upd (upd F k a) k b i = upd F k b i := by unfold upd; split <;> rfl
set_option maxHeartbeats 1000000 in
theorem i_SpecMeet (p : Int) (r : ByteArray) (q : Int) (s : ByteArray) (w : World) : Calls Try.prog 15 #[.int .i64 p, .string r, .int .i64 q, .string s] w fun e w' => e = .returned (.tuple #[.int .i64 ((if (cvB p && relOk r) && (cvB q && relOk s) then p.toNat ||| q.toNat else 0 : Nat) : Int), .string (optS ((cvB p && relOk r) && (cvB q && relOk s)) (txt 4 (fMeetRel p.toNat q.toNat (dig r) (dig s)))), .bool ((cvB p && relOk r) && (cvB q && relOk s))]) ∧ Below w.heap.size w w' := by
  cases hok : ((cvB p && relOk r) && (cvB q && relOk s))
  · go_enter Try.func15, Try.ntmps15
    go_wp2_with fail
    refine (i_specs _ _ _ _ _).mono ?_
    rw [specs_ok, hok]
    rintro e w1 ⟨rfl, hb⟩
    go_wp2_with (first | (refine wpList_store_new2 rfl 68 _ _ rfl (row 4 (relF r)) rfl rfl (by rw [row_size]; kernel_rfl) (by first | rfl | (rw [row_size, row_size]) | (simp [row_size]; done)) (row_one _ _) ?_) | (refine wpList_store_new1 rfl 68 _ _ rfl (row 4 (relF s)) rfl rfl (by rw [row_size]; kernel_rfl) (by first | rfl | (rw [row_size, row_size]) | (simp [row_size]; done)) (row_one _ _) ?_))
    go_ret3
    exact ⟨rfl, bel_on' hb (bel_2 _ _ _)⟩
  have g := hok
  rw [Bool.and_eq_true, Bool.and_eq_true, Bool.and_eq_true] at g
  obtain ⟨n, hn, rfl⟩ := (cvB_iff p).1 g.1.1
  obtain ⟨m, hm, rfl⟩ := (cvB_iff q).1 g.2.1
  have k1 := relF_ok g.1.2
  have k2 := relF_ok g.2.2
  have K1 := Lib.hid k1; have K2 := Lib.hid k2; clear k1 k2 g
  have e1 := bits_or_nat n m (by omega) (by omega)
  have hnm := or_lt hn hm
  have hlt : ∀ i, i < 4 → fMeetRel n m (dig r) (dig s) i < 16 := fun i _ => by
    unfold fMeetRel; split
    · exact and_lt (dig_lt _ _)
    · split
      · exact dig_lt _ _
      · split
        · exact dig_lt _ _
        · omega
  have HL := Lib.hid hlt; clear hlt
  go_enter Try.func15, Try.ntmps15
  go_wp2_with fail
  refine (i_specs _ _ _ _ _).mono ?_
  rw [specs_ok, hok, K1.out, K2.out]
  rintro e w1 ⟨rfl, hb⟩
  go_wp2_with (first | (refine wpList_store_new2 rfl 68 _ _ rfl (row 4 (dig r)) rfl rfl (by rw [row_size]; kernel_rfl) (by first | rfl | (rw [row_size, row_size]) | (simp [row_size]; done)) (row_one _ _) ?_) | (refine wpList_store_new1 rfl 68 _ _ rfl (row 4 (dig s)) rfl rfl (by rw [row_size]; kernel_rfl) (by first | rfl | (rw [row_size, row_size]) | (simp [row_size]; done)) (row_one _ _) ?_))
  have r1 := ((RowAt.fresh w1 68 (row 4 (dig r))).alloc (.cells (row 4 (dig s)) 68)).alloc (.cells (row 4 (fun _ => 0)) 68)
  have r2 := (RowAt.fresh1 w1 (.cells (row 4 (dig r)) 68) 68 (row 4 (dig s))).alloc (.cells (row 4 (fun _ => 0)) 68)
  have r3 := RowAt.fresh2 w1 (.cells (row 4 (dig r)) 68) (.cells (row 4 (dig s)) 68) 68 (row 4 (fun _ => 0))
  have hbb := bel_on' hb (bel_3 w1 (.cells (row 4 (dig r)) 68) (.cells (row 4 (dig s)) 68) (.cells (row 4 (fun _ => 0)) 68))
  have hs := hb.size
  go_loopw [28] (fun t wr => ∃ k : Nat, k ≤ 4 ∧ t = .int .i64 k ∧ RowAt wr w1.heap.size 68 (row 4 (dig r)) ∧ RowAt wr (w1.heap.size + 1) 68 (row 4 (dig s)) ∧ RowAt wr (w1.heap.size + 1 + 1) 68 (row 4 (fun i => if i < k then fMeetRel n m (dig r) (dig s) i else 0)) ∧ Below w.heap.size w wr) (fun t _ => (4 - intOf t).toNat)
  case atStart => exact ⟨0, by omega, rfl, r1, r2, r3, hbb⟩
  case round =>
    clear r1 r2 r3 hbb hb
    obtain ⟨k, hk, rfl, r1, r2, r3, hbb⟩ := hrel
    by_cases hlt : k < 4
    · have c1 := r1.cell k hlt
      have c2 := r2.cell k hlt
      have c3 := r3.cell k hlt
      have f3 := r3.free k
      have i1 := lt_cast hlt
      have e2 : bits .and .i64 15 (dig r k : Int) = (dig r k : Int) := by rw [show (15 : Int) = ((15 : Nat) : Int) from rfl, bits_and_nat 15 (dig r k) (by omega) (by have := dig_lt r k; omega), all_and (dig_lt _ _)]
      have e3 : bits .and .i64 15 (dig s k : Int) = (dig s k : Int) := by rw [show (15 : Int) = ((15 : Nat) : Int) from rfl, bits_and_nat 15 (dig s k) (by omega) (by have := dig_lt s k; omega), all_and (dig_lt _ _)]
      have e4 := bits_and_nat (dig r k) (dig s k) (by have := dig_lt r k; omega) (by have := dig_lt s k; omega)
      have hb0 := bits_has0 (n ||| m) k (by omega)
      have hbp := bits_has' n k (by omega)
      have hbq := bits_has' m k (by omega)
      rw [Nat.testBit_or] at hb0
      have hF : fMeetRel n m (dig r) (dig s) k = if n.testBit k && m.testBit k then dig r k &&& dig s k else if n.testBit k then dig r k else if m.testBit k then dig s k else 0 := rfl
      have keep : ∀ (v : Nat) (i : Nat), fMeetRel n m (dig r) (dig s) k = v → upd (fun i => if i < k then fMeetRel n m (dig r) (dig s) i else 0) k v i = if i < k + 1 then fMeetRel n m (dig r) (dig s) i else 0 := by
        intro v i hv
        show (if i = k then v else if i < k then fMeetRel n m (dig r) (dig s) i else 0) = _
        by_cases h1 : i = k
        · rw [if_pos h1, if_pos (by omega), h1]; exact hv.symm
        · rw [if_neg h1]
          by_cases h2 : i < k
          · rw [if_pos h2, if_pos (by omega)]
          · rw [if_neg h2, if_neg (by omega)]
      have KEEP := Lib.hid keep; clear keep
      cases hp : n.testBit k <;> cases hq : m.testBit k
      all_goals
        simp only [hp, hq, Bool.or_self, Bool.or_true, Bool.or_false, Bool.not_true, Bool.not_false, Bool.and_self, Bool.and_false, Bool.false_and, Bool.and_true, Bool.true_and, if_true, if_false, Bool.false_eq_true] at hb0 hbp hbq hF
        have HF := Lib.hid hF; have HP := Lib.hid hp; have HQ := Lib.hid hq; clear hF hp hq
        go_wp2_with fail
      · go_roundw
        case rel => exact ⟨k + 1, by omega, by go_num, r1, r2, r3.of (row_congr fun i hi => by
          by_cases h2 : i < k
          · rw [if_pos h2, if_pos (by omega)]
          · rw [if_neg h2]
            by_cases h3 : i < k + 1
            · obtain rfl : i = k := by omega
              rw [if_pos h3, HF.out]
            · rw [if_neg h3]), hbb⟩
        case measure => simp [intOf]; omega
      · go_region
        all_goals
          go_wp2_with fail
          go_roundw
          case rel => exact ⟨k + 1, by omega, by go_num, ((r1.other _ _ (by simp; omega)).other _ _ (by simp; omega)).drew, ((r2.other _ _ (by simp)).other _ _ (by simp)).drew, (((r3.set k 15).set k (dig s k)).of (row_congr fun i _ => by rw [upd_upd]; exact KEEP.out _ i HF.out)).drew, ((hbb.setCell (by simp; omega) _).setCell (by simp; omega) _).drew⟩
          case measure => simp [intOf]; omega
      · go_region
        all_goals
          go_wp2_with fail
          go_roundw
          case rel => exact ⟨k + 1, by omega, by go_num, ((r1.other _ _ (by simp; omega)).other _ _ (by simp; omega)).drew, ((r2.other _ _ (by simp)).other _ _ (by simp)).drew, (((r3.set k 15).set k (dig r k)).of (row_congr fun i _ => by rw [upd_upd]; exact KEEP.out _ i HF.out)).drew, ((hbb.setCell (by simp; omega) _).setCell (by simp; omega) _).drew⟩
          case measure => simp [intOf]; omega
      · go_region
        all_goals
          go_wp2_with fail
          go_region
        all_goals
          go_wp2_with fail
          go_roundw
          case rel => exact ⟨k + 1, by omega, by go_num, (((r1.other _ _ (by simp; omega)).other _ _ (by simp; omega)).other _ _ (by simp; omega)).drew.drew, (((r2.other _ _ (by simp)).other _ _ (by simp)).other _ _ (by simp)).drew.drew, ((((r3.set k 15).set k (dig r k)).set k (dig r k &&& dig s k)).of (row_congr fun i _ => by rw [upd_upd, upd_upd]; exact KEEP.out _ i HF.out)).drew.drew, (((hbb.setCell (by simp; omega) _).setCell (by simp; omega) _).setCell (by simp; omega) _).drew.drew⟩
          case measure => simp [intOf]; omega
    · obtain rfl : k = 4 := by omega
      have r3 := r3.of (row_congr (G := fMeetRel n m (dig r) (dig s)) (fun i hi => by simp [hi]))
      go_wp2_with (refine wpList_load_row rfl 68 _ rfl (w1.heap.size + 1 + 1) rfl 68 (row 4 (fMeetRel n m (dig r) (dig s))) (0, 0) _ r3 Try.underlying68 rfl (by rw [row_size]; kernel_rfl) ?_)
      refine (i_relText _ _ HL.out).mono ?_
      rintro e w2 ⟨rfl, hb2⟩
      go_wp2_with fail
      go_ret3
      exact ⟨rfl, bel_on' hbb hb2⟩
end Go.Proofs.Ytiaeakpgldpaiaa
