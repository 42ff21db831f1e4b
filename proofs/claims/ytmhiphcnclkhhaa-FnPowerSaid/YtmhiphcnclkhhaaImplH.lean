/- The program's listed functions that repeat a transformer, and the one that asks for a residual. -/
import Derived.Test.YtmhiphcnclkhhaaImplE
import Derived.Test.YtmhiphcnclkhhaaImplC
import Derived.Test.YtmhiphcnclkhhaaEq
namespace Go.Proofs.Ytmhiphcnclkhhaa
set_option linter.unusedSimpArgs false
set_option linter.unusedVariables false
set_option maxRecDepth 4000
open Go.RowKit

set_option maxHeartbeats 1000000 in
theorem i_PowerTrans (t : ByteArray) (n : Int) (w : World) : Calls Try.prog 28 #[.string t, .int .i64 n] w fun e w' => e = .returned (.tuple #[.string (optS (trOk t && nB n) (txt 16 (fPower (dig t) n.toNat))), .bool (trOk t && nB n)]) ∧ Below w.heap.size w w' := by
  cases hok : trOk t
  · go_enter Try.func28, Try.ntmps28
    go_wp2_with fail
    refine (i_readTrans _ _).mono ?_
    rw [hok]
    rintro e w1 ⟨rfl, hb⟩
    go_wp2_with (refine wpList_store_new rfl 66 _ _ rfl (row 16 (trF t)) rfl rfl (by rw [row_size]; kernel_rfl) (by first | rfl | (rw [row_size, row_size]) | (simp [row_size]; done)) (row_one _ _) ?_)
    go_ret2
    exact ⟨rfl, bel_on' hb (bel_1 _ _)⟩
  cases hn : nB n
  · have hn' : ¬ (0 ≤ n ∧ n ≤ 100) := by
      intro h
      rw [(nB_iff n).2 ⟨n.toNat, by omega, by omega⟩] at hn
      cases hn
    have HN := Lib.hid hn; clear hn
    rcases Int.lt_or_le n 0 with h | h
    · have h0 : n < 0 := h; have h1 : ¬ n > 100 := by omega
      go_enter Try.func28, Try.ntmps28
      go_wp2_with fail
      refine (i_readTrans _ _).mono ?_
      rw [hok]
      rintro e w1 ⟨rfl, hb⟩
      go_wp2_with (refine wpList_store_new rfl 66 _ _ rfl (row 16 (trF t)) rfl rfl (by rw [row_size]; kernel_rfl) (by first | rfl | (rw [row_size, row_size]) | (simp [row_size]; done)) (row_one _ _) ?_)
      go_ret2
      exact ⟨rfl, bel_on' hb (bel_1 _ _)⟩
    · have h0 : ¬ n < 0 := by omega
      have h1 : n > 100 := by omega
      go_enter Try.func28, Try.ntmps28
      go_wp2_with fail
      refine (i_readTrans _ _).mono ?_
      rw [hok]
      rintro e w1 ⟨rfl, hb⟩
      go_wp2_with (refine wpList_store_new rfl 66 _ _ rfl (row 16 (trF t)) rfl rfl (by rw [row_size]; kernel_rfl) (by first | rfl | (rw [row_size, row_size]) | (simp [row_size]; done)) (row_one _ _) ?_)
      go_ret2
      exact ⟨rfl, bel_on' hb (bel_1 _ _)⟩
  · obtain ⟨m, hm, rfl⟩ := (nB_iff n).1 hn
    have k1 := trF_ok hok
    have e0 : row 16 (fun q => 15 &&& q) = row 16 (fPower (dig t) 0) := row_congr fun q hq => all_and hq
    have K1 := Lib.hid k1; have E0 := Lib.hid e0; have HN := Lib.hid hn; clear k1 e0 hn
    go_enter Try.func28, Try.ntmps28
    go_wp2_with fail
    refine (i_readTrans _ _).mono ?_
    rw [hok, K1.out]
    rintro e w1 ⟨rfl, hb⟩
    go_wp2_with (refine wpList_store_new rfl 66 _ _ rfl (row 16 (dig t)) rfl rfl (by rw [row_size]; kernel_rfl) (by first | rfl | (rw [row_size, row_size]) | (simp [row_size]; done)) (row_one _ _) ?_)
    refine (i_assert 15 _ (by omega)).mono ?_
    rw [E0.out]
    rintro e w2 ⟨rfl, hb2⟩
    have n2 : w1.heap.size < w2.heap.size := by have := hb2.size; rw [World.size_alloc] at this; omega
    have n1 := hb.size
    go_wp2_with (refine wpList_store_new rfl 66 _ _ rfl (row 16 (fPower (dig t) 0)) rfl rfl (by rw [row_size]; kernel_rfl) (by first | rfl | (rw [row_size, row_size]) | (simp [row_size]; done)) (row_one _ _) ?_)
    have r1 := ((RowAt.fresh w1 66 (row 16 (dig t))).later hb2).alloc (.cells (row 16 (fPower (dig t) 0)) 66)
    have r2 := RowAt.fresh w2 66 (row 16 (fPower (dig t) 0))
    have hbb := bel_on' (bel_on' (bel_on' hb (bel_1 w1 (.cells (row 16 (dig t)) 66))) hb2) (bel_1 w2 (.cells (row 16 (fPower (dig t) 0)) 66))
    go_loopw [26] (fun i wr => ∃ k : Nat, k ≤ m ∧ i = .int .i64 k ∧ RowAt wr w1.heap.size 66 (row 16 (dig t)) ∧ RowAt wr w2.heap.size 66 (row 16 (fPower (dig t) k)) ∧ Below w.heap.size w wr) (fun i _ => (m - intOf i).toNat)
    case atStart => exact ⟨0, by omega, rfl, r1, r2, hbb⟩
    case round =>
      clear r1 r2 hbb
      obtain ⟨k, hk, rfl, r1, r2, hbb⟩ := hrel
      by_cases hlt : k < m
      · go_wp2_with (first | (refine wpList_load_row rfl 66 _ rfl (w1.heap.size) rfl 66 (row 16 (dig t)) (0, 0) _ r1 Try.underlying66 rfl (by rw [row_size]; kernel_rfl) ?_) | (refine wpList_load_row rfl 66 _ rfl (w2.heap.size) rfl 66 (row 16 (fPower (dig t) k)) (0, 0) _ r2 Try.underlying66 rfl (by rw [row_size]; kernel_rfl) ?_))
        refine (i_then (dig t) (fPower (dig t) k) _ (fPower_lt (dig_bd t) k)).mono ?_
        rintro e w3 ⟨rfl, hb3⟩
        have r1' := r1.later hb3
        have r2' := r2.later hb3
        have hb4 := bel_on hbb hb3 hbb.size
        go_wp2_with (refine wpList_store_row rfl 66 _ _ rfl (w2.heap.size) (row 16 (fPower (dig t) (k + 1))) rfl rfl 66 _ r2' (by rw [row_size]; kernel_rfl) (by first | rfl | (rw [row_size, row_size]) | (simp [row_size]; done)) (row_one _ _) ?_)
        go_roundw
        case rel => exact ⟨k + 1, by omega, by go_num, r1'.putOther _ (by omega), r2'.put _, bel_setRow hb4 (by omega) _⟩
        case measure => simp [intOf]; omega
      · obtain rfl : k = m := by omega
        go_wp2_with (refine wpList_load_row rfl 66 _ rfl (w2.heap.size) rfl 66 (row 16 (fPower (dig t) k)) (0, 0) _ r2 Try.underlying66 rfl (by rw [row_size]; kernel_rfl) ?_)
        refine (i_transText _ _ (fPower_lt (dig_bd t) k)).mono ?_
        rintro e w3 ⟨rfl, hb3⟩
        go_wp2_with fail
        go_ret2
        exact ⟨rfl, bel_on hbb hb3 hbb.size⟩
set_option maxHeartbeats 1000000 in
theorem i_UnrollWhile (p : Int) (t : ByteArray) (n : Int) (r : ByteArray) (w : World) : Calls Try.prog 51 #[.int .i64 p, .string t, .int .i64 n, .string r] w fun e w' => e = .returned (.tuple #[.string (optS (((trOk t && cvB p) && trOk r) && nB n) (txt 16 (fUnroll p.toNat (dig t) (dig r) n.toNat))), .bool (((trOk t && cvB p) && trOk r) && nB n)]) ∧ Below w.heap.size w w' := by
  have b0 := RowAt.fresh w 3 #[.int .i64 p]
  have c0 := b0.get 0
  cases hok : (trOk t && cvB p) <;> cases hok2 : trOk r
  case true.true =>
    cases hn : nB n
    · have hn' : ¬ (0 ≤ n ∧ n ≤ 100) := by
        intro h
        rw [(nB_iff n).2 ⟨n.toNat, by omega, by omega⟩] at hn
        cases hn
      have HN := Lib.hid hn; clear hn
      rcases Int.lt_or_le n 0 with h | h
      · have h0 : n < 0 := h; have h1 : ¬ n > 100 := by omega
        go_enter Try.func51, Try.ntmps51
        go_wp2_with fail
        refine (i_body _ _ _).mono ?_
        rw [hok]
        rintro e w1 ⟨rfl, hb⟩
        go_wp2_with (refine wpList_store_new rfl 66 _ _ rfl (row 16 (trF t)) rfl rfl (by rw [row_size]; kernel_rfl) (by first | rfl | (rw [row_size, row_size]) | (simp [row_size]; done)) (row_one _ _) ?_)
        refine (i_readTrans _ _).mono ?_
        rw [hok2]
        rintro e w2 ⟨rfl, hb2⟩
        go_wp2_with (refine wpList_store_new rfl 66 _ _ rfl (row 16 (trF r)) rfl rfl (by rw [row_size]; kernel_rfl) (by first | rfl | (rw [row_size, row_size]) | (simp [row_size]; done)) (row_one _ _) ?_)
        go_ret2
        exact ⟨rfl, bel_on' (bel_on' (bel_on' (bel_on' (bel_1 w _) hb) (bel_1 _ _)) hb2) (bel_1 _ _)⟩
      · have h0 : ¬ n < 0 := by omega
        have h1 : n > 100 := by omega
        go_enter Try.func51, Try.ntmps51
        go_wp2_with fail
        refine (i_body _ _ _).mono ?_
        rw [hok]
        rintro e w1 ⟨rfl, hb⟩
        go_wp2_with (refine wpList_store_new rfl 66 _ _ rfl (row 16 (trF t)) rfl rfl (by rw [row_size]; kernel_rfl) (by first | rfl | (rw [row_size, row_size]) | (simp [row_size]; done)) (row_one _ _) ?_)
        refine (i_readTrans _ _).mono ?_
        rw [hok2]
        rintro e w2 ⟨rfl, hb2⟩
        go_wp2_with (refine wpList_store_new rfl 66 _ _ rfl (row 16 (trF r)) rfl rfl (by rw [row_size]; kernel_rfl) (by first | rfl | (rw [row_size, row_size]) | (simp [row_size]; done)) (row_one _ _) ?_)
        go_ret2
        exact ⟨rfl, bel_on' (bel_on' (bel_on' (bel_on' (bel_1 w _) hb) (bel_1 _ _)) hb2) (bel_1 _ _)⟩
    · have g := hok
      rw [Bool.and_eq_true] at g
      obtain ⟨m, hm, rfl⟩ := (nB_iff n).1 hn
      obtain ⟨x, hx, rfl⟩ := (cvB_iff p).1 g.2
      have k1 := trF_ok g.1
      have k2 := trF_ok hok2
      have K1 := Lib.hid k1; have K2 := Lib.hid k2; have HN := Lib.hid hn; clear k1 k2 hn g
      go_enter Try.func51, Try.ntmps51
      go_wp2_with fail
      refine (i_body _ _ _).mono ?_
      rw [hok, K1.out]
      rintro e w1 ⟨rfl, hb⟩
      go_wp2_with (refine wpList_store_new rfl 66 _ _ rfl (row 16 (dig t)) rfl rfl (by rw [row_size]; kernel_rfl) (by first | rfl | (rw [row_size, row_size]) | (simp [row_size]; done)) (row_one _ _) ?_)
      refine (i_readTrans _ _).mono ?_
      rw [hok2, K2.out]
      rintro e w2 ⟨rfl, hb2⟩
      go_wp2_with (refine wpList_store_new rfl 66 _ _ rfl (row 16 (dig r)) rfl rfl (by rw [row_size]; kernel_rfl) (by first | rfl | (rw [row_size, row_size]) | (simp [row_size]; done)) (row_one _ _) ?_)
      have n1 : w.heap.size < w1.heap.size := by have := hb.size; rw [World.size_alloc] at this; omega
      have n2 : w1.heap.size < w2.heap.size := by have := hb2.size; rw [World.size_alloc] at this; omega
      have r0 := (((b0.later hb).alloc (.cells (row 16 (dig t)) 66)).later hb2).alloc (.cells (row 16 (dig r)) 66)
      have r1 := ((RowAt.fresh w1 66 (row 16 (dig t))).later hb2).alloc (.cells (row 16 (dig r)) 66)
      have r2 := RowAt.fresh w2 66 (row 16 (dig r))
      have hbb := bel_on' (bel_on' (bel_on' (bel_on' (bel_1 w (.cells #[.int .i64 (x : Int)] 3)) hb) (bel_1 w1 (.cells (row 16 (dig t)) 66))) hb2) (bel_1 w2 (.cells (row 16 (dig r)) 66))
      clear b0 c0
      go_loopw [41] (fun i wr => ∃ k : Nat, k ≤ m ∧ i = .int .i64 k ∧ RowAt wr w.heap.size 3 #[.int .i64 (x : Int)] ∧ RowAt wr w1.heap.size 66 (row 16 (dig t)) ∧ RowAt wr w2.heap.size 66 (row 16 (fUnroll x (dig t) (dig r) k)) ∧ Below w.heap.size w wr) (fun i _ => (m - intOf i).toNat)
      case atStart => exact ⟨0, by omega, rfl, r0, r1, r2, hbb⟩
      case round =>
        clear r0 r1 r2 hbb hb hb2
        obtain ⟨k, hk, rfl, r0, r1, r2, hbb⟩ := hrel
        by_cases hlt : k < m
        · go_wp2_with (first | (refine wpList_load_row rfl 66 _ rfl (w2.heap.size) rfl 66 (row 16 (fUnroll x (dig t) (dig r) k)) (0, 0) _ r2 Try.underlying66 rfl (by rw [row_size]; kernel_rfl) ?_) | (refine wpList_store_new rfl 66 _ _ rfl (row 16 (fUnroll x (dig t) (dig r) k)) rfl rfl (by rw [row_size]; kernel_rfl) (by first | rfl | (rw [row_size, row_size]) | (simp [row_size]; done)) (row_one _ _) ?_))
          have hbf := fn_unroll (wr.alloc (.cells (row 16 (fUnroll x (dig t) (dig r) k)) 66)) w.heap.size w1.heap.size wr.heap.size x (dig t) (fUnroll x (dig t) (dig r) k) (dig_lt t) (fUnroll_lt hx (dig_bd r) k) hx (r0.alloc _) (r1.alloc _) (RowAt.fresh _ _ _)
          refine (i_makeTrans _ _ _ hbf).mono ?_
          rintro e w3 ⟨rfl, hb3⟩
          have r0' := (r0.alloc (.cells (row 16 (fUnroll x (dig t) (dig r) k)) 66)).later hb3
          have r1' := (r1.alloc (.cells (row 16 (fUnroll x (dig t) (dig r) k)) 66)).later hb3
          have r2' := (r2.alloc (.cells (row 16 (fUnroll x (dig t) (dig r) k)) 66)).later hb3
          have hs := hbb.size
          have hb4 := bel_on (hbb.alloc hbb.size (.cells (row 16 (fUnroll x (dig t) (dig r) k)) 66)) hb3 (by simp; omega)
          go_wp2_with (refine wpList_store_row rfl 66 _ _ rfl (w2.heap.size) (row 16 (fUnroll x (dig t) (dig r) (k + 1))) rfl rfl 66 _ r2' (by rw [row_size]; kernel_rfl) (by first | rfl | (rw [row_size, row_size]) | (simp [row_size]; done)) (row_one _ _) ?_)
          go_roundw
          case rel => exact ⟨k + 1, by omega, by go_num, r0'.putOther _ (by omega), r1'.putOther _ (by omega), r2'.put _, bel_setRow hb4 (by omega) _⟩
          case measure => simp [intOf]; omega
        · obtain rfl : k = m := by omega
          go_wp2_with (refine wpList_load_row rfl 66 _ rfl (w2.heap.size) rfl 66 (row 16 (fUnroll x (dig t) (dig r) k)) (0, 0) _ r2 Try.underlying66 rfl (by rw [row_size]; kernel_rfl) ?_)
          refine (i_transText _ _ (fUnroll_lt hx (dig_bd r) k)).mono ?_
          rintro e w3 ⟨rfl, hb3⟩
          go_wp2_with fail
          go_ret2
          exact ⟨rfl, bel_on hbb hb3 hbb.size⟩
  all_goals
    go_enter Try.func51, Try.ntmps51
    go_wp2_with fail
    refine (i_body _ _ _).mono ?_
    rw [hok]
    rintro e w1 ⟨rfl, hb⟩
    go_wp2_with (refine wpList_store_new rfl 66 _ _ rfl (row 16 (trF t)) rfl rfl (by rw [row_size]; kernel_rfl) (by first | rfl | (rw [row_size, row_size]) | (simp [row_size]; done)) (row_one _ _) ?_)
    refine (i_readTrans _ _).mono ?_
    rw [hok2]
    rintro e w2 ⟨rfl, hb2⟩
    go_wp2_with (refine wpList_store_new rfl 66 _ _ rfl (row 16 (trF r)) rfl rfl (by rw [row_size]; kernel_rfl) (by first | rfl | (rw [row_size, row_size]) | (simp [row_size]; done)) (row_one _ _) ?_)
    go_ret2
    exact ⟨rfl, bel_on' (bel_on' (bel_on' (bel_on' (bel_1 w _) hb) (bel_1 _ _)) hb2) (bel_1 _ _)⟩
end Go.Proofs.Ytmhiphcnclkhhaa
