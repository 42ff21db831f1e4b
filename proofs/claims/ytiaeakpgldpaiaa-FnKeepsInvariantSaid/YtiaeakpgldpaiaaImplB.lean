/- The program's texts of relations and transformers, and what reads them. -/
import Derived.Test.YtiaeakpgldpaiaaImplA
namespace Go.Proofs.Ytiaeakpgldpaiaa
set_option linter.unusedSimpArgs false
set_option linter.unusedVariables false
set_option maxRecDepth 4000
open Go.RowKit

set_option maxHeartbeats 400000 in
theorem i_transText (F : Nat → Nat) (w : World) (hF : ∀ i, i < 16 → F i < 16) : Calls Try.prog 103 #[.agg (row 16 F)] w fun e w' => e = .returned (.string (txt 16 F)) ∧ Below w.heap.size w w' := by
  have hrow := RowAt.fresh w 77 (row 16 F)
  go_enter Try.func103, Try.ntmps103
  go_wp2_with (refine wpList_load_row rfl 77 _ rfl w.heap.size rfl 77 (row 16 F) (0, 0) _ hrow Try.underlying77 rfl (by rw [row_size]; kernel_rfl) ?_)
  go_loopw [3, 7] (fun o t wr => ∃ k : Nat, k ≤ 16 ∧ t = .int .i64 k ∧ o = .string (txt k F) ∧ Below w.heap.size w wr) (fun _ t _ => (16 - intOf t).toNat)
  case atStart => exact ⟨0, by omega, rfl, rfl, (Below.refl _ _).alloc (Nat.le_refl _) _⟩
  case round =>
    obtain ⟨k, hk, rfl, rfl, hb⟩ := hrel
    by_cases hlt : k < 16
    · have ht := txt_snoc k F
      have hz : (txt k F).size ≤ 16 := by rw [txt_size]; exact hk
      have hi := fun w => run_index_row (P := Try.prog) (F := F) (T := 77) Try.underlying77 Try.underlying3 (by kernel_rfl) hlt w
      have HT := Lib.hid ht; clear ht
      have hFk := hF k hlt
      have HF := Lib.hid hF; clear hF
      go_wp2_with (go_at_call 166; refine (i_digit _ _ hFk).mono ?_; rintro e w' ⟨rfl, rfl⟩)
      go_roundw
      case rel => exact ⟨k + 1, by omega, by go_num, by rw [← HT.out], hb⟩
      case measure => simp [intOf]; omega
    · obtain rfl : k = 16 := by omega
      go_wp2
      go_ret
      exact ⟨rfl, hb⟩
set_option maxHeartbeats 400000 in
theorem i_relText (F : Nat → Nat) (w : World) (hF : ∀ i, i < 4 → F i < 16) : Calls Try.prog 96 #[.agg (row 4 F)] w fun e w' => e = .returned (.string (txt 4 F)) ∧ Below w.heap.size w w' := by
  have hrow := RowAt.fresh w 68 (row 4 F)
  go_enter Try.func96, Try.ntmps96
  go_wp2_with (refine wpList_load_row rfl 68 _ rfl w.heap.size rfl 68 (row 4 F) (0, 0) _ hrow Try.underlying68 rfl (by rw [row_size]; kernel_rfl) ?_)
  go_loopw [3, 7] (fun o t wr => ∃ k : Nat, k ≤ 4 ∧ t = .int .i64 k ∧ o = .string (txt k F) ∧ Below w.heap.size w wr) (fun _ t _ => (4 - intOf t).toNat)
  case atStart => exact ⟨0, by omega, rfl, rfl, (Below.refl _ _).alloc (Nat.le_refl _) _⟩
  case round =>
    obtain ⟨k, hk, rfl, rfl, hb⟩ := hrel
    by_cases hlt : k < 4
    · have ht := txt_snoc k F
      have hz : (txt k F).size ≤ 4 := by rw [txt_size]; exact hk
      have hi := fun w => run_index_row (P := Try.prog) (F := F) (T := 68) Try.underlying68 Try.underlying3 (by kernel_rfl) hlt w
      have HT := Lib.hid ht; clear ht
      have hFk := hF k hlt
      have HF := Lib.hid hF; clear hF
      go_wp2_with (go_at_call 166; refine (i_digit _ _ hFk).mono ?_; rintro e w' ⟨rfl, rfl⟩)
      go_roundw
      case rel => exact ⟨k + 1, by omega, by go_num, by rw [← HT.out], hb⟩
      case measure => simp [intOf]; omega
    · obtain rfl : k = 4 := by omega
      go_wp2
      go_ret
      exact ⟨rfl, hb⟩
set_option maxHeartbeats 1000000 in
theorem i_readRel (s : ByteArray) (w : World) : Calls Try.prog 101 #[.string s] w fun e w' => e = .returned (.tuple #[.agg (row 4 (relF s)), .bool (relOk s)]) ∧ Below w.heap.size w w' := by
  by_cases hs : s.size = 4
  · have hs1 : s.size ≤ 4 := Nat.le_of_eq hs
    have hs2 : 4 ≤ s.size := Nat.le_of_eq hs.symm
    have hb : ((s.size : Int) != 4) = false := by simp [hs]
    have HS := Lib.hid hs; clear hs
    go_enter Try.func101, Try.ntmps101
    go_wp2
    go_loopw [11] (fun t wr => ∃ k : Nat, k ≤ 4 ∧ t = .int .i64 k ∧ Hid (hexTo s k = true) ∧ RowAt wr (w.heap.size + 1) 68 (row 4 (fun i => if i < k then dig s i else 0)) ∧ RowAt wr w.heap.size 68 (row 4 (fun _ => 0)) ∧ Below w.heap.size w wr) (fun t _ => (4 - intOf t).toNat)
    case atStart => exact ⟨0, by omega, rfl, Lib.hid rfl, RowAt.fresh1 _ _ _ _, (RowAt.fresh _ _ _).alloc _, ((Below.refl _ _).alloc (Nat.le_refl _) _).alloc (by simp) _⟩
    case round =>
      obtain ⟨k, hk, rfl, HX, hr1, hr0, hbel⟩ := hrel
      by_cases hlt : k < 4
      · have hlt' : k < s.size := by omega
        have hg := byt_get s k hlt'
        have HG := Lib.hid hg; clear hg
        have hc := hr1.cell k hlt
        have hf := hr1.free k
        by_cases hneg : hexVal s[k] < 0
        · have hr0' := hr0.other ⟨w.heap.size + 1, k, none⟩ (.int .i64 (hexVal s[k])) (by simp)
          go_wp2_with (first | (go_at_call 180; refine (i_digitOf _ _).mono ?_; rintro e w' ⟨rfl, rfl⟩) | (refine wpList_store_row rfl 68 _ _ rfl (w.heap.size) (row 4 (fun _ => 0)) rfl rfl 68 _ hr0' (by rw [row_size]; kernel_rfl) (by first | rfl | (rw [row_size, row_size]) | (simp [row_size]; done)) (row_one _ _) ?_))
          have hX : hexAll s = false := by
            unfold hexAll
            exact hexTo_false hlt' (by rw [← HG.out]; exact hneg)
          have ho : relOk s = false := by unfold relOk; rw [hX]; rfl
          have hr := hr0'.put (row 4 (fun _ => 0))
          refine bodyPost_ret (v := .tuple #[.agg (row 4 (fun _ => 0)), .bool false]) (results_row_b rfl _ _ w.heap.size 68 _ _ _ rfl rfl hr Try.underlying68 rfl (by rw [row_size]; kernel_rfl)) rfl ⟨?_, ?_⟩
          · rw [ho, row_congr (G := relF s) fun i _ => by simp [relF, ho]]
          · exact bel_setRow (hbel.setCell (by simp) _) (Nat.le_refl _) _
        · have hv : hexVal s[k] = (dig s k : Int) := by rw [HG.out]; exact hexVal_nat (by rw [← HG.out]; omega)
          have hnn : ¬ ((dig s k : Int) < 0) := by omega
          have HV := Lib.hid hv; clear hv
          go_wp2_with (go_at_call 180; refine (i_digitOf _ _).mono ?_; rw [HV.out]; rintro e w' ⟨rfl, rfl⟩)
          go_roundw
          case rel =>
            refine ⟨k + 1, by omega, by go_num, Lib.hid ((hexTo_iff s _).2 fun j hj => ?_), (hr1.set k (dig s k)).of (row_congr fun i hi => by unfold upd; split <;> split <;> simp_all <;> omega), hr0.other _ _ (by simp), hbel.setCell (by simp) _⟩
            rcases Nat.lt_or_ge j k with h | h
            · exact (hexTo_iff s k).1 HX.out j h
            · obtain rfl : j = k := by omega
              rw [← HG.out]; omega
          case measure => simp [intOf]; omega
      · obtain rfl : k = 4 := by omega
        have hX : hexAll s = true := by
          have := HX.out
          unfold hexAll
          rw [HS.out]
          exact this
        have ho : relOk s = true := (relOk_iff s).2 ⟨hX, HS.out⟩
        have hr1 := hr1.of (row_congr (G := dig s) (fun i hi => by simp [hi]))
        have HO := Lib.hid ho; clear ho hX
        go_wp2_with (first | (refine wpList_load_row rfl 68 _ rfl (w.heap.size + 1) rfl 68 (row 4 (dig s)) (0, 0) _ hr1 Try.underlying68 rfl (by rw [row_size]; kernel_rfl) ?_) | (refine wpList_store_row rfl 68 _ _ rfl (w.heap.size) (row 4 (dig s)) rfl rfl 68 _ hr0 (by rw [row_size]; kernel_rfl) (by first | rfl | (rw [row_size, row_size]) | (simp [row_size]; done)) (row_one _ _) ?_))
        have hr := hr0.put (row 4 (dig s))
        refine bodyPost_ret (v := .tuple #[.agg (row 4 (dig s)), .bool true]) (results_row_b rfl _ _ w.heap.size 68 _ _ _ rfl rfl hr Try.underlying68 rfl (by rw [row_size]; kernel_rfl)) rfl ⟨?_, ?_⟩
        · rw [relF_ok HO.out, HO.out]
        · exact bel_setRow hbel (Nat.le_refl _) _
  · have hb : ((s.size : Int) != 4) = true := by rw [bne_iff_ne]; omega
    have ho : relOk s = false := by unfold relOk; rw [decide_eq_false hs, Bool.and_false]
    have HO := Lib.hid ho; clear ho hs
    have hr1 := RowAt.fresh1 w (.cells (row 4 (fun _ => 0)) 68) 68 (row 4 (fun _ => 0))
    have hr0 := (RowAt.fresh w 68 (row 4 (fun _ => 0))).alloc (.cells (row 4 (fun _ => 0)) 68)
    go_enter Try.func101, Try.ntmps101
    go_wp2_with (first | (refine wpList_load_row rfl 68 _ rfl (w.heap.size + 1) rfl 68 (row 4 (fun _ => 0)) (0, 0) _ hr1 Try.underlying68 rfl (by rw [row_size]; kernel_rfl) ?_) | (refine wpList_store_row rfl 68 _ _ rfl (w.heap.size) (row 4 (fun _ => 0)) rfl rfl 68 _ hr0 (by rw [row_size]; kernel_rfl) (by first | rfl | (rw [row_size, row_size]) | (simp [row_size]; done)) (row_one _ _) ?_))
    have hr := hr0.put (row 4 (fun _ => 0))
    refine bodyPost_ret (v := .tuple #[.agg (row 4 (fun _ => 0)), .bool false]) (results_row_b rfl _ _ w.heap.size 68 _ _ _ rfl rfl hr Try.underlying68 rfl (by rw [row_size]; kernel_rfl)) rfl ⟨?_, ?_⟩
    · rw [HO.out, row_congr (G := relF s) fun i _ => by simp [relF, HO.out]]
    · exact bel_setRow (((Below.refl _ _).alloc (Nat.le_refl _) _).alloc (by simp) _) (Nat.le_refl _) _
set_option maxHeartbeats 2000000 in
theorem i_readTrans (s : ByteArray) (w : World) : Calls Try.prog 116 #[.string s] w fun e w' => e = .returned (.tuple #[.agg (row 16 (trF s)), .bool (trOk s)]) ∧ Below w.heap.size w w' := by
  have z1 := RowAt.fresh1 w (.cells (row 16 (fun _ => 0)) 77) 77 (row 16 (fun _ => 0))
  have z0 := (RowAt.fresh w 77 (row 16 (fun _ => 0))).alloc (.cells (row 16 (fun _ => 0)) 77)
  by_cases hs : s.size = 16
  · have hs1 : s.size ≤ 16 := Nat.le_of_eq hs
    have hs2 : 16 ≤ s.size := Nat.le_of_eq hs.symm
    have hb : ((s.size : Int) != 16) = false := by simp [hs]
    have HS := Lib.hid hs; clear hs
    go_enter Try.func116, Try.ntmps116
    go_wp2
    go_loopw [13] (fun t wr => ∃ k : Nat, k ≤ 16 ∧ t = .int .i64 k ∧ Hid (hexTo s k = true) ∧ RowAt wr (w.heap.size + 1) 77 (row 16 (fun i => if i < k then dig s i else 0)) ∧ RowAt wr w.heap.size 77 (row 16 (fun _ => 0)) ∧ Below w.heap.size w wr) (fun t _ => (16 - intOf t).toNat)
    case atStart => exact ⟨0, by omega, rfl, Lib.hid rfl, z1, z0, ((Below.refl _ _).alloc (Nat.le_refl _) _).alloc (by simp) _⟩
    case round =>
      obtain ⟨k, hk, rfl, HX, hr1, hr0, hbel⟩ := hrel
      clear z1 z0
      by_cases hlt : k < 16
      · have hlt' : k < s.size := by omega
        have hg := byt_get s k hlt'
        have HG := Lib.hid hg; clear hg
        have hc := hr1.cell k hlt
        have hf := hr1.free k
        by_cases hneg : hexVal s[k] < 0
        · have hr0' := hr0.other ⟨w.heap.size + 1, k, none⟩ (.int .i64 (hexVal s[k])) (by simp)
          go_wp2_with (first | (go_at_call 180; refine (i_digitOf _ _).mono ?_; rintro e w' ⟨rfl, rfl⟩) | (refine wpList_store_row rfl 77 _ _ rfl (w.heap.size) (row 16 (fun _ => 0)) rfl rfl 77 _ hr0' (by rw [row_size]; kernel_rfl) (by first | rfl | (rw [row_size, row_size]) | (simp [row_size]; done)) (row_one _ _) ?_))
          have hX : hexAll s = false := by
            unfold hexAll
            exact hexTo_false hlt' (by rw [← HG.out]; exact hneg)
          have ho : trOk s = false := by unfold trOk; rw [hX]; rfl
          have hr := hr0'.put (row 16 (fun _ => 0))
          refine bodyPost_ret (v := .tuple #[.agg (row 16 (fun _ => 0)), .bool false]) (results_row_b rfl _ _ w.heap.size 77 _ _ _ rfl rfl hr Try.underlying77 rfl (by rw [row_size]; kernel_rfl)) rfl ⟨?_, ?_⟩
          · rw [ho, row_congr (G := trF s) fun i _ => by simp [trF, ho]]
          · exact bel_setRow (hbel.setCell (by simp) _) (Nat.le_refl _) _
        · have hv : hexVal s[k] = (dig s k : Int) := by rw [HG.out]; exact hexVal_nat (by rw [← HG.out]; omega)
          have hnn : ¬ ((dig s k : Int) < 0) := by omega
          have HV := Lib.hid hv; clear hv
          go_wp2_with (go_at_call 180; refine (i_digitOf _ _).mono ?_; rw [HV.out]; rintro e w' ⟨rfl, rfl⟩)
          go_roundw
          case rel =>
            refine ⟨k + 1, by omega, by go_num, Lib.hid ((hexTo_iff s _).2 fun j hj => ?_), (hr1.set k (dig s k)).of (row_congr fun i hi => by unfold upd; split <;> split <;> simp_all <;> omega), hr0.other _ _ (by simp), hbel.setCell (by simp) _⟩
            rcases Nat.lt_or_ge j k with h | h
            · exact (hexTo_iff s k).1 HX.out j h
            · obtain rfl : j = k := by omega
              rw [← HG.out]; omega
          case measure => simp [intOf]; omega
      · obtain rfl : k = 16 := by omega
        have hX : hexAll s = true := by
          have := HX.out
          unfold hexAll
          rw [HS.out]
          exact this
        have hr1 := hr1.of (row_congr (G := dig s) (fun i hi => by simp [hi]))
        have HA := Lib.hid hX; clear hX
        go_wp2
        obtain ⟨wo, hwo⟩ : ∃ wo : World, wo = wr := ⟨_, rfl⟩
        have HWO := Lib.hid hwo; clear hwo
        go_loopw [28] (fun t wr => ∃ k : Nat, k ≤ 16 ∧ t = .int .i64 k ∧ Hid (monoTo (dig s) k = true) ∧ RowAt wr (w.heap.size + 1) 77 (row 16 (dig s)) ∧ RowAt wr w.heap.size 77 (row 16 (fun _ => 0)) ∧ Below w.heap.size w wr) (fun t _ => (16 - intOf t).toNat)
        case atStart => exact ⟨0, by omega, rfl, Lib.hid rfl, hr1, hr0, hbel⟩
        case round =>
          clear hr1 hr0 hbel HWO
          obtain ⟨k, hk, rfl, HM, hr1, hr0, hbel⟩ := hrel
          by_cases hlt : k < 16
          · go_wp2
            go_loopw [31] (fun t wr => ∃ j : Nat, j ≤ 16 ∧ t = .int .i64 j ∧ Hid (monoRow (dig s) k j = true) ∧ RowAt wr (w.heap.size + 1) 77 (row 16 (dig s)) ∧ RowAt wr w.heap.size 77 (row 16 (fun _ => 0)) ∧ Below w.heap.size w wr) (fun t _ => (16 - intOf t).toNat)
            case atStart => exact ⟨0, by omega, rfl, Lib.hid rfl, hr1, hr0, hbel⟩
            case round =>
              clear hr1 hr0 hbel
              obtain ⟨j, hj, rfl, HR, hr1, hr0, hbel⟩ := hrel
              by_cases hlj : j < 16
              · have e1 := bits_andn_nat k j hlt hlj
                have e2 := bits_andn_nat (dig s k) (dig s j) (dig_lt _ _) (dig_lt _ _)
                have c1 := hr1.cell k hlt
                have c2 := hr1.cell j hlj
                have i1 := lt_cast hlt
                have i2 := lt_cast hlj
                by_cases hp : andn k j = 0
                · by_cases hq : andn (dig s k) (dig s j) = 0
                  · have HP := Lib.hid hp; have HQ := Lib.hid hq
                    have b1 : ((andn k j : Int) == 0) = true := by simp [hp]
                    have b2 : ((andn (dig s k) (dig s j) : Int) != 0) = false := by simp [hq]
                    clear hp hq
                    go_wp2
                    go_quiet (fail)
                    go_wp2
                    go_roundw
                    case rel => exact ⟨j + 1, by omega, by go_num, Lib.hid (monoRow_succ HR.out fun _ => HQ.out), hr1.drewN _, hr0.drewN _, bel_drewN hbel _⟩
                    case measure => simp [intOf]; omega
                  · have HP := Lib.hid hp; have HQ := Lib.hid hq
                    have b1 : ((andn k j : Int) == 0) = true := by simp [hp]
                    have b2 : ((andn (dig s k) (dig s j) : Int) != 0) = true := by rw [bne_iff_ne]; omega
                    clear hp hq
                    go_wp2
                    go_quiet (fail)
                    have hr0' := hr0.drewN nq
                    go_wp2_with (refine wpList_store_row rfl 77 _ _ rfl (w.heap.size) (row 16 (fun _ => 0)) rfl rfl 77 _ hr0' (by rw [row_size]; kernel_rfl) (by first | rfl | (rw [row_size, row_size]) | (simp [row_size]; done)) (row_one _ _) ?_)
                    have ho : trOk s = false := by
                      unfold trOk
                      rw [monoB_false hlt hlj HP.out HQ.out, Bool.and_false]
                    have hr := hr0'.put (row 16 (fun _ => 0))
                    refine bodyPost_ret (v := .tuple #[.agg (row 16 (fun _ => 0)), .bool false]) (results_row_b rfl _ _ w.heap.size 77 _ _ _ rfl rfl hr Try.underlying77 rfl (by rw [row_size]; kernel_rfl)) rfl ⟨?_, ?_⟩
                    · rw [ho, row_congr (G := trF s) fun i _ => by simp [trF, ho]]
                    · exact bel_setRow (bel_drewN hbel _) (Nat.le_refl _) _
                · have HP := Lib.hid hp
                  have b1 : ((andn k j : Int) == 0) = false := by rw [beq_eq_false_iff_ne]; omega
                  clear hp
                  go_wp2
                  go_quiet (fail)
                  go_wp2
                  go_roundw
                  case rel => exact ⟨j + 1, by omega, by go_num, Lib.hid (monoRow_succ HR.out fun h => absurd h HP.out), hr1.drewN _, hr0.drewN _, bel_drewN hbel _⟩
                  case measure => simp [intOf]; omega
              · obtain rfl : j = 16 := by omega
                go_wp2
                go_roundw
                case rel => exact ⟨k + 1, by omega, by go_num, Lib.hid (monoTo_succ HM.out HR.out), hr1, hr0, hbel⟩
                case measure => simp [intOf]; omega
          · obtain rfl : k = 16 := by omega
            have ho : trOk s = true := by
              unfold trOk monoB
              rw [HA.out, HM.out, decide_eq_true HS.out]; rfl
            have HO := Lib.hid ho; clear ho
            go_wp2_with (first | (refine wpList_load_row rfl 77 _ rfl (w.heap.size + 1) rfl 77 (row 16 (dig s)) (0, 0) _ hr1 Try.underlying77 rfl (by rw [row_size]; kernel_rfl) ?_) | (refine wpList_store_row rfl 77 _ _ rfl (w.heap.size) (row 16 (dig s)) rfl rfl 77 _ hr0 (by rw [row_size]; kernel_rfl) (by first | rfl | (rw [row_size, row_size]) | (simp [row_size]; done)) (row_one _ _) ?_))
            have hr := hr0.put (row 16 (dig s))
            refine bodyPost_ret (v := .tuple #[.agg (row 16 (dig s)), .bool true]) (results_row_b rfl _ _ w.heap.size 77 _ _ _ rfl rfl hr Try.underlying77 rfl (by rw [row_size]; kernel_rfl)) rfl ⟨?_, ?_⟩
            · rw [trF_ok HO.out, HO.out]
            · exact bel_setRow hbel (Nat.le_refl _) _
  · have hb : ((s.size : Int) != 16) = true := by rw [bne_iff_ne]; omega
    have ho : trOk s = false := by unfold trOk; rw [decide_eq_false hs, Bool.and_false]; rfl
    have HO := Lib.hid ho; clear ho hs
    go_enter Try.func116, Try.ntmps116
    go_wp2_with (first | (refine wpList_load_row rfl 77 _ rfl (w.heap.size + 1) rfl 77 (row 16 (fun _ => 0)) (0, 0) _ z1 Try.underlying77 rfl (by rw [row_size]; kernel_rfl) ?_) | (refine wpList_store_row rfl 77 _ _ rfl (w.heap.size) (row 16 (fun _ => 0)) rfl rfl 77 _ z0 (by rw [row_size]; kernel_rfl) (by first | rfl | (rw [row_size, row_size]) | (simp [row_size]; done)) (row_one _ _) ?_))
    have hr := z0.put (row 16 (fun _ => 0))
    refine bodyPost_ret (v := .tuple #[.agg (row 16 (fun _ => 0)), .bool false]) (results_row_b rfl _ _ w.heap.size 77 _ _ _ rfl rfl hr Try.underlying77 rfl (by rw [row_size]; kernel_rfl)) rfl ⟨?_, ?_⟩
    · rw [HO.out, row_congr (G := trF s) fun i _ => by simp [trF, HO.out]]
    · exact bel_setRow (((Below.refl _ _).alloc (Nat.le_refl _) _).alloc (by simp) _) (Nat.le_refl _) _
end Go.Proofs.Ytiaeakpgldpaiaa
