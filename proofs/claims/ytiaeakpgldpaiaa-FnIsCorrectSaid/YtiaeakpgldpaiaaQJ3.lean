/- Joined texts: ImplA, ImplB, ImplC, ImplD, ImplE. -/
import Derived.Test.YtiaeakpgldpaiaaProg
import Derived.Test.YtiaeakpgldpaiaaQJ1
import Derived.Laws.StandIn
namespace Go.Proofs.Ytiaeakpgldpaiaa
set_option linter.unusedSimpArgs false
set_option linter.unusedVariables false
set_option maxRecDepth 4000
open Go.RowKit

theorem i_ConditionValid (p : Int) (w : World) : Calls Try.prog 56 #[.int .i64 p] w fun e w' => e = .returned (.bool (cvB p)) ∧ w = w' := by
  unfold cvB
  by_cases h1 : 0 ≤ p <;> by_cases h2 : p ≤ 15
  all_goals
    go_enter Try.func56, Try.ntmps56
    go_wp2
    go_ret
    exact ⟨by simp [h1, h2], rfl⟩
theorem i_stateOk (p : Int) (w : World) : Calls Try.prog 162 #[.int .i64 p] w fun e w' => e = .returned (.bool (stB p)) ∧ w = w' := by
  unfold stB
  by_cases h1 : 0 ≤ p <;> by_cases h2 : p < 4
  all_goals
    go_enter Try.func162, Try.ntmps162
    go_wp2
    go_ret
    refine ⟨ret_bool ?_, rfl⟩
    have : (p ≤ 3) = (p < 4) := propext ⟨fun h => by omega, fun h => by omega⟩
    simp [h1, h2, this]
def hexS : ByteArray := ⟨#[48, 49, 50, 51, 52, 53, 54, 55, 56, 57, 97, 98, 99, 100, 101, 102]⟩
theorem firstIdx_hex (b : UInt8) : firstIdx hexS b = hexVal b := by
  have hb : b = UInt8.ofNat b.toNat := by simp
  have key : ∀ n, n < 256 → firstIdx hexS (UInt8.ofNat n) = hexVal (UInt8.ofNat n) := by decide +kernel
  rw [hb]
  exact key b.toNat b.toNat_lt
theorem x_IndexByteString (b : UInt8) (w : World) : (callFunc 253 #[.string hexS, .int .u8 (b.toNat : Int)]).run Try.prog w = .ok (.value (.int .i64 (hexVal b))) w := by
  rw [run_callFunc_indexByte Try.func253 (by kernel_rfl) rfl (by kernel_rfl) (by kernel_rfl), run_indexByte_string]
  have : ((b.toNat : Int).toNat.toUInt8) = b := by simp
  rw [this, firstIdx_hex]
  rfl
theorem x_stringslite (b : UInt8) (w : World) : Calls Try.prog 251 #[.string hexS, .int .u8 (b.toNat : Int)] w fun e w' => e = .returned (.int .i64 (hexVal b)) ∧ w = w' := by
  have hx := x_IndexByteString b
  go_enter Try.func251, Try.ntmps251
  go_wp2
  go_ret
  exact ⟨rfl, rfl⟩
theorem x_strings (b : UInt8) (w : World) : Calls Try.prog 236 #[.string hexS, .int .u8 (b.toNat : Int)] w fun e w' => e = .returned (.int .i64 (hexVal b)) ∧ w = w' := by
  go_enter Try.func236, Try.ntmps236
  go_wp2_with (go_at_call 251; refine (x_stringslite _ _).mono ?_; rintro e w' ⟨rfl, rfl⟩)
  go_ret
  exact ⟨rfl, rfl⟩
theorem i_digitOf (b : UInt8) (w : World) : Calls Try.prog 180 #[.int .u8 (b.toNat : Int)] w fun e w' => e = .returned (.int .i64 (hexVal b)) ∧ w = w' := by
  go_enter Try.func180, Try.ntmps180
  go_wp2_with (go_at_call 236; refine (x_strings _ _).mono ?_; rintro e w' ⟨rfl, rfl⟩)
  go_ret
  exact ⟨rfl, rfl⟩
theorem i_digit (p : Nat) (w : World) (hp : p < 16) : Calls Try.prog 166 #[.int .i64 (p : Int)] w fun e w' => e = .returned (.string ⟨#[hexChr p]⟩) ∧ w = w' := by
  go_enter Try.func166, Try.ntmps166
  go_wp2
  go_ret
  refine ⟨?_, rfl⟩
  have key : ∀ p : Nat, p < 16 → (⟨#[48, 49, 50, 51, 52, 53, 54, 55, 56, 57, 97, 98, 99, 100, 101, 102]⟩ : ByteArray).extract p (p + 1) = ⟨#[hexChr p]⟩ := by decide
  exact congrArg (fun s => Ending.returned (.string s)) (key p hp)
set_option maxHeartbeats 400000 in
theorem i_makeTrans (fv : Value) (F : Nat → Nat) (w : World) (hf : FnIs Try.prog fv w F 16) : Calls Try.prog 192 #[fv] w fun e w' => e = .returned (.agg (row 16 F)) ∧ Below w.heap.size w w' := by
  obtain ⟨g, lb, rfl, hent, hcall⟩ := hf
  have HC := Lib.hid hcall; clear hcall
  go_enter Try.func192, Try.ntmps192
  go_wp2
  go_loopw [6] (fun t wr => ∃ k : Nat, k ≤ 16 ∧ t = .int .i64 k ∧ RowAt wr (w.heap.size + 1) 77 (row 16 (fun i => if i < k then F i else 0)) ∧ RowAt wr w.heap.size 77 (row 16 (fun _ => 0)) ∧ Below w.heap.size w wr) (fun t _ => (16 - intOf t).toNat)
  case atStart =>
    exact ⟨0, by omega, rfl, RowAt.fresh1 _ _ _ _, (RowAt.fresh _ _ _).alloc _, ((Below.refl _ _).alloc (Nat.le_refl _) _).alloc (by simp) _⟩
  case round =>
    obtain ⟨k, hk, rfl, hr1, hr0, hb⟩ := hrel
    by_cases hlt : k < 16
    · go_wp2
      refine (HC.out _ k hb hlt).mono ?_
      rintro e w1 ⟨rfl, hb1⟩
      have hr1' := hr1.later hb1
      have hr0' := hr0.later hb1
      have hc := hr1'.cell k hlt
      have hf := hr1'.free k
      go_wp2
      go_roundw
      case rel =>
        exact ⟨k + 1, by omega, by go_num, (hr1'.set k (F k)).of (row_congr fun i hi => by unfold upd; split <;> split <;> simp_all <;> omega), hr0'.other _ _ (by simp), (bel_on hb hb1 (by have := hb.size; omega)).setCell (by simp) _⟩
      case measure => simp [intOf]; omega
    · obtain rfl : k = 16 := by omega
      have hr1 := hr1.of (row_congr (G := F) (fun i hi => by simp [hi]))
      go_wp2_with (first | (refine wpList_load_row rfl 77 _ rfl (w.heap.size + 1) rfl 77 (row 16 F) (0, 0) _ hr1 Try.underlying77 rfl (by rw [row_size]; kernel_rfl) ?_) | (refine wpList_store_row rfl 77 _ _ rfl w.heap.size (row 16 F) rfl rfl 77 _ hr0 (by rw [row_size]; kernel_rfl) (by rw [row_size, row_size]) (row_one _ _) ?_))
      have hr := hr0.put (row 16 F)
      exact bodyPost_ret (results_cell_row rfl _ _ w.heap.size 77 (row 16 F) (0, 0) _ rfl hr Try.underlying77 rfl (by rw [row_size]; kernel_rfl)) rfl ⟨rfl, bel_setRow hb (Nat.le_refl _) _⟩
end Go.Proofs.Ytiaeakpgldpaiaa
namespace Go.Proofs.Ytiaeakpgldpaiaa
set_option linter.unusedSimpArgs false
set_option linter.unusedVariables false
set_option maxRecDepth 4000
open Go.RowKit

set_option maxHeartbeats 400000 in
theorem i_transText (F : Nat → Nat) (w : World) (hF : ∀ i, i < 16 → F i < 16) : Calls Try.prog 103 #[.agg (row 16 F)] w fun e w' => e = .returned (.string (txt 16 F)) ∧ Below w.heap.size w w' := by
  have hrow := RowAt.fresh w 77 (row 16 F)
  go_enter Try.func103, Try.ntmps103
  go_wp2_with (refine wpList_load_row rfl 77 _ rfl w.heap.size rfl 77 (row 16 F) (0, 0) _ hrow Try.underlying77 rfl (by rw [row_size]; kernel_rfl) ?_)
  go_loopw [3, 7] (fun o t wr => ∃ k : Nat, k ≤ 16 ∧ t = .int .i64 k ∧ o = .string (txt k F) ∧ Below w.heap.size w wr) (fun _ t _ => (16 - intOf t).toNat)
  case atStart => exact ⟨0, by omega, rfl, rfl, (Below.refl _ _).alloc (Nat.le_refl _) _⟩
  case round =>
    obtain ⟨k, hk, rfl, rfl, hb⟩ := hrel
    by_cases hlt : k < 16
    · have ht := txt_snoc k F
      have hz : (txt k F).size ≤ 16 := by rw [txt_size]; exact hk
      have hi := fun w => run_index_row (P := Try.prog) (F := F) (T := 77) Try.underlying77 Try.underlying3 (by kernel_rfl) hlt w
      have HT := Lib.hid ht; clear ht
      have hFk := hF k hlt
      have HF := Lib.hid hF; clear hF
      go_wp2_with (go_at_call 166; refine (i_digit _ _ hFk).mono ?_; rintro e w' ⟨rfl, rfl⟩)
      go_roundw
      case rel => exact ⟨k + 1, by omega, by go_num, by rw [← HT.out], hb⟩
      case measure => simp [intOf]; omega
    · obtain rfl : k = 16 := by omega
      go_wp2
      go_ret
      exact ⟨rfl, hb⟩
set_option maxHeartbeats 400000 in
theorem i_relText (F : Nat → Nat) (w : World) (hF : ∀ i, i < 4 → F i < 16) : Calls Try.prog 96 #[.agg (row 4 F)] w fun e w' => e = .returned (.string (txt 4 F)) ∧ Below w.heap.size w w' := by
  have hrow := RowAt.fresh w 68 (row 4 F)
  go_enter Try.func96, Try.ntmps96
  go_wp2_with (refine wpList_load_row rfl 68 _ rfl w.heap.size rfl 68 (row 4 F) (0, 0) _ hrow Try.underlying68 rfl (by rw [row_size]; kernel_rfl) ?_)
  go_loopw [3, 7] (fun o t wr => ∃ k : Nat, k ≤ 4 ∧ t = .int .i64 k ∧ o = .string (txt k F) ∧ Below w.heap.size w wr) (fun _ t _ => (4 - intOf t).toNat)
  case atStart => exact ⟨0, by omega, rfl, rfl, (Below.refl _ _).alloc (Nat.le_refl _) _⟩
  case round =>
    obtain ⟨k, hk, rfl, rfl, hb⟩ := hrel
    by_cases hlt : k < 4
    · have ht := txt_snoc k F
      have hz : (txt k F).size ≤ 4 := by rw [txt_size]; exact hk
      have hi := fun w => run_index_row (P := Try.prog) (F := F) (T := 68) Try.underlying68 Try.underlying3 (by kernel_rfl) hlt w
      have HT := Lib.hid ht; clear ht
      have hFk := hF k hlt
      have HF := Lib.hid hF; clear hF
      go_wp2_with (go_at_call 166; refine (i_digit _ _ hFk).mono ?_; rintro e w' ⟨rfl, rfl⟩)
      go_roundw
      case rel => exact ⟨k + 1, by omega, by go_num, by rw [← HT.out], hb⟩
      case measure => simp [intOf]; omega
    · obtain rfl : k = 4 := by omega
      go_wp2
      go_ret
      exact ⟨rfl, hb⟩
set_option maxHeartbeats 1000000 in
theorem i_readRel (s : ByteArray) (w : World) : Calls Try.prog 101 #[.string s] w fun e w' => e = .returned (.tuple #[.agg (row 4 (relF s)), .bool (relOk s)]) ∧ Below w.heap.size w w' := by
  by_cases hs : s.size = 4
  · have hs1 : s.size ≤ 4 := Nat.le_of_eq hs
    have hs2 : 4 ≤ s.size := Nat.le_of_eq hs.symm
    have hb : ((s.size : Int) != 4) = false := by simp [hs]
    have HS := Lib.hid hs; clear hs
    go_enter Try.func101, Try.ntmps101
    go_wp2
    go_loopw [11] (fun t wr => ∃ k : Nat, k ≤ 4 ∧ t = .int .i64 k ∧ Hid (hexTo s k = true) ∧ RowAt wr (w.heap.size + 1) 68 (row 4 (fun i => if i < k then dig s i else 0)) ∧ RowAt wr w.heap.size 68 (row 4 (fun _ => 0)) ∧ Below w.heap.size w wr) (fun t _ => (4 - intOf t).toNat)
    case atStart => exact ⟨0, by omega, rfl, Lib.hid rfl, RowAt.fresh1 _ _ _ _, (RowAt.fresh _ _ _).alloc _, ((Below.refl _ _).alloc (Nat.le_refl _) _).alloc (by simp) _⟩
    case round =>
      obtain ⟨k, hk, rfl, HX, hr1, hr0, hbel⟩ := hrel
      by_cases hlt : k < 4
      · have hlt' : k < s.size := by omega
        have hg := byt_get s k hlt'
        have HG := Lib.hid hg; clear hg
        have hc := hr1.cell k hlt
        have hf := hr1.free k
        by_cases hneg : hexVal s[k] < 0
        · have hr0' := hr0.other ⟨w.heap.size + 1, k, none⟩ (.int .i64 (hexVal s[k])) (by simp)
          go_wp2_with (first | (go_at_call 180; refine (i_digitOf _ _).mono ?_; rintro e w' ⟨rfl, rfl⟩) | (refine wpList_store_row rfl 68 _ _ rfl (w.heap.size) (row 4 (fun _ => 0)) rfl rfl 68 _ hr0' (by rw [row_size]; kernel_rfl) (by first | rfl | (rw [row_size, row_size]) | (simp [row_size]; done)) (row_one _ _) ?_))
          have hX : hexAll s = false := by
            unfold hexAll
            exact hexTo_false hlt' (by rw [← HG.out]; exact hneg)
          have ho : relOk s = false := by unfold relOk; rw [hX]; rfl
          have hr := hr0'.put (row 4 (fun _ => 0))
          refine bodyPost_ret (v := .tuple #[.agg (row 4 (fun _ => 0)), .bool false]) (results_row_b rfl _ _ w.heap.size 68 _ _ _ rfl rfl hr Try.underlying68 rfl (by rw [row_size]; kernel_rfl)) rfl ⟨?_, ?_⟩
          · rw [ho, row_congr (G := relF s) fun i _ => by simp [relF, ho]]
          · exact bel_setRow (hbel.setCell (by simp) _) (Nat.le_refl _) _
        · have hv : hexVal s[k] = (dig s k : Int) := by rw [HG.out]; exact hexVal_nat (by rw [← HG.out]; omega)
          have hnn : ¬ ((dig s k : Int) < 0) := by omega
          have HV := Lib.hid hv; clear hv
          go_wp2_with (go_at_call 180; refine (i_digitOf _ _).mono ?_; rw [HV.out]; rintro e w' ⟨rfl, rfl⟩)
          go_roundw
          case rel =>
            refine ⟨k + 1, by omega, by go_num, Lib.hid ((hexTo_iff s _).2 fun j hj => ?_), (hr1.set k (dig s k)).of (row_congr fun i hi => by unfold upd; split <;> split <;> simp_all <;> omega), hr0.other _ _ (by simp), hbel.setCell (by simp) _⟩
            rcases Nat.lt_or_ge j k with h | h
            · exact (hexTo_iff s k).1 HX.out j h
            · obtain rfl : j = k := by omega
              rw [← HG.out]; omega
          case measure => simp [intOf]; omega
      · obtain rfl : k = 4 := by omega
        have hX : hexAll s = true := by
          have := HX.out
          unfold hexAll
          rw [HS.out]
          exact this
        have ho : relOk s = true := (relOk_iff s).2 ⟨hX, HS.out⟩
        have hr1 := hr1.of (row_congr (G := dig s) (fun i hi => by simp [hi]))
        have HO := Lib.hid ho; clear ho hX
        go_wp2_with (first | (refine wpList_load_row rfl 68 _ rfl (w.heap.size + 1) rfl 68 (row 4 (dig s)) (0, 0) _ hr1 Try.underlying68 rfl (by rw [row_size]; kernel_rfl) ?_) | (refine wpList_store_row rfl 68 _ _ rfl (w.heap.size) (row 4 (dig s)) rfl rfl 68 _ hr0 (by rw [row_size]; kernel_rfl) (by first | rfl | (rw [row_size, row_size]) | (simp [row_size]; done)) (row_one _ _) ?_))
        have hr := hr0.put (row 4 (dig s))
        refine bodyPost_ret (v := .tuple #[.agg (row 4 (dig s)), .bool true]) (results_row_b rfl _ _ w.heap.size 68 _ _ _ rfl rfl hr Try.underlying68 rfl (by rw [row_size]; kernel_rfl)) rfl ⟨?_, ?_⟩
        · rw [relF_ok HO.out, HO.out]
        · exact bel_setRow hbel (Nat.le_refl _) _
  · have hb : ((s.size : Int) != 4) = true := by rw [bne_iff_ne]; omega
    have ho : relOk s = false := by unfold relOk; rw [decide_eq_false hs, Bool.and_false]
    have HO := Lib.hid ho; clear ho hs
    have hr1 := RowAt.fresh1 w (.cells (row 4 (fun _ => 0)) 68) 68 (row 4 (fun _ => 0))
    have hr0 := (RowAt.fresh w 68 (row 4 (fun _ => 0))).alloc (.cells (row 4 (fun _ => 0)) 68)
    go_enter Try.func101, Try.ntmps101
    go_wp2_with (first | (refine wpList_load_row rfl 68 _ rfl (w.heap.size + 1) rfl 68 (row 4 (fun _ => 0)) (0, 0) _ hr1 Try.underlying68 rfl (by rw [row_size]; kernel_rfl) ?_) | (refine wpList_store_row rfl 68 _ _ rfl (w.heap.size) (row 4 (fun _ => 0)) rfl rfl 68 _ hr0 (by rw [row_size]; kernel_rfl) (by first | rfl | (rw [row_size, row_size]) | (simp [row_size]; done)) (row_one _ _) ?_))
    have hr := hr0.put (row 4 (fun _ => 0))
    refine bodyPost_ret (v := .tuple #[.agg (row 4 (fun _ => 0)), .bool false]) (results_row_b rfl _ _ w.heap.size 68 _ _ _ rfl rfl hr Try.underlying68 rfl (by rw [row_size]; kernel_rfl)) rfl ⟨?_, ?_⟩
    · rw [HO.out, row_congr (G := relF s) fun i _ => by simp [relF, HO.out]]
    · exact bel_setRow (((Below.refl _ _).alloc (Nat.le_refl _) _).alloc (by simp) _) (Nat.le_refl _) _
set_option maxHeartbeats 2000000 in
theorem i_readTrans (s : ByteArray) (w : World) : Calls Try.prog 116 #[.string s] w fun e w' => e = .returned (.tuple #[.agg (row 16 (trF s)), .bool (trOk s)]) ∧ Below w.heap.size w w' := by
  have z1 := RowAt.fresh1 w (.cells (row 16 (fun _ => 0)) 77) 77 (row 16 (fun _ => 0))
  have z0 := (RowAt.fresh w 77 (row 16 (fun _ => 0))).alloc (.cells (row 16 (fun _ => 0)) 77)
  by_cases hs : s.size = 16
  · have hs1 : s.size ≤ 16 := Nat.le_of_eq hs
    have hs2 : 16 ≤ s.size := Nat.le_of_eq hs.symm
    have hb : ((s.size : Int) != 16) = false := by simp [hs]
    have HS := Lib.hid hs; clear hs
    go_enter Try.func116, Try.ntmps116
    go_wp2
    go_loopw [13] (fun t wr => ∃ k : Nat, k ≤ 16 ∧ t = .int .i64 k ∧ Hid (hexTo s k = true) ∧ RowAt wr (w.heap.size + 1) 77 (row 16 (fun i => if i < k then dig s i else 0)) ∧ RowAt wr w.heap.size 77 (row 16 (fun _ => 0)) ∧ Below w.heap.size w wr) (fun t _ => (16 - intOf t).toNat)
    case atStart => exact ⟨0, by omega, rfl, Lib.hid rfl, z1, z0, ((Below.refl _ _).alloc (Nat.le_refl _) _).alloc (by simp) _⟩
    case round =>
      obtain ⟨k, hk, rfl, HX, hr1, hr0, hbel⟩ := hrel
      clear z1 z0
      by_cases hlt : k < 16
      · have hlt' : k < s.size := by omega
        have hg := byt_get s k hlt'
        have HG := Lib.hid hg; clear hg
        have hc := hr1.cell k hlt
        have hf := hr1.free k
        by_cases hneg : hexVal s[k] < 0
        · have hr0' := hr0.other ⟨w.heap.size + 1, k, none⟩ (.int .i64 (hexVal s[k])) (by simp)
          go_wp2_with (first | (go_at_call 180; refine (i_digitOf _ _).mono ?_; rintro e w' ⟨rfl, rfl⟩) | (refine wpList_store_row rfl 77 _ _ rfl (w.heap.size) (row 16 (fun _ => 0)) rfl rfl 77 _ hr0' (by rw [row_size]; kernel_rfl) (by first | rfl | (rw [row_size, row_size]) | (simp [row_size]; done)) (row_one _ _) ?_))
          have hX : hexAll s = false := by
            unfold hexAll
            exact hexTo_false hlt' (by rw [← HG.out]; exact hneg)
          have ho : trOk s = false := by unfold trOk; rw [hX]; rfl
          have hr := hr0'.put (row 16 (fun _ => 0))
          refine bodyPost_ret (v := .tuple #[.agg (row 16 (fun _ => 0)), .bool false]) (results_row_b rfl _ _ w.heap.size 77 _ _ _ rfl rfl hr Try.underlying77 rfl (by rw [row_size]; kernel_rfl)) rfl ⟨?_, ?_⟩
          · rw [ho, row_congr (G := trF s) fun i _ => by simp [trF, ho]]
          · exact bel_setRow (hbel.setCell (by simp) _) (Nat.le_refl _) _
        · have hv : hexVal s[k] = (dig s k : Int) := by rw [HG.out]; exact hexVal_nat (by rw [← HG.out]; omega)
          have hnn : ¬ ((dig s k : Int) < 0) := by omega
          have HV := Lib.hid hv; clear hv
          go_wp2_with (go_at_call 180; refine (i_digitOf _ _).mono ?_; rw [HV.out]; rintro e w' ⟨rfl, rfl⟩)
          go_roundw
          case rel =>
            refine ⟨k + 1, by omega, by go_num, Lib.hid ((hexTo_iff s _).2 fun j hj => ?_), (hr1.set k (dig s k)).of (row_congr fun i hi => by unfold upd; split <;> split <;> simp_all <;> omega), hr0.other _ _ (by simp), hbel.setCell (by simp) _⟩
            rcases Nat.lt_or_ge j k with h | h
            · exact (hexTo_iff s k).1 HX.out j h
            · obtain rfl : j = k := by omega
              rw [← HG.out]; omega
          case measure => simp [intOf]; omega
      · obtain rfl : k = 16 := by omega
        have hX : hexAll s = true := by
          have := HX.out
          unfold hexAll
          rw [HS.out]
          exact this
        have hr1 := hr1.of (row_congr (G := dig s) (fun i hi => by simp [hi]))
        have HA := Lib.hid hX; clear hX
        go_wp2
        obtain ⟨wo, hwo⟩ : ∃ wo : World, wo = wr := ⟨_, rfl⟩
        have HWO := Lib.hid hwo; clear hwo
        go_loopw [28] (fun t wr => ∃ k : Nat, k ≤ 16 ∧ t = .int .i64 k ∧ Hid (monoTo (dig s) k = true) ∧ RowAt wr (w.heap.size + 1) 77 (row 16 (dig s)) ∧ RowAt wr w.heap.size 77 (row 16 (fun _ => 0)) ∧ Below w.heap.size w wr) (fun t _ => (16 - intOf t).toNat)
        case atStart => exact ⟨0, by omega, rfl, Lib.hid rfl, hr1, hr0, hbel⟩
        case round =>
          clear hr1 hr0 hbel HWO
          obtain ⟨k, hk, rfl, HM, hr1, hr0, hbel⟩ := hrel
          by_cases hlt : k < 16
          · go_wp2
            go_loopw [31] (fun t wr => ∃ j : Nat, j ≤ 16 ∧ t = .int .i64 j ∧ Hid (monoRow (dig s) k j = true) ∧ RowAt wr (w.heap.size + 1) 77 (row 16 (dig s)) ∧ RowAt wr w.heap.size 77 (row 16 (fun _ => 0)) ∧ Below w.heap.size w wr) (fun t _ => (16 - intOf t).toNat)
            case atStart => exact ⟨0, by omega, rfl, Lib.hid rfl, hr1, hr0, hbel⟩
            case round =>
              clear hr1 hr0 hbel
              obtain ⟨j, hj, rfl, HR, hr1, hr0, hbel⟩ := hrel
              by_cases hlj : j < 16
              · have e1 := bits_andn_nat k j hlt hlj
                have e2 := bits_andn_nat (dig s k) (dig s j) (dig_lt _ _) (dig_lt _ _)
                have c1 := hr1.cell k hlt
                have c2 := hr1.cell j hlj
                have i1 := lt_cast hlt
                have i2 := lt_cast hlj
                by_cases hp : andn k j = 0
                · by_cases hq : andn (dig s k) (dig s j) = 0
                  · have HP := Lib.hid hp; have HQ := Lib.hid hq
                    have b1 : ((andn k j : Int) == 0) = true := by simp [hp]
                    have b2 : ((andn (dig s k) (dig s j) : Int) != 0) = false := by simp [hq]
                    clear hp hq
                    go_wp2
                    go_quiet (fail)
                    go_wp2
                    go_roundw
                    case rel => exact ⟨j + 1, by omega, by go_num, Lib.hid (monoRow_succ HR.out fun _ => HQ.out), hr1.drewN _, hr0.drewN _, bel_drewN hbel _⟩
                    case measure => simp [intOf]; omega
                  · have HP := Lib.hid hp; have HQ := Lib.hid hq
                    have b1 : ((andn k j : Int) == 0) = true := by simp [hp]
                    have b2 : ((andn (dig s k) (dig s j) : Int) != 0) = true := by rw [bne_iff_ne]; omega
                    clear hp hq
                    go_wp2
                    go_quiet (fail)
                    have hr0' := hr0.drewN nq
                    go_wp2_with (refine wpList_store_row rfl 77 _ _ rfl (w.heap.size) (row 16 (fun _ => 0)) rfl rfl 77 _ hr0' (by rw [row_size]; kernel_rfl) (by first | rfl | (rw [row_size, row_size]) | (simp [row_size]; done)) (row_one _ _) ?_)
                    have ho : trOk s = false := by
                      unfold trOk
                      rw [monoB_false hlt hlj HP.out HQ.out, Bool.and_false]
                    have hr := hr0'.put (row 16 (fun _ => 0))
                    refine bodyPost_ret (v := .tuple #[.agg (row 16 (fun _ => 0)), .bool false]) (results_row_b rfl _ _ w.heap.size 77 _ _ _ rfl rfl hr Try.underlying77 rfl (by rw [row_size]; kernel_rfl)) rfl ⟨?_, ?_⟩
                    · rw [ho, row_congr (G := trF s) fun i _ => by simp [trF, ho]]
                    · exact bel_setRow (bel_drewN hbel _) (Nat.le_refl _) _
                · have HP := Lib.hid hp
                  have b1 : ((andn k j : Int) == 0) = false := by rw [beq_eq_false_iff_ne]; omega
                  clear hp
                  go_wp2
                  go_quiet (fail)
                  go_wp2
                  go_roundw
                  case rel => exact ⟨j + 1, by omega, by go_num, Lib.hid (monoRow_succ HR.out fun h => absurd h HP.out), hr1.drewN _, hr0.drewN _, bel_drewN hbel _⟩
                  case measure => simp [intOf]; omega
              · obtain rfl : j = 16 := by omega
                go_wp2
                go_roundw
                case rel => exact ⟨k + 1, by omega, by go_num, Lib.hid (monoTo_succ HM.out HR.out), hr1, hr0, hbel⟩
                case measure => simp [intOf]; omega
          · obtain rfl : k = 16 := by omega
            have ho : trOk s = true := by
              unfold trOk monoB
              rw [HA.out, HM.out, decide_eq_true HS.out]; rfl
            have HO := Lib.hid ho; clear ho
            go_wp2_with (first | (refine wpList_load_row rfl 77 _ rfl (w.heap.size + 1) rfl 77 (row 16 (dig s)) (0, 0) _ hr1 Try.underlying77 rfl (by rw [row_size]; kernel_rfl) ?_) | (refine wpList_store_row rfl 77 _ _ rfl (w.heap.size) (row 16 (dig s)) rfl rfl 77 _ hr0 (by rw [row_size]; kernel_rfl) (by first | rfl | (rw [row_size, row_size]) | (simp [row_size]; done)) (row_one _ _) ?_))
            have hr := hr0.put (row 16 (dig s))
            refine bodyPost_ret (v := .tuple #[.agg (row 16 (dig s)), .bool true]) (results_row_b rfl _ _ w.heap.size 77 _ _ _ rfl rfl hr Try.underlying77 rfl (by rw [row_size]; kernel_rfl)) rfl ⟨?_, ?_⟩
            · rw [trF_ok HO.out, HO.out]
            · exact bel_setRow hbel (Nat.le_refl _) _
  · have hb : ((s.size : Int) != 16) = true := by rw [bne_iff_ne]; omega
    have ho : trOk s = false := by unfold trOk; rw [decide_eq_false hs, Bool.and_false]; rfl
    have HO := Lib.hid ho; clear ho hs
    go_enter Try.func116, Try.ntmps116
    go_wp2_with (first | (refine wpList_load_row rfl 77 _ rfl (w.heap.size + 1) rfl 77 (row 16 (fun _ => 0)) (0, 0) _ z1 Try.underlying77 rfl (by rw [row_size]; kernel_rfl) ?_) | (refine wpList_store_row rfl 77 _ _ rfl (w.heap.size) (row 16 (fun _ => 0)) rfl rfl 77 _ z0 (by rw [row_size]; kernel_rfl) (by first | rfl | (rw [row_size, row_size]) | (simp [row_size]; done)) (row_one _ _) ?_))
    have hr := z0.put (row 16 (fun _ => 0))
    refine bodyPost_ret (v := .tuple #[.agg (row 16 (fun _ => 0)), .bool false]) (results_row_b rfl _ _ w.heap.size 77 _ _ _ rfl rfl hr Try.underlying77 rfl (by rw [row_size]; kernel_rfl)) rfl ⟨?_, ?_⟩
    · rw [HO.out, row_congr (G := trF s) fun i _ => by simp [trF, HO.out]]
    · exact bel_setRow (((Below.refl _ _).alloc (Nat.le_refl _) _).alloc (by simp) _) (Nat.le_refl _) _
end Go.Proofs.Ytiaeakpgldpaiaa
namespace Go.Proofs.Ytiaeakpgldpaiaa
set_option linter.unusedSimpArgs false
set_option linter.unusedVariables false
set_option maxRecDepth 4000
open Go.RowKit

theorem i_RelValid (s : ByteArray) (w : World) : Calls Try.prog 169 #[.string s] w fun e w' => e = .returned (.bool (relOk s)) ∧ Below w.heap.size w w' := by
  go_enter Try.func169, Try.ntmps169
  go_wp2_with (first | (go_at_call 101; refine (i_readRel _ _).mono ?_; rintro e w' ⟨rfl, hb⟩) | (refine wpList_store_new rfl 68 _ _ rfl (row 4 (relF s)) rfl rfl (by rw [row_size]; kernel_rfl) (by first | rfl | (rw [row_size, row_size]) | (simp [row_size]; done)) (row_one _ _) ?_))
  go_ret
  exact ⟨rfl, hb.alloc hb.size _⟩
set_option maxHeartbeats 1000000 in
theorem i_body (p : Int) (s : ByteArray) (w : World) : Calls Try.prog 147 #[.int .i64 p, .string s] w fun e w' => e = .returned (.tuple #[.agg (row 16 (trF s)), .bool (trOk s && cvB p)]) ∧ Below w.heap.size w w' := by
  have z0 := RowAt.fresh w 77 (row 16 (fun _ => 0))
  cases hok : trOk s
  all_goals
    go_enter Try.func147, Try.ntmps147
    go_wp2_with fail
    refine (i_readTrans _ _).mono ?_
    rw [hok]
    rintro e w' ⟨rfl, hb⟩
    go_wp2_with (refine wpList_store_new rfl 77 _ _ rfl (row 16 (trF s)) rfl rfl (by rw [row_size]; kernel_rfl) (by first | rfl | (rw [row_size, row_size]) | (simp [row_size]; done)) (row_one _ _) ?_)
    have hz := RowAt.fresh w' 77 (row 16 (trF s))
    have hr := ((z0.later hb).alloc (.cells (row 16 (trF s)) 77)).drew
    have hbb : Below w.heap.size w (w'.alloc (.cells (row 16 (trF s)) 77)).drew := ((bel_on ((Below.refl _ w).alloc (Nat.le_refl _) _) hb (by simp)).alloc (by have := hb.size; simp at this; omega) _).drew
    have hne : w'.heap.size ≠ w.heap.size := by have := hb.size; simp at this; omega
    refine wp_region_held_drew (S := fun w3 => RowAt w3 w'.heap.size 77 (row 16 (trF s))) (by kernel_rfl) (hz.drew) (fun hS => ?_)
    simp only [List.size_toArray, List.length_cons, List.length_nil, Nat.zero_add, Nat.reduceAdd, Array.replicate_succ, Array.replicate_zero, List.push_toArray, List.append_toArray, List.nil_append, List.cons_append]
    refine wpAnyH_take (i := 0) (v := .agg (row 16 (trF s))) rfl (by kernel_rfl) (by kernel_rfl) (by kernel_rfl) (fun _ _ _ h => h) (yieldsIf_load_row (by rfl) 77 _ rfl w'.heap.size rfl 77 (row 16 (trF s)) _ (fun _ h => h) Try.underlying77 rfl (by rw [row_size]; kernel_rfl)) (by assumption) ?_
    simp only [Act.put, List.getElem_toArray, List.getElem_cons_zero, List.getElem_cons_succ, List.setIfInBounds_toArray, List.set_cons_zero, List.set_cons_succ]
  · refine wpAnyH_take (i := 1) (v := .bool false) rfl (by kernel_rfl) (by kernel_rfl) (by kernel_rfl) (fun _ _ _ h => h) (Or.inl ⟨by rfl, fun w2 h2 => by (first | rfl | go_simp)⟩) (by assumption) ?_
    simp only [Act.put, List.getElem_toArray, List.getElem_cons_zero, List.getElem_cons_succ, List.setIfInBounds_toArray, List.set_cons_zero, List.set_cons_succ]
    refine wpAnyH_take (i := 2) (v := .bool false) rfl (by kernel_rfl) (by kernel_rfl) (by kernel_rfl) (fun _ _ _ h => h) (Or.inl ⟨by rfl, fun w2 h2 => by (first | rfl | go_simp)⟩) (by assumption) ?_
    simp only [Act.put, List.getElem_toArray, List.getElem_cons_zero, List.getElem_cons_succ, List.setIfInBounds_toArray, List.set_cons_zero, List.set_cons_succ]
    refine wpAnyH_take (i := 3) (v := undef) rfl (by kernel_rfl) (by kernel_rfl) (by kernel_rfl) (fun _ _ _ h => h) (Or.inr ⟨by rfl, rfl⟩) (by assumption) ?_
    simp only [Act.put, List.getElem_toArray, List.getElem_cons_zero, List.getElem_cons_succ, List.setIfInBounds_toArray, List.set_cons_zero, List.set_cons_succ]
    refine wpAnyH_take (i := 4) (v := undef) rfl (by kernel_rfl) (by kernel_rfl) (by kernel_rfl) (fun _ _ _ h => h) (Or.inr ⟨by rfl, rfl⟩) (by assumption) ?_
    simp only [Act.put, List.getElem_toArray, List.getElem_cons_zero, List.getElem_cons_succ, List.setIfInBounds_toArray, List.set_cons_zero, List.set_cons_succ]
    refine wpAnyH_take (i := 5) (v := .bool false) rfl (by kernel_rfl) (by kernel_rfl) (by kernel_rfl) (fun _ _ _ h => h) (Or.inl ⟨by rfl, fun w2 h2 => by (first | rfl | go_simp)⟩) (by assumption) ?_
    simp only [Act.put, List.getElem_toArray, List.getElem_cons_zero, List.getElem_cons_succ, List.setIfInBounds_toArray, List.set_cons_zero, List.set_cons_succ]
    refine wpAnyH_ready (rs := [6]) (by kernel_rfl) (by simp) ?_
    refine AllReadyH.cons rfl (fun K hK => ?_) AllReadyH.nil
    rw [if_pos (by rfl)]
    refine wp_store_row 77 _ _ rfl w.heap.size (row 16 (trF s)) rfl rfl 77 _ hr (by rw [row_size]; kernel_rfl) (by rw [row_size, row_size]) (row_one _ _) ?_
    refine hK.out _ _ (hz.drew.putOther _ hne) (fun hS => ?_)
    simp only [Act.put, List.getElem_toArray, List.getElem_cons_zero, List.getElem_cons_succ, List.setIfInBounds_toArray, List.set_cons_zero, List.set_cons_succ]
    refine wpAnyH_take (i := 7) (v := .bool false) rfl (by kernel_rfl) (by kernel_rfl) (by kernel_rfl) (fun _ _ _ h => h) (Or.inl ⟨by rfl, fun w2 h2 => by (first | rfl | go_simp)⟩) (by assumption) ?_
    simp only [Act.put, List.getElem_toArray, List.getElem_cons_zero, List.getElem_cons_succ, List.setIfInBounds_toArray, List.set_cons_zero, List.set_cons_succ]
    refine wpAnyH_done (by kernel_rfl) ?_ _
    go_wp2
    exact bodyPost_ret (results_row_b rfl _ _ w.heap.size 77 _ _ _ rfl rfl (hr.put _) Try.underlying77 rfl (by rw [row_size]; kernel_rfl)) rfl ⟨rfl, bel_setRow hbb (Nat.le_refl _) _⟩
  · refine wpAnyH_take (i := 1) (v := .bool true) rfl (by kernel_rfl) (by kernel_rfl) (by kernel_rfl) (fun _ _ _ h => h) (Or.inl ⟨by rfl, fun w2 h2 => by (first | rfl | go_simp)⟩) (by assumption) ?_
    simp only [Act.put, List.getElem_toArray, List.getElem_cons_zero, List.getElem_cons_succ, List.setIfInBounds_toArray, List.set_cons_zero, List.set_cons_succ]
    refine wpAnyH_take (i := 2) (v := .bool true) rfl (by kernel_rfl) (by kernel_rfl) (by kernel_rfl) (fun _ _ _ h => h) (Or.inl ⟨by rfl, fun w2 h2 => by (first | rfl | go_simp)⟩) (by assumption) ?_
    simp only [Act.put, List.getElem_toArray, List.getElem_cons_zero, List.getElem_cons_succ, List.setIfInBounds_toArray, List.set_cons_zero, List.set_cons_succ]
    refine wpAnyH_take (i := 3) (v := .int .i64 p) rfl (by kernel_rfl) (by kernel_rfl) (by kernel_rfl) (fun _ _ _ h => h) (Or.inl ⟨by rfl, fun w2 h2 => by (first | rfl | go_simp)⟩) (by assumption) ?_
    simp only [Act.put, List.getElem_toArray, List.getElem_cons_zero, List.getElem_cons_succ, List.setIfInBounds_toArray, List.set_cons_zero, List.set_cons_succ]
    refine wpAnyH_ready (rs := [4]) (by kernel_rfl) (by simp) ?_
    refine AllReadyH.cons rfl (fun K hK => ?_) AllReadyH.nil
    rw [if_pos (by rfl)]
    go_simp
    refine (i_ConditionValid _ _).mono ?_
    rintro e w2 ⟨rfl, rfl⟩
    refine hK.out _ _ hS (fun hS => ?_)
    simp only [Act.put, List.getElem_toArray, List.getElem_cons_zero, List.getElem_cons_succ, List.setIfInBounds_toArray, List.set_cons_zero, List.set_cons_succ]
    refine wpAnyH_take (i := 5) (v := .bool (cvB p)) rfl (by kernel_rfl) (by kernel_rfl) (by kernel_rfl) (fun _ _ _ h => h) (Or.inl ⟨by rfl, fun w2 h2 => by (first | rfl | go_simp)⟩) (by assumption) ?_
    simp only [Act.put, List.getElem_toArray, List.getElem_cons_zero, List.getElem_cons_succ, List.setIfInBounds_toArray, List.set_cons_zero, List.set_cons_succ]
    refine wpAnyH_ready (rs := [6]) (by kernel_rfl) (by simp) ?_
    refine AllReadyH.cons rfl (fun K hK => ?_) AllReadyH.nil
    rw [if_pos (by rfl)]
    refine wp_store_row 77 _ _ rfl w.heap.size (row 16 (trF s)) rfl rfl 77 _ hr (by rw [row_size]; kernel_rfl) (by rw [row_size, row_size]) (row_one _ _) ?_
    refine hK.out _ _ (hz.drew.putOther _ hne) (fun hS => ?_)
    simp only [Act.put, List.getElem_toArray, List.getElem_cons_zero, List.getElem_cons_succ, List.setIfInBounds_toArray, List.set_cons_zero, List.set_cons_succ]
    refine wpAnyH_take (i := 7) (v := .bool (cvB p)) rfl (by kernel_rfl) (by kernel_rfl) (by kernel_rfl) (fun _ _ _ h => h) (Or.inl ⟨by rfl, fun w2 h2 => by (first | rfl | go_simp)⟩) (by assumption) ?_
    simp only [Act.put, List.getElem_toArray, List.getElem_cons_zero, List.getElem_cons_succ, List.setIfInBounds_toArray, List.set_cons_zero, List.set_cons_succ]
    refine wpAnyH_done (by kernel_rfl) ?_ _
    go_wp2
    exact bodyPost_ret (results_row_b rfl _ _ w.heap.size 77 _ _ _ rfl rfl (hr.put _) Try.underlying77 rfl (by rw [row_size]; kernel_rfl)) rfl ⟨rfl, bel_setRow hbb (Nat.le_refl _) _⟩
end Go.Proofs.Ytiaeakpgldpaiaa
namespace Go.Proofs.Ytiaeakpgldpaiaa
set_option linter.unusedSimpArgs false
set_option linter.unusedVariables false
set_option maxRecDepth 4000
open Go.RowKit

/-- A function value that says whether each number below n is so. -/
def PrIs (P : Program) (fv : Value) (w : World) (f : Nat → Bool) (n : Nat) : Prop :=
  ∃ g lb, fv = .func (.func g) #[] lb ∧ (∀ args w, (callFunc g args).run P w = .ok (.enter g args) w) ∧
    ∀ (W : World) (p : Nat), Below w.heap.size w W → p < n → Calls P g (#[.int .i64 (p : Int)] ++ lb) W fun e W' => e = .returned (.bool (f p)) ∧ Below W.heap.size W W'
/-- .. or each pair. -/
def Pr2Is (P : Program) (fv : Value) (w : World) (f : Nat → Nat → Bool) (n : Nat) : Prop :=
  ∃ g lb, fv = .func (.func g) #[] lb ∧ (∀ args w, (callFunc g args).run P w = .ok (.enter g args) w) ∧
    ∀ (W : World) (p q : Nat), Below w.heap.size w W → p < n → q < n → Calls P g (#[.int .i64 (p : Int), .int .i64 (q : Int)] ++ lb) W fun e W' => e = .returned (.bool (f p q)) ∧ Below W.heap.size W W'

set_option maxHeartbeats 1000000 in
theorem i_makeRel (fv : Value) (f : Nat → Nat → Bool) (w : World) (hf : Pr2Is Try.prog fv w f 4) : Calls Try.prog 119 #[fv] w fun e w' => e = .returned (.agg (row 4 (fun s => mkC (f s) 4))) ∧ Below w.heap.size w w' := by
  obtain ⟨g, lb, rfl, hent, hcall⟩ := hf
  have HC := Lib.hid hcall; clear hcall
  go_enter Try.func119, Try.ntmps119
  go_wp2_with fail
  go_loopw [7] (fun t wr => ∃ k : Nat, k ≤ 4 ∧ t = .int .i64 k ∧ RowAt wr (w.heap.size + 1) 68 (row 4 (fun i => if i < k then mkC (f i) 4 else 0)) ∧ RowAt wr w.heap.size 68 (row 4 (fun _ => 0)) ∧ Below w.heap.size w wr) (fun t _ => (4 - intOf t).toNat)
  case atStart => exact ⟨0, by omega, rfl, RowAt.fresh1 _ _ _ _, (RowAt.fresh _ _ _).alloc _, ((Below.refl _ _).alloc (Nat.le_refl _) _).alloc (by simp) _⟩
  case round =>
    obtain ⟨k, hk, rfl, hr1, hr0, hb⟩ := hrel
    by_cases hlt : k < 4
    · have hd : decide ((k : Int) < 4) = true := by simp; omega
      go_wp2_with fail
      clear hd
      go_loopw [10] (fun t wr => ∃ j : Nat, j ≤ 4 ∧ t = .int .i64 j ∧ RowAt wr (w.heap.size + 1) 68 (row 4 (fun i => if i < k then mkC (f i) 4 else if i = k then mkC (f k) j else 0)) ∧ RowAt wr w.heap.size 68 (row 4 (fun _ => 0)) ∧ Below w.heap.size w wr) (fun t _ => (4 - intOf t).toNat)
      case atStart => exact ⟨0, by omega, rfl, hr1.of (row_congr fun i _ => by split <;> simp [mkC]), hr0, hb⟩
      case round =>
        clear hr1 hr0 hb
        obtain ⟨j, hj, rfl, hr1, hr0, hb⟩ := hrel
        by_cases hlj : j < 4
        · have e1 := wrap_one (t := j) (by omega)
          have hz : mkC (f k) j < 16 := by
            have h1 := mkC_lt (f k) j
            have h2 : 2 ^ j ≤ 2 ^ 4 := Nat.pow_le_pow_right (by decide) hj
            omega
          have e2 := bits_or_nat (mkC (f k) j) (one j) (by omega) (by have := one_lt hlj; omega)
          cases hp : f k j
          · have HP := Lib.hid hp; clear hp
            go_wp2_with fail
            refine (HC.out _ k j hb hlt hlj).mono ?_
            rw [HP.out]
            rintro e w1 ⟨rfl, hb1⟩
            have hr1' := hr1.later hb1
            have hr0' := hr0.later hb1
            go_wp2_with fail
            go_roundw
            case rel => exact ⟨j + 1, by omega, by go_num, hr1'.of (row_congr fun i _ => by rw [show mkC (f k) (j + 1) = mkC (f k) j by rw [mkC, HP.out]; rfl]), hr0', bel_on hb hb1 hb.size⟩
            case measure => simp [intOf]; omega
          · have HP := Lib.hid hp; clear hp
            go_wp2_with fail
            refine (HC.out _ k j hb hlt hlj).mono ?_
            rw [HP.out]
            rintro e w1 ⟨rfl, hb1⟩
            have hr1' := hr1.later hb1
            have hr0' := hr0.later hb1
            have hbb := bel_on hb hb1 hb.size
            have hc := hr1'.cell k hlt
            rw [if_neg (Nat.lt_irrefl k), if_pos rfl] at hc
            have hf := hr1'.free k
            have i1 := lt_cast hlt
            clear hb1 hb hr1 hr0
            go_wp2_with fail
            go_region
            all_goals
              go_wp2_with fail
              go_roundw
              case rel =>
                refine ⟨j + 1, by omega, by go_num, (hr1'.set k (mkC (f k) j ||| one j)).of (row_congr fun i _ => ?_), hr0'.other _ _ (by simp), (hbb.setCell (by simp) _).drew⟩
                unfold upd
                by_cases hik : i = k
                · subst hik
                  simp only [if_true, Nat.lt_irrefl, if_false]
                  rw [mkC, HP.out]; rfl
                · simp [hik]
              case measure => simp [intOf]; omega
        · obtain rfl : j = 4 := by omega
          go_wp2_with fail
          go_roundw
          case rel =>
            refine ⟨k + 1, by omega, by go_num, hr1.of (row_congr fun i _ => ?_), hr0, hb⟩
            by_cases h1 : i < k
            · rw [if_pos h1, if_pos (by omega)]
            · by_cases h2 : i = k
              · subst h2; simp
              · rw [if_neg h1, if_neg h2, if_neg (by omega)]
          case measure => simp [intOf]; omega
    · obtain rfl : k = 4 := by omega
      have hr1 := hr1.of (row_congr (G := fun s => mkC (f s) 4) (fun i hi => by simp [hi]))
      go_wp2_with (first | (refine wpList_load_row rfl 68 _ rfl (w.heap.size + 1) rfl 68 (row 4 (fun s => mkC (f s) 4)) (0, 0) _ hr1 Try.underlying68 rfl (by rw [row_size]; kernel_rfl) ?_) | (refine wpList_store_row rfl 68 _ _ rfl (w.heap.size) (row 4 (fun s => mkC (f s) 4)) rfl rfl 68 _ hr0 (by rw [row_size]; kernel_rfl) (by first | rfl | (rw [row_size, row_size]) | (simp [row_size]; done)) (row_one _ _) ?_))
      have hr := hr0.put (row 4 (fun s => mkC (f s) 4))
      exact bodyPost_ret (results_cell_row rfl _ _ w.heap.size 68 _ (0, 0) _ rfl hr Try.underlying68 rfl (by rw [row_size]; kernel_rfl)) rfl ⟨rfl, bel_setRow hb (Nat.le_refl _) _⟩
theorem i_leastPoint (fv : Value) (f : Nat → Nat) (w : World) (hf : FnIs Try.prog fv w f 16) (hB : Bd f) (hM : Mono f) : Calls Try.prog 130 #[fv] w fun e w' => e = .returned (.int .i64 (lfp f : Int)) ∧ Below w.heap.size w w' := by
  obtain ⟨g, lb, rfl, hent, hcall⟩ := hf
  have HC := Lib.hid hcall; have HB := Lib.hid hB; have HM := Lib.hid hM; clear hcall hB hM
  go_enter Try.func130, Try.ntmps130
  go_wp2_with fail
  go_loopw [3] (fun ys wr => ∃ n y : Nat, y < 16 ∧ ys = .int .i64 y ∧ Hid (y = iter f 0 n) ∧ Below w.heap.size w wr) (fun ys _ => 5 - pc (intOf ys).toNat)
  case atStart => exact ⟨0, 0, by omega, rfl, Lib.hid rfl, Below.refl _ _⟩
  case round =>
    obtain ⟨n, y, hy, rfl, HY, hb⟩ := hrel
    by_cases he : f y = y
    · have hne : ((f y : Int) != (y : Int)) = false := by rw [he]; simp
      have HE := Lib.hid he; clear he
      go_wp2_with fail
      refine (HC.out _ y hb hy).mono ?_
      rintro e w1 ⟨rfl, hb1⟩
      go_wp2_with fail
      go_ret
      refine ⟨ret_int ?_, bel_on hb hb1 hb.size⟩
      have h1 := HY.out; have h2 := HE.out
      subst h1
      rw [lfp_of HB.out HM.out h2]
    · have hne : ((f y : Int) != (y : Int)) = true := by rw [bne_iff_ne]; omega
      have HE := Lib.hid he; clear he
      go_wp2_with fail
      refine (HC.out _ y hb hy).mono ?_
      rintro e w1 ⟨rfl, hb1⟩
      have hb2 := bel_on hb hb1 hb.size
      go_wp2_with fail
      refine (HC.out _ y hb2 hy).mono ?_
      rintro e w2 ⟨rfl, hb3⟩
      go_wp2_with fail
      go_roundw
      case rel => exact ⟨n + 1, _, HB.out y hy, rfl, Lib.hid (by rw [HY.out]; rfl), bel_on hb2 hb3 hb2.size⟩
      case measure =>
        show 5 - pc ((f y : Int)).toNat < 5 - pc ((y : Int)).toNat
        rw [Int.toNat_natCast, Int.toNat_natCast]
        have := pc_lt hy (HB.out y hy) (by rw [HY.out]; exact iter_up HB.out HM.out n) (fun h => HE.out h.symm)
        have := pc_le (f y)
        omega
theorem i_greatestPoint (fv : Value) (f : Nat → Nat) (w : World) (hf : FnIs Try.prog fv w f 16) (hB : Bd f) (hM : Mono f) : Calls Try.prog 134 #[fv] w fun e w' => e = .returned (.int .i64 (gfp f : Int)) ∧ Below w.heap.size w w' := by
  obtain ⟨g, lb, rfl, hent, hcall⟩ := hf
  have HC := Lib.hid hcall; have HB := Lib.hid hB; have HM := Lib.hid hM; clear hcall hB hM
  go_enter Try.func134, Try.ntmps134
  go_wp2_with fail
  go_loopw [3] (fun ys wr => ∃ n y : Nat, y < 16 ∧ ys = .int .i64 y ∧ Hid (y = iter f 15 n) ∧ Below w.heap.size w wr) (fun ys _ => pc (intOf ys).toNat)
  case atStart => exact ⟨0, 15, by omega, rfl, Lib.hid rfl, Below.refl _ _⟩
  case round =>
    obtain ⟨n, y, hy, rfl, HY, hb⟩ := hrel
    by_cases he : f y = y
    · have hne : ((f y : Int) != (y : Int)) = false := by rw [he]; simp
      have HE := Lib.hid he; clear he
      go_wp2_with fail
      refine (HC.out _ y hb hy).mono ?_
      rintro e w1 ⟨rfl, hb1⟩
      go_wp2_with fail
      go_ret
      refine ⟨ret_int ?_, bel_on hb hb1 hb.size⟩
      have h1 := HY.out; have h2 := HE.out
      subst h1
      rw [gfp_of HB.out HM.out h2]
    · have hne : ((f y : Int) != (y : Int)) = true := by rw [bne_iff_ne]; omega
      have HE := Lib.hid he; clear he
      go_wp2_with fail
      refine (HC.out _ y hb hy).mono ?_
      rintro e w1 ⟨rfl, hb1⟩
      have hb2 := bel_on hb hb1 hb.size
      go_wp2_with fail
      refine (HC.out _ y hb2 hy).mono ?_
      rintro e w2 ⟨rfl, hb3⟩
      go_wp2_with fail
      go_roundw
      case rel => exact ⟨n + 1, _, HB.out y hy, rfl, Lib.hid (by rw [HY.out]; rfl), bel_on hb2 hb3 hb2.size⟩
      case measure =>
        show pc ((f y : Int)).toNat < pc ((y : Int)).toNat
        rw [Int.toNat_natCast, Int.toNat_natCast]
        exact pc_lt (HB.out y hy) hy (by rw [HY.out]; exact iter_down HB.out HM.out n) HE.out
end Go.Proofs.Ytiaeakpgldpaiaa
namespace Go.Proofs.Ytiaeakpgldpaiaa
set_option linter.unusedSimpArgs false
set_option linter.unusedVariables false
set_option maxRecDepth 4000
open Go.RowKit

theorem bel_3 (w : World) (a b c : Obj) : Below w.heap.size w (((w.alloc a).alloc b).alloc c) := (((Below.refl _ _).alloc (Nat.le_refl _) _).alloc (by simp) _).alloc (by simp; omega) _
theorem bel_2 (w : World) (a b : Obj) : Below w.heap.size w ((w.alloc a).alloc b) := ((Below.refl _ _).alloc (Nat.le_refl _) _).alloc (by simp) _
theorem bel_1 (w : World) (a : Obj) : Below w.heap.size w (w.alloc a) := (Below.refl _ _).alloc (Nat.le_refl _) _

theorem fn_assert (w : World) (B : Nat) (p : Nat) (hp : p < 16) (h : RowAt w B 3 #[.int .i64 (p : Int)]) : FnIs Try.prog (.func (.func 224) #[] #[.pointer (some ⟨B, 0, none⟩)]) w (fun q => p &&& q) 16 :=
  ⟨224, _, rfl, enters_of Try.func224 (by kernel_rfl) rfl, fun W q hb hq => by
    have c : W.cell? ⟨B, 0, none⟩ = some (.int .i64 (p : Int)) := (h.later hb).get 0
    have e1 := bits_and_nat p q (by omega) (by omega)
    show Calls Try.prog 224 #[.int .i64 (q : Int), .pointer (some ⟨B, 0, none⟩)] W _
    go_enter Try.func224, Try.ntmps224
    go_wp2
    go_ret
    exact ⟨rfl, Below.refl _ _⟩⟩
theorem i_assert (p : Nat) (w : World) (hp : p < 16) : Calls Try.prog 155 #[.int .i64 (p : Int)] w fun e w' => e = .returned (.agg (row 16 (fun q => p &&& q))) ∧ Below w.heap.size w w' := by
  have h1 := (RowAt.fresh w 3 #[.int .i64 (p : Int)]).alloc (.cells (row 16 (fun _ => 0)) 77)
  have h2 := RowAt.fresh1 w (.cells #[.int .i64 (p : Int)] 3) 77 (row 16 (fun _ => 0))
  go_enter Try.func155, Try.ntmps155
  go_wp2_with fail
  refine (i_makeTrans _ (fun q => p &&& q) _ (fn_assert _ _ p hp h1)).mono ?_
  rintro e w1 ⟨rfl, hb⟩
  have hr := (h2).later hb
  go_wp2_with (refine wpList_store_row rfl 77 _ _ rfl (w.heap.size + 1) (row 16 (fun q => p &&& q)) rfl rfl 77 _ hr (by rw [row_size]; kernel_rfl) (by first | rfl | (rw [row_size, row_size]) | (simp [row_size]; done)) (row_one _ _) ?_)
  refine bodyPost_ret (results_cell_row rfl _ _ (w.heap.size + 1) 77 _ (0, 0) _ rfl (hr.put _) Try.underlying77 rfl (by rw [row_size]; kernel_rfl)) rfl ⟨rfl, ?_⟩
  exact bel_setRow (bel_on (bel_2 w _ _) hb (by simp; omega)) (by omega) _
theorem fn_then (w : World) (B C : Nat) (T U : Nat → Nat) (hU : Bd U) (h1 : RowAt w B 77 (row 16 T)) (h2 : RowAt w C 77 (row 16 U)) : FnIs Try.prog (.func (.func 225) #[] #[.pointer (some ⟨B, 0, none⟩), .pointer (some ⟨C, 0, none⟩)]) w (fun p => T (U p)) 16 :=
  ⟨225, _, rfl, enters_of Try.func225 (by kernel_rfl) rfl, fun W p hb hp => by
    have c2 := (h2.later hb).cell p hp
    have c1 := (h1.later hb).cell (U p) (hU p hp)
    have hu := hU p hp
    show Calls Try.prog 225 #[.int .i64 (p : Int), .pointer (some ⟨B, 0, none⟩), .pointer (some ⟨C, 0, none⟩)] W _
    clear hU h1 h2
    go_enter Try.func225, Try.ntmps225
    go_wp2
    go_ret
    exact ⟨rfl, Below.refl _ _⟩⟩
theorem i_then (T U : Nat → Nat) (w : World) (hU : Bd U) : Calls Try.prog 156 #[.agg (row 16 T), .agg (row 16 U)] w fun e w' => e = .returned (.agg (row 16 (fun p => T (U p)))) ∧ Below w.heap.size w w' := by
  have h1 := ((RowAt.fresh w 77 (row 16 T)).alloc (.cells (row 16 U) 77)).alloc (.cells (row 16 (fun _ => 0)) 77)
  have h2 := (RowAt.fresh1 w (.cells (row 16 T) 77) 77 (row 16 U)).alloc (.cells (row 16 (fun _ => 0)) 77)
  have h3 := RowAt.fresh2 w (.cells (row 16 T) 77) (.cells (row 16 U) 77) 77 (row 16 (fun _ => 0))
  go_enter Try.func156, Try.ntmps156
  go_wp2_with fail
  refine (i_makeTrans _ (fun p => T (U p)) _ (fn_then _ _ _ T U hU h1 h2)).mono ?_
  rintro e w1 ⟨rfl, hb⟩
  have hr := (h3).later hb
  go_wp2_with (refine wpList_store_row rfl 77 _ _ rfl (w.heap.size + 2) (row 16 (fun p => T (U p))) rfl rfl 77 _ hr (by rw [row_size]; kernel_rfl) (by first | rfl | (rw [row_size, row_size]) | (simp [row_size]; done)) (row_one _ _) ?_)
  refine bodyPost_ret (results_cell_row rfl _ _ (w.heap.size + 2) 77 _ (0, 0) _ rfl (hr.put _) Try.underlying77 rfl (by rw [row_size]; kernel_rfl)) rfl ⟨rfl, ?_⟩
  exact bel_setRow (bel_on (bel_3 w _ _ _) hb (by simp; omega)) (by omega) _
theorem fn_leastPoint (w : World) (B : Nat) (T : Nat → Nat) (h1 : RowAt w B 77 (row 16 T)) : FnIs Try.prog (.func (.func 140) #[] #[.pointer (some ⟨B, 0, none⟩)]) w T 16 :=
  ⟨140, _, rfl, enters_of Try.func140 (by kernel_rfl) rfl, fun W p hb hp => by
    have c1 := (h1.later hb).cell p hp
    show Calls Try.prog 140 #[.int .i64 (p : Int), .pointer (some ⟨B, 0, none⟩)] W _
    go_enter Try.func140, Try.ntmps140
    go_wp2
    go_ret
    exact ⟨rfl, Below.refl _ _⟩⟩
theorem fn_greatestPoint (w : World) (B : Nat) (T : Nat → Nat) (h1 : RowAt w B 77 (row 16 T)) : FnIs Try.prog (.func (.func 141) #[] #[.pointer (some ⟨B, 0, none⟩)]) w T 16 :=
  ⟨141, _, rfl, enters_of Try.func141 (by kernel_rfl) rfl, fun W p hb hp => by
    have c1 := (h1.later hb).cell p hp
    show Calls Try.prog 141 #[.int .i64 (p : Int), .pointer (some ⟨B, 0, none⟩)] W _
    go_enter Try.func141, Try.ntmps141
    go_wp2
    go_ret
    exact ⟨rfl, Below.refl _ _⟩⟩
theorem fn_greatestIn (w : World) (B C : Nat) (T : Nat → Nat) (q : Nat) (hT : ∀ k, T k < 16) (hq : q < 16) (h1 : RowAt w B 77 (row 16 T)) (h2 : RowAt w C 3 #[.int .i64 (q : Int)]) : FnIs Try.prog (.func (.func 137) #[] #[.pointer (some ⟨B, 0, none⟩), .pointer (some ⟨C, 0, none⟩)]) w (eqA T q) 16 :=
  ⟨137, _, rfl, enters_of Try.func137 (by kernel_rfl) rfl, fun W p hb hp => by
    have c1 := (h1.later hb).cell p hp
    have c2 : W.cell? ⟨C, 0, none⟩ = some (.int .i64 (q : Int)) := (h2.later hb).get 0
    have e1 := bits_and_nat (T p) q (by have := hT p; omega) (by omega)
    have i1 := lt_cast hp
    show Calls Try.prog 137 #[.int .i64 (p : Int), .pointer (some ⟨B, 0, none⟩), .pointer (some ⟨C, 0, none⟩)] W _
    clear h1 h2 hT hb
    go_enter Try.func137, Try.ntmps137
    go_wp2
    go_quiet (fail)
    go_wp2
    go_ret
    exact ⟨rfl, bel_drewN (Below.refl _ _) _⟩⟩
theorem fn_leastFrom (w : World) (B C : Nat) (T : Nat → Nat) (q : Nat) (hT : ∀ k, T k < 16) (hq : q < 16) (h1 : RowAt w B 77 (row 16 T)) (h2 : RowAt w C 3 #[.int .i64 (q : Int)]) : FnIs Try.prog (.func (.func 136) #[] #[.pointer (some ⟨B, 0, none⟩), .pointer (some ⟨C, 0, none⟩)]) w (eqO T q) 16 :=
  ⟨136, _, rfl, enters_of Try.func136 (by kernel_rfl) rfl, fun W p hb hp => by
    have c1 := (h1.later hb).cell p hp
    have c2 : W.cell? ⟨C, 0, none⟩ = some (.int .i64 (q : Int)) := (h2.later hb).get 0
    have e1 := bits_or_nat (T p) q (by have := hT p; omega) (by omega)
    have i1 := lt_cast hp
    show Calls Try.prog 136 #[.int .i64 (p : Int), .pointer (some ⟨B, 0, none⟩), .pointer (some ⟨C, 0, none⟩)] W _
    clear h1 h2 hT hb
    go_enter Try.func136, Try.ntmps136
    go_wp2
    go_quiet (fail)
    go_wp2
    go_ret
    exact ⟨rfl, bel_drewN (Below.refl _ _) _⟩⟩
theorem fn_assign (w : World) (A B : Nat) (s t : Nat) (h0 : RowAt w A 3 #[.int .i64 (s : Int)]) (h1 : RowAt w B 3 #[.int .i64 (t : Int)]) : Pr2Is Try.prog (.func (.func 227) #[] #[.pointer (some ⟨A, 0, none⟩), .pointer (some ⟨B, 0, none⟩)]) w (fAsg s t) 4 :=
  ⟨227, _, rfl, enters_of Try.func227 (by kernel_rfl) rfl, fun W a b hb ha hb' => by
    have c0 : W.cell? ⟨A, 0, none⟩ = some (.int .i64 (s : Int)) := (h0.later hb).get 0
    have c1 : W.cell? ⟨B, 0, none⟩ = some (.int .i64 (t : Int)) := (h1.later hb).get 0
    show Calls Try.prog 227 #[.int .i64 (a : Int), .int .i64 (b : Int), .pointer (some ⟨A, 0, none⟩), .pointer (some ⟨B, 0, none⟩)] W _
    clear h0 h1 hb
    by_cases h1 : a = s
    · have b1 : ((a : Int) == (s : Int)) = true := by simp [h1]
      have b2 : ((a : Int) != (s : Int)) = false := by simp [h1]
      have H1 := Lib.hid h1; clear h1
      by_cases h2 : b = t
      · have b3 : ((b : Int) == (t : Int)) = true := by simp [h2]
        have H2 := Lib.hid h2; clear h2
        go_enter Try.func227, Try.ntmps227
        go_wp2
        go_ret
        exact ⟨ret_bool (by unfold fAsg; rw [if_pos H1.out, decide_eq_true H2.out]), Below.refl _ _⟩
      · have b3 : ((b : Int) == (t : Int)) = false := by rw [beq_eq_false_iff_ne]; omega
        have H2 := Lib.hid h2; clear h2
        go_enter Try.func227, Try.ntmps227
        go_wp2
        go_ret
        exact ⟨ret_bool (by unfold fAsg; rw [if_pos H1.out, decide_eq_false H2.out]), Below.refl _ _⟩
    · have b1 : ((a : Int) == (s : Int)) = false := by rw [beq_eq_false_iff_ne]; omega
      have b2 : ((a : Int) != (s : Int)) = true := by rw [bne_iff_ne]; omega
      have H1 := Lib.hid h1; clear h1
      go_enter Try.func227, Try.ntmps227
      go_wp2
      go_ret
      refine ⟨ret_bool ?_, Below.refl _ _⟩
      unfold fAsg
      rw [if_neg H1.out]
      show ((a : Int) == (b : Int)) = decide (a = b)
      by_cases h : a = b <;> simp [h]; omega⟩
end Go.Proofs.Ytiaeakpgldpaiaa
