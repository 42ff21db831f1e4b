/- The program's proofs of loops: FindProof, ProvesLoop. -/
import Derived.Test.YtiaeakpgldpaiaaQImplRk
import Derived.Test.YtiaeakpgldpaiaaQImplI
import Derived.Test.YtiaeakpgldpaiaaQImplL
import Derived.Test.YtiaeakpgldpaiaaQSpecPl
namespace Go.Proofs.Ytiaeakpgldpaiaa
set_option linter.unusedSimpArgs false
set_option linter.unusedVariables false
set_option maxRecDepth 4000
open Go.RowKit

set_option maxHeartbeats 2000000 in
theorem i_FindProof (p : Int) (t : ByteArray) (q : Int) (w : World) : Calls Try.prog 67 #[.int .i64 p, .string t, .int .i64 q] w fun e w' => ∃ v, e = .returned (.tuple #[.int .i64 (optI ((trOk t && cvB p) && cvB q) (fWhile p.toNat (dig t) q.toNat)), v]) ∧ IntsAt w.heap.size w' v (rkList ((trOk t && cvB p) && cvB q) (fBody p.toNat (dig t)) (andn q.toNat p.toNat)) ∧ Below w.heap.size w w' := by
  cases hok : (trOk t && cvB p)
  · go_enter Try.func67, Try.ntmps67
    go_wp2_with fail
    refine (i_body _ _ _).mono ?_
    rw [hok]
    rintro e w1 ⟨rfl, hb⟩
    have hr0 := RowAt.fresh1 w1 (.cells (row 16 (trF t)) 77) 3 #[]
    have hb2 := bel_on' hb (((Below.refl _ w1).alloc (Nat.le_refl _) (.cells (row 16 (trF t)) 77)).alloc (by simp) (.cells #[] 3))
    have hi := IntsAt.of_lit (B := w.heap.size) (zs := []) (by have := hb.size; omega) hr0 (by unfold maxLen; simp)
    have HI := Lib.hid hi; clear hi hr0
    go_wp2_with (refine wpList_store_new rfl 77 _ _ rfl (row 16 (trF t)) rfl rfl (by rw [row_size]; kernel_rfl) (by first | rfl | (rw [row_size, row_size]) | (simp [row_size]; done)) (row_one _ _) ?_)
    go_ret2
    exact ⟨_, rfl, HI.out, hb2⟩
  cases hq : cvB q
  · go_enter Try.func67, Try.ntmps67
    go_wp2_with fail
    refine (i_body _ _ _).mono ?_
    rw [hok]
    rintro e w1 ⟨rfl, hb⟩
    have hr0 := RowAt.fresh1 w1 (.cells (row 16 (trF t)) 77) 3 #[]
    have hb2 := bel_on' hb (((Below.refl _ w1).alloc (Nat.le_refl _) (.cells (row 16 (trF t)) 77)).alloc (by simp) (.cells #[] 3))
    have hi := IntsAt.of_lit (B := w.heap.size) (zs := []) (by have := hb.size; omega) hr0 (by unfold maxLen; simp)
    have HI := Lib.hid hi; clear hi hr0
    go_wp2_with (first | (refine wpList_store_new rfl 77 _ _ rfl (row 16 (trF t)) rfl rfl (by rw [row_size]; kernel_rfl) (by first | rfl | (rw [row_size, row_size]) | (simp [row_size]; done)) (row_one _ _) ?_) | (go_at_call 56; refine (i_ConditionValid _ _).mono ?_; rw [hq]; rintro e w2 ⟨rfl, rfl⟩))
    go_ret2
    exact ⟨_, rfl, HI.out, hb2⟩
  · have g := hok
    rw [Bool.and_eq_true] at g
    obtain ⟨n, hn, rfl⟩ := (cvB_iff p).1 g.2
    obtain ⟨m, hm, rfl⟩ := (cvB_iff q).1 hq
    have K1 := Lib.hid (trF_ok g.1); have K2 := Lib.hid (dig_mono g.1)
    clear g
    have hqp : andn m n < 16 := andn_lt hm
    have e1 := bits_andn_nat m n hm hn
    have HB1 := Lib.hid (show Bd (fBody n (dig t)) from fun x _ => fBody_lt _ hn x)
    have HB2 := Lib.hid (fBody_mono n K2.out)
    go_enter Try.func67, Try.ntmps67
    go_wp2_with fail
    refine (i_body _ _ _).mono ?_
    rw [hok, K1.out]
    rintro e w1 ⟨rfl, hb⟩
    have r1 := (RowAt.fresh w1 77 (row 16 (dig t))).drew
    have hbb := (bel_on' hb ((Below.refl _ w1).alloc (Nat.le_refl _) (.cells (row 16 (dig t)) 77))).drew
    go_wp2_with (first | (refine wpList_store_new rfl 77 _ _ rfl (row 16 (dig t)) rfl rfl (by rw [row_size]; kernel_rfl) (by first | rfl | (rw [row_size, row_size]) | (simp [row_size]; done)) (row_one _ _) ?_) | (go_at_call 56; refine (i_ConditionValid _ _).mono ?_; rw [hq]; rintro e w2 ⟨rfl, rfl⟩))
    clear hb
    refine wp_region_held_drew (S := fun w3 => RowAt w3 w1.heap.size 77 (row 16 (dig t)) ∧ Below w.heap.size w w3) (by kernel_rfl) (⟨r1, hbb⟩) (fun hS => ?_)
    simp only [List.size_toArray, List.length_cons, List.length_nil, Nat.zero_add, Nat.reduceAdd, Array.replicate_succ, Array.replicate_zero, List.push_toArray, List.append_toArray, List.nil_append, List.cons_append]
    refine wpAnyH_take (i := 0) (v := .int .i64 (n : Int)) rfl (by kernel_rfl) (by kernel_rfl) (by kernel_rfl) (fun _ _ _ h => h) (Or.inl ⟨by rfl, fun w2 h2 => by (first | rfl | go_simp)⟩) (by assumption) ?_
    simp only [Act.put, List.getElem_toArray, List.getElem_cons_zero, List.getElem_cons_succ, List.setIfInBounds_toArray, List.set_cons_zero, List.set_cons_succ]
    refine wpAnyH_take (i := 1) (v := .agg (row 16 (dig t))) rfl (by kernel_rfl) (by kernel_rfl) (by kernel_rfl) (fun _ _ _ h => h) (yieldsIf_load_row (by rfl) 77 _ rfl w1.heap.size rfl 77 (row 16 (dig t)) _ (fun _ h => h.1) Try.underlying77 rfl (by rw [row_size]; kernel_rfl)) (by assumption) ?_
    simp only [Act.put, List.getElem_toArray, List.getElem_cons_zero, List.getElem_cons_succ, List.setIfInBounds_toArray, List.set_cons_zero, List.set_cons_succ]
    refine wpAnyH_take (i := 3) (v := .int .i64 (m : Int)) rfl (by kernel_rfl) (by kernel_rfl) (by kernel_rfl) (fun _ _ _ h => h) (Or.inl ⟨by rfl, fun w2 h2 => by (first | rfl | go_simp)⟩) (by assumption) ?_
    simp only [Act.put, List.getElem_toArray, List.getElem_cons_zero, List.getElem_cons_succ, List.setIfInBounds_toArray, List.set_cons_zero, List.set_cons_succ]
    refine wpAnyH_take (i := 5) (v := .int .i64 (n : Int)) rfl (by kernel_rfl) (by kernel_rfl) (by kernel_rfl) (fun _ _ _ h => h) (Or.inl ⟨by rfl, fun w2 h2 => by (first | rfl | go_simp)⟩) (by assumption) ?_
    simp only [Act.put, List.getElem_toArray, List.getElem_cons_zero, List.getElem_cons_succ, List.setIfInBounds_toArray, List.set_cons_zero, List.set_cons_succ]
    refine wpAnyH_take (i := 7) (v := .agg (row 16 (dig t))) rfl (by kernel_rfl) (by kernel_rfl) (by kernel_rfl) (fun _ _ _ h => h) (yieldsIf_load_row (by rfl) 77 _ rfl w1.heap.size rfl 77 (row 16 (dig t)) _ (fun _ h => h.1) Try.underlying77 rfl (by rw [row_size]; kernel_rfl)) (by assumption) ?_
    simp only [Act.put, List.getElem_toArray, List.getElem_cons_zero, List.getElem_cons_succ, List.setIfInBounds_toArray, List.set_cons_zero, List.set_cons_succ]
    refine wpAnyH_take (i := 9) (v := .int .i64 (m : Int)) rfl (by kernel_rfl) (by kernel_rfl) (by kernel_rfl) (fun _ _ _ h => h) (Or.inl ⟨by rfl, fun w2 h2 => by (first | rfl | go_simp)⟩) (by assumption) ?_
    simp only [Act.put, List.getElem_toArray, List.getElem_cons_zero, List.getElem_cons_succ, List.setIfInBounds_toArray, List.set_cons_zero, List.set_cons_succ]
    refine wpAnyH_take (i := 10) (v := .int .i64 (n : Int)) rfl (by kernel_rfl) (by kernel_rfl) (by kernel_rfl) (fun _ _ _ h => h) (Or.inl ⟨by rfl, fun w2 h2 => by (first | rfl | go_simp)⟩) (by assumption) ?_
    simp only [Act.put, List.getElem_toArray, List.getElem_cons_zero, List.getElem_cons_succ, List.setIfInBounds_toArray, List.set_cons_zero, List.set_cons_succ]
    refine wpAnyH_take (i := 11) (v := .int .i64 ((andn m n : Nat) : Int)) rfl (by kernel_rfl) (by kernel_rfl) (by kernel_rfl) (fun _ _ _ h => h) (Or.inl ⟨by rfl, fun w2 h2 => by (first | rfl | go_simp)⟩) (by assumption) ?_
    simp only [Act.put, List.getElem_toArray, List.getElem_cons_zero, List.getElem_cons_succ, List.setIfInBounds_toArray, List.set_cons_zero, List.set_cons_succ]
    refine wpAnyH_ready (rs := [2]) (by kernel_rfl) (by simp) ?_
    refine AllReadyH.cons rfl (fun K hK => ?_) AllReadyH.nil
    rw [if_pos (by rfl)]
    go_simp
    refine (i_loop n (dig t) _ lfp _ pt_least (dig_lt t) K2.out hn).mono fun e w4 (h : e = .returned (.agg (row 16 (fWhile n (dig t)))) ∧ Below _ _ w4) => ?_
    obtain ⟨rfl, hb4⟩ := h
    refine hK.out _ _ ⟨hS.1.later hb4, bel_on' hS.2 hb4⟩ (fun hS => ?_)
    simp only [Act.put, List.getElem_toArray, List.getElem_cons_zero, List.getElem_cons_succ, List.setIfInBounds_toArray, List.set_cons_zero, List.set_cons_succ]
    have hidx := fun w => run_index_row (P := Try.prog) (F := fWhile n (dig t)) (T := 77) Try.underlying77 Try.underlying3 (by kernel_rfl) hm w
    refine wpAnyH_take (i := 4) (v := .int .i64 (fWhile n (dig t) m : Int)) rfl (by kernel_rfl) (by kernel_rfl) (by kernel_rfl) (fun _ _ _ h => h) (Or.inl ⟨by rfl, fun w2 h2 => by (first | rfl | go_simp)⟩) (by assumption) ?_
    simp only [Act.put, List.getElem_toArray, List.getElem_cons_zero, List.getElem_cons_succ, List.setIfInBounds_toArray, List.set_cons_zero, List.set_cons_succ]
    refine wpAnyH_ready (rs := [6]) (by kernel_rfl) (by simp) ?_
    refine AllReadyH.cons rfl (fun K hK => ?_) AllReadyH.nil
    rw [if_pos (by rfl)]
    go_simp
    refine (i_assert n _ hn).mono ?_
    rintro e w5 ⟨rfl, hb5⟩
    refine hK.out _ _ ⟨hS.1.later hb5, bel_on' hS.2 hb5⟩ (fun hS => ?_)
    simp only [Act.put, List.getElem_toArray, List.getElem_cons_zero, List.getElem_cons_succ, List.setIfInBounds_toArray, List.set_cons_zero, List.set_cons_succ]
    refine wpAnyH_ready (rs := [8]) (by kernel_rfl) (by simp) ?_
    refine AllReadyH.cons rfl (fun K hK => ?_) AllReadyH.nil
    rw [if_pos (by rfl)]
    go_simp
    refine (i_then (fun q => n &&& q) (dig t) _ (dig_bd t)).mono fun e w6 (h : e = .returned (.agg (row 16 (fBody n (dig t)))) ∧ Below _ _ w6) => ?_
    obtain ⟨rfl, hb6⟩ := h
    refine hK.out _ _ ⟨hS.1.later hb6, bel_on' hS.2 hb6⟩ (fun hS => ?_)
    simp only [Act.put, List.getElem_toArray, List.getElem_cons_zero, List.getElem_cons_succ, List.setIfInBounds_toArray, List.set_cons_zero, List.set_cons_succ]
    refine wpAnyH_ready (rs := [12]) (by kernel_rfl) (by simp) ?_
    refine AllReadyH.cons rfl (fun K hK => ?_) AllReadyH.nil
    rw [if_pos (by rfl)]
    go_simp
    refine (i_ranks (fBody n (dig t)) (andn m n) _ HB1.out HB2.out hqp).mono ?_
    rintro e w7 ⟨v, rfl, hi7, hb7⟩
    have hB7 := bel_on' hS.2 hb7
    have hsz7 := hS.2.size
    have HI7 := Lib.hid hi7; clear hi7
    refine hK.out _ _ ⟨hS.1.later hb7, hB7⟩ (fun hS => ?_)
    simp only [Act.put, List.getElem_toArray, List.getElem_cons_zero, List.getElem_cons_succ, List.setIfInBounds_toArray, List.set_cons_zero, List.set_cons_succ]
    refine wpAnyH_take (i := 13) (v := .int .i64 (fWhile n (dig t) m : Int)) rfl (by kernel_rfl) (by kernel_rfl) (by kernel_rfl) (fun _ _ _ h => h) (Or.inl ⟨by rfl, fun w2 h2 => by (first | rfl | go_simp)⟩) (by assumption) ?_
    simp only [Act.put, List.getElem_toArray, List.getElem_cons_zero, List.getElem_cons_succ, List.setIfInBounds_toArray, List.set_cons_zero, List.set_cons_succ]
    refine wpAnyH_take (i := 14) (v := v) rfl (by kernel_rfl) (by kernel_rfl) (by kernel_rfl) (fun _ _ _ h => h) (Or.inl ⟨by rfl, fun w2 h2 => by (first | rfl | go_simp)⟩) (by assumption) ?_
    simp only [Act.put, List.getElem_toArray, List.getElem_cons_zero, List.getElem_cons_succ, List.setIfInBounds_toArray, List.set_cons_zero, List.set_cons_succ]
    refine wpAnyH_done (by kernel_rfl) ?_ _
    go_wp2_with fail
    go_ret2
    obtain ⟨g, cap, cur, h1, h2, h3⟩ := HI7.out
    exact ⟨v, rfl, ⟨g, cap, cur, h1, by omega, h3⟩, hB7⟩
theorem fn_pl (w : World) (A B C G : Nat) (m s : Nat) (r : Nat → Int) (L cap : Nat) (cur : Array Value) (hm : m < 16) (hs : s < 4) (hL : 4 ≤ L) (hc : ∀ i, i < 4 → cur[i]? = some (Value.int .i64 (r i))) (h0 : RowAt w A 3 #[.int .i64 (m : Int)]) (h1 : RowAt w B 50 #[.slice (some ⟨G, 0, none⟩) L cap]) (h2 : RowAt w C 3 #[.int .i64 (s : Int)]) (h3 : RowAt w G 3 cur) : PrIs Try.prog (.func (.func 153) #[] #[.pointer (some ⟨A, 0, none⟩), .pointer (some ⟨B, 0, none⟩), .pointer (some ⟨C, 0, none⟩)]) w (plIs m r s) 4 :=
  ⟨153, _, rfl, enters_of Try.func153 (by kernel_rfl) rfl, fun W u hb hu => by
    have c0 : W.cell? ⟨A, 0, none⟩ = some (.int .i64 (m : Int)) := (h0.later hb).get 0
    have c1 : W.cell? ⟨B, 0, none⟩ = some (.slice (some ⟨G, 0, none⟩) L cap) := (h1.later hb).get 0
    have c2 : W.cell? ⟨C, 0, none⟩ = some (.int .i64 (s : Int)) := (h2.later hb).get 0
    have c3 : W.cell? ⟨G, u, none⟩ = some (.int .i64 (r u)) := ((h3.later hb).get u).trans (hc u hu)
    have c4 : W.cell? ⟨G, s, none⟩ = some (.int .i64 (r s)) := ((h3.later hb).get s).trans (hc s hs)
    have i1 : (0 : Int) ≤ (u : Int) ∧ (u : Int) < (L : Int) := ⟨by omega, by omega⟩
    have i2 : (0 : Int) ≤ (s : Int) ∧ (s : Int) < (L : Int) := ⟨by omega, by omega⟩
    have eb := bits_has' m u (by omega)
    show Calls Try.prog 153 #[.int .i64 (u : Int), .pointer (some ⟨A, 0, none⟩), .pointer (some ⟨B, 0, none⟩), .pointer (some ⟨C, 0, none⟩)] W _
    clear h0 h1 h2 h3 hc hb
    cases hbit : m.testBit u
    · rw [hbit] at eb
      have hno : plIs m r s u = false := by unfold plIs; rw [hbit]; rfl
      have HNO := Lib.hid hno; clear hno hbit
      go_enter Try.func153, Try.ntmps153
      go_wp2
      go_quiet (fail)
      go_wp2
      go_ret
      exact ⟨ret_bool HNO.out.symm, bel_drewN (Below.refl _ _) _⟩
    · rw [hbit] at eb
      have HBB := Lib.hid hbit; clear hbit
      by_cases hge : 0 ≤ r u
      · by_cases hru : r u < r s
        · have hyes : plIs m r s u = true := by unfold plIs; rw [HBB.out, decide_eq_true hru, decide_eq_true hge]; rfl
          have HYES := Lib.hid hyes; clear hyes
          have d1 : decide (r u < r s) = true := decide_eq_true hru
          have d2 : decide (0 ≤ r u) = true := decide_eq_true hge
          go_enter Try.func153, Try.ntmps153
          go_wp2
          go_quiet (fail)
          go_wp2
          go_ret
          exact ⟨ret_bool HYES.out.symm, bel_drewN (Below.refl _ _) _⟩
        · have hno : plIs m r s u = false := by unfold plIs; rw [decide_eq_false hru, Bool.false_and, Bool.and_false]
          have HNO := Lib.hid hno; clear hno
          have d1 : decide (r u < r s) = false := decide_eq_false hru
          have d2 : decide (0 ≤ r u) = true := decide_eq_true hge
          go_enter Try.func153, Try.ntmps153
          go_wp2
          go_quiet (fail)
          go_wp2
          go_ret
          exact ⟨ret_bool HNO.out.symm, bel_drewN (Below.refl _ _) _⟩
      · have hno : plIs m r s u = false := by unfold plIs; rw [decide_eq_false hge, Bool.and_false, Bool.and_false]
        have HNO := Lib.hid hno; clear hno
        have d2 : decide (0 ≤ r u) = false := decide_eq_false hge
        go_enter Try.func153, Try.ntmps153
        go_wp2
        go_quiet (fail)
        go_wp2
        go_ret
        exact ⟨ret_bool HNO.out.symm, bel_drewN (Below.refl _ _) _⟩⟩
theorem bits_has0' (p s : Nat) (hp : p < 65536) : (bits .and .i64 ((p : Int) / 2 ^ s) 1 == 0) = !p.testBit s := by
  have h := bits_has' p s hp
  have e : bits .and .i64 ((p : Int) / 2 ^ s) 1 = (((p / 2 ^ s : Nat) &&& 1 : Nat) : Int) := by
    have e : ((p : Int) / 2 ^ s) = ((p / 2 ^ s : Nat) : Int) := by
      rw [Int.natCast_ediv]
      congr 1
    rw [e]
    exact bits_and_nat (p / 2 ^ s) 1 (Nat.lt_of_le_of_lt (Nat.div_le_self _ _) hp) (by omega)
  rw [e] at h ⊢
  have h1 : (p / 2 ^ s &&& 1) ≤ 1 := Nat.and_le_right
  rw [← h]
  have : (p / 2 ^ s &&& 1) = 0 ∨ (p / 2 ^ s &&& 1) = 1 := by omega
  rcases this with h | h <;> rw [h] <;> rfl
set_option maxHeartbeats 4000000 in
theorem i_ProvesLoop (p : Int) (t : ByteArray) (v : Int) (rv : Value) (zs : List Int) (q : Int) (B : Nat) (w : World) (hrv : IntsAt B w rv zs) (hzl : zs.length ≤ 1048576) : Calls Try.prog 64 #[.int .i64 p, .string t, .int .i64 v, rv, .int .i64 q] w fun e w' => e = .returned (.bool (plB (trOk t && cvB p) (dig t) p.toNat v zs q)) ∧ Below w.heap.size w w' := by
  obtain ⟨g, cap, cur, rfl, _, hrow, _, _, _, hcur⟩ := hrv
  unfold plB plHead
  have HCU := Lib.hid hcur; clear hcur
  cases hok : (trOk t && cvB p)
  · go_enter Try.func64, Try.ntmps64
    go_wp2_with fail
    refine (i_body _ _ _).mono ?_
    rw [hok]
    rintro e w1 ⟨rfl, hb⟩
    have q0 := (((RowAt.fresh w 3 #[.int .i64 v]).alloc (.cells #[.slice (some ⟨g, 0, none⟩) zs.length cap] 50)).later hb).alloc (.cells (row 16 (trF t)) 77)
    have q1 := ((RowAt.fresh1 w (.cells #[.int .i64 v] 3) 50 #[.slice (some ⟨g, 0, none⟩) zs.length cap]).later hb).alloc (.cells (row 16 (trF t)) 77)
    have k0 : (w1.alloc (.cells (row 16 (trF t)) 77)).cell? ⟨w.heap.size, 0, none⟩ = some (.int .i64 v) := q0.get 0
    have k1 : (w1.alloc (.cells (row 16 (trF t)) 77)).cell? ⟨w.heap.size + 1, 0, none⟩ = some (.slice (some ⟨g, 0, none⟩) zs.length cap) := q1.get 0
    have hbb := bel_on (((Below.refl w.heap.size w).alloc (Nat.le_refl _) (.cells #[.int .i64 v] 3)).alloc (by simp) (.cells #[.slice (some ⟨g, 0, none⟩) zs.length cap] 50)) (bel_on' hb ((Below.refl _ w1).alloc (Nat.le_refl _) (.cells (row 16 (trF t)) 77))) (by simp; omega)
    go_wp2_with (refine wpList_store_new rfl 77 _ _ rfl (row 16 (trF t)) rfl rfl (by rw [row_size]; kernel_rfl) (by first | rfl | (rw [row_size, row_size]) | (simp [row_size]; done)) (row_one _ _) ?_)
    go_ret
    exact ⟨rfl, hbb⟩
  cases hv : cvB v
  · go_enter Try.func64, Try.ntmps64
    go_wp2_with fail
    refine (i_body _ _ _).mono ?_
    rw [hok]
    rintro e w1 ⟨rfl, hb⟩
    have q0 := (((RowAt.fresh w 3 #[.int .i64 v]).alloc (.cells #[.slice (some ⟨g, 0, none⟩) zs.length cap] 50)).later hb).alloc (.cells (row 16 (trF t)) 77)
    have q1 := ((RowAt.fresh1 w (.cells #[.int .i64 v] 3) 50 #[.slice (some ⟨g, 0, none⟩) zs.length cap]).later hb).alloc (.cells (row 16 (trF t)) 77)
    have k0 : (w1.alloc (.cells (row 16 (trF t)) 77)).cell? ⟨w.heap.size, 0, none⟩ = some (.int .i64 v) := q0.get 0
    have k1 : (w1.alloc (.cells (row 16 (trF t)) 77)).cell? ⟨w.heap.size + 1, 0, none⟩ = some (.slice (some ⟨g, 0, none⟩) zs.length cap) := q1.get 0
    have hbb := bel_on (((Below.refl w.heap.size w).alloc (Nat.le_refl _) (.cells #[.int .i64 v] 3)).alloc (by simp) (.cells #[.slice (some ⟨g, 0, none⟩) zs.length cap] 50)) (bel_on' hb ((Below.refl _ w1).alloc (Nat.le_refl _) (.cells (row 16 (trF t)) 77))) (by simp; omega)
    go_wp2_with (refine wpList_store_new rfl 77 _ _ rfl (row 16 (trF t)) rfl rfl (by rw [row_size]; kernel_rfl) (by first | rfl | (rw [row_size, row_size]) | (simp [row_size]; done)) (row_one _ _) ?_)
    refine (i_ConditionValid v _).mono ?_
    rw [hv]
    rintro e w2 ⟨rfl, rfl⟩
    go_wp2_with fail
    go_ret
    exact ⟨rfl, hbb⟩
  cases hq : cvB q
  · go_enter Try.func64, Try.ntmps64
    go_wp2_with fail
    refine (i_body _ _ _).mono ?_
    rw [hok]
    rintro e w1 ⟨rfl, hb⟩
    have q0 := (((RowAt.fresh w 3 #[.int .i64 v]).alloc (.cells #[.slice (some ⟨g, 0, none⟩) zs.length cap] 50)).later hb).alloc (.cells (row 16 (trF t)) 77)
    have q1 := ((RowAt.fresh1 w (.cells #[.int .i64 v] 3) 50 #[.slice (some ⟨g, 0, none⟩) zs.length cap]).later hb).alloc (.cells (row 16 (trF t)) 77)
    have k0 : (w1.alloc (.cells (row 16 (trF t)) 77)).cell? ⟨w.heap.size, 0, none⟩ = some (.int .i64 v) := q0.get 0
    have k1 : (w1.alloc (.cells (row 16 (trF t)) 77)).cell? ⟨w.heap.size + 1, 0, none⟩ = some (.slice (some ⟨g, 0, none⟩) zs.length cap) := q1.get 0
    have hbb := bel_on (((Below.refl w.heap.size w).alloc (Nat.le_refl _) (.cells #[.int .i64 v] 3)).alloc (by simp) (.cells #[.slice (some ⟨g, 0, none⟩) zs.length cap] 50)) (bel_on' hb ((Below.refl _ w1).alloc (Nat.le_refl _) (.cells (row 16 (trF t)) 77))) (by simp; omega)
    go_wp2_with (refine wpList_store_new rfl 77 _ _ rfl (row 16 (trF t)) rfl rfl (by rw [row_size]; kernel_rfl) (by first | rfl | (rw [row_size, row_size]) | (simp [row_size]; done)) (row_one _ _) ?_)
    refine (i_ConditionValid v _).mono ?_
    rw [hv]
    rintro e w2 ⟨rfl, rfl⟩
    go_wp2_with fail
    refine (i_ConditionValid q _).mono ?_
    rw [hq]
    rintro e w2 ⟨rfl, rfl⟩
    go_wp2_with fail
    go_ret
    exact ⟨rfl, hbb⟩
  have gg := hok
  rw [Bool.and_eq_true] at gg
  obtain ⟨n, hn, rfl⟩ := (cvB_iff p).1 gg.2
  obtain ⟨m, hm, rfl⟩ := (cvB_iff v).1 hv
  obtain ⟨k, hk, rfl⟩ := (cvB_iff q).1 hq
  have K1 := Lib.hid (trF_ok gg.1); clear gg
  by_cases h4 : zs.length = 4
  rotate_left
  · have b4 : ((zs.length : Int) != 4) = true := by rw [bne_iff_ne]; omega
    have H4 := Lib.hid h4; clear h4
    go_enter Try.func64, Try.ntmps64
    go_wp2_with fail
    refine (i_body _ _ _).mono ?_
    rw [hok]
    rintro e w1 ⟨rfl, hb⟩
    have q0 := (((RowAt.fresh w 3 #[.int .i64 (m : Int)]).alloc (.cells #[.slice (some ⟨g, 0, none⟩) zs.length cap] 50)).later hb).alloc (.cells (row 16 (trF t)) 77)
    have q1 := ((RowAt.fresh1 w (.cells #[.int .i64 (m : Int)] 3) 50 #[.slice (some ⟨g, 0, none⟩) zs.length cap]).later hb).alloc (.cells (row 16 (trF t)) 77)
    have k0 : (w1.alloc (.cells (row 16 (trF t)) 77)).cell? ⟨w.heap.size, 0, none⟩ = some (.int .i64 (m : Int)) := q0.get 0
    have k1 : (w1.alloc (.cells (row 16 (trF t)) 77)).cell? ⟨w.heap.size + 1, 0, none⟩ = some (.slice (some ⟨g, 0, none⟩) zs.length cap) := q1.get 0
    have hbb := bel_on (((Below.refl w.heap.size w).alloc (Nat.le_refl _) (.cells #[.int .i64 (m : Int)] 3)).alloc (by simp) (.cells #[.slice (some ⟨g, 0, none⟩) zs.length cap] 50)) (bel_on' hb ((Below.refl _ w1).alloc (Nat.le_refl _) (.cells (row 16 (trF t)) 77))) (by simp; omega)
    go_wp2_with (refine wpList_store_new rfl 77 _ _ rfl (row 16 (trF t)) rfl rfl (by rw [row_size]; kernel_rfl) (by first | rfl | (rw [row_size, row_size]) | (simp [row_size]; done)) (row_one _ _) ?_)
    refine (i_ConditionValid _ _).mono ?_
    rw [hv]
    rintro e w2 ⟨rfl, rfl⟩
    go_wp2_with fail
    refine (i_ConditionValid _ _).mono ?_
    rw [hq]
    rintro e w2 ⟨rfl, rfl⟩
    go_wp2_with fail
    go_ret
    exact ⟨ret_bool (by rw [decide_eq_false H4.out]; rfl), hbb⟩
  have b4 : ((zs.length : Int) != 4) = false := by rw [h4]; rfl
  have e1 := bits_andn_nat m n hm hn
  have e2 := bits_andn_nat (andn m n) k (andn_lt hm) hk
  by_cases hz : andn (andn m n) k = 0
  rotate_left
  · have bz : ((andn (andn m n) k : Int) != 0) = true := by rw [bne_iff_ne]; omega
    have H4 := Lib.hid h4; have HZ := Lib.hid hz; clear h4 hz
    go_enter Try.func64, Try.ntmps64
    go_wp2_with fail
    refine (i_body _ _ _).mono ?_
    rw [hok]
    rintro e w1 ⟨rfl, hb⟩
    have q0 := (((RowAt.fresh w 3 #[.int .i64 (m : Int)]).alloc (.cells #[.slice (some ⟨g, 0, none⟩) zs.length cap] 50)).later hb).alloc (.cells (row 16 (trF t)) 77)
    have q1 := ((RowAt.fresh1 w (.cells #[.int .i64 (m : Int)] 3) 50 #[.slice (some ⟨g, 0, none⟩) zs.length cap]).later hb).alloc (.cells (row 16 (trF t)) 77)
    have k0 : (w1.alloc (.cells (row 16 (trF t)) 77)).cell? ⟨w.heap.size, 0, none⟩ = some (.int .i64 (m : Int)) := q0.get 0
    have k1 : (w1.alloc (.cells (row 16 (trF t)) 77)).cell? ⟨w.heap.size + 1, 0, none⟩ = some (.slice (some ⟨g, 0, none⟩) zs.length cap) := q1.get 0
    have hbb := bel_on (((Below.refl w.heap.size w).alloc (Nat.le_refl _) (.cells #[.int .i64 (m : Int)] 3)).alloc (by simp) (.cells #[.slice (some ⟨g, 0, none⟩) zs.length cap] 50)) (bel_on' hb ((Below.refl _ w1).alloc (Nat.le_refl _) (.cells (row 16 (trF t)) 77))) (by simp; omega)
    go_wp2_with (refine wpList_store_new rfl 77 _ _ rfl (row 16 (trF t)) rfl rfl (by rw [row_size]; kernel_rfl) (by first | rfl | (rw [row_size, row_size]) | (simp [row_size]; done)) (row_one _ _) ?_)
    refine (i_ConditionValid _ _).mono ?_
    rw [hv]
    rintro e w2 ⟨rfl, rfl⟩
    go_wp2_with fail
    refine (i_ConditionValid _ _).mono ?_
    rw [hq]
    rintro e w2 ⟨rfl, rfl⟩
    go_wp2_with fail
    go_ret
    exact ⟨ret_bool (by rw [show decide (andn (andn (m : Int).toNat (n : Int).toNat) (k : Int).toNat = 0) = false from decide_eq_false HZ.out, Bool.and_false, Bool.false_and]), hbb⟩
  have bz : ((andn (andn m n) k : Int) != 0) = false := by simp [hz]
  obtain ⟨r, hr⟩ : ∃ r : Nat → Int, r = fun i => zs.getD i 0 := ⟨_, rfl⟩
  have hcr : ∀ i, i < 4 → cur[i]? = some (Value.int .i64 (r i)) := fun i hi => HCU.out i _ (by rw [hr]; show zs[i]? = some (zs.getD i 0); rw [List.getD_eq_getElem?_getD, List.getElem?_eq_getElem (by omega)]; rfl)
  have hfin : (((((true && true) && true) && decide (zs.length = 4)) && decide (andn (andn (m : Int).toNat (n : Int).toNat) (k : Int).toNat = 0)) && plTo (dig t) (n : Int).toNat (m : Int).toNat (fun i => zs.getD i 0) 4) = plTo (dig t) n m r 4 := by
    rw [hr, decide_eq_true h4, show decide (andn (andn (m : Int).toNat (n : Int).toNat) (k : Int).toNat = 0) = true from decide_eq_true hz]
    simp
  rw [hfin]
  have e3 := bits_and_nat m n (by omega) (by omega)
  have hmn : m &&& n < 16 := and_lt hm
  have HCR := Lib.hid hcr; have HL4 := Lib.hid h4; clear hcr hfin h4 hz hr
  have z4 : 4 ≤ zs.length := by have := HL4.out; omega
  go_enter Try.func64, Try.ntmps64
  go_wp2_with fail
  refine (i_body _ _ _).mono ?_
  rw [hok, K1.out]
  rintro e w1 ⟨rfl, hb⟩
  have q0 := (((RowAt.fresh w 3 #[.int .i64 (m : Int)]).alloc (.cells #[.slice (some ⟨g, 0, none⟩) zs.length cap] 50)).later hb).alloc (.cells (row 16 (dig t)) 77)
  have q1 := ((RowAt.fresh1 w (.cells #[.int .i64 (m : Int)] 3) 50 #[.slice (some ⟨g, 0, none⟩) zs.length cap]).later hb).alloc (.cells (row 16 (dig t)) 77)
  have k0 : (w1.alloc (.cells (row 16 (dig t)) 77)).cell? ⟨w.heap.size, 0, none⟩ = some (.int .i64 (m : Int)) := q0.get 0
  have k1 : (w1.alloc (.cells (row 16 (dig t)) 77)).cell? ⟨w.heap.size + 1, 0, none⟩ = some (.slice (some ⟨g, 0, none⟩) zs.length cap) := q1.get 0
  have hbb := bel_on (((Below.refl w.heap.size w).alloc (Nat.le_refl _) (.cells #[.int .i64 (m : Int)] 3)).alloc (by simp) (.cells #[.slice (some ⟨g, 0, none⟩) zs.length cap] 50)) (bel_on' hb ((Below.refl _ w1).alloc (Nat.le_refl _) (.cells (row 16 (dig t)) 77))) (by simp; omega)
  have rt := RowAt.fresh w1 77 (row 16 (dig t))
  have rg := (((hrow.alloc (.cells #[.int .i64 (m : Int)] 3)).alloc (.cells #[.slice (some ⟨g, 0, none⟩) zs.length cap] 50)).later hb).alloc (.cells (row 16 (dig t)) 77)
  go_wp2_with (refine wpList_store_new rfl 77 _ _ rfl (row 16 (dig t)) rfl rfl (by rw [row_size]; kernel_rfl) (by first | rfl | (rw [row_size, row_size]) | (simp [row_size]; done)) (row_one _ _) ?_)
  refine (i_ConditionValid _ _).mono ?_
  rw [hv]
  rintro e w2 ⟨rfl, rfl⟩
  go_wp2_with fail
  refine (i_ConditionValid _ _).mono ?_
  rw [hq]
  rintro e w2 ⟨rfl, rfl⟩
  go_wp2_with fail
  clear b4 bz k0 k1
  go_loopw [46] (fun i wr => ∃ s : Nat, s ≤ 4 ∧ i = .int .i64 s ∧ Hid (plTo (dig t) n m r s = true) ∧ RowAt wr g 3 cur ∧ RowAt wr w.heap.size 3 #[.int .i64 (m : Int)] ∧ RowAt wr (w.heap.size + 1) 50 #[.slice (some ⟨g, 0, none⟩) zs.length cap] ∧ RowAt wr w1.heap.size 77 (row 16 (dig t)) ∧ Below w.heap.size w wr) (fun i _ => (4 - intOf i).toNat)
  case atStart => exact ⟨0, by omega, rfl, Lib.hid rfl, rg, q0, q1, rt, hbb⟩
  case round =>
    clear rg q0 q1 rt hbb hrow hb
    obtain ⟨s, hs, rfl, HP, rg, q0, q1, rt, hbb⟩ := hrel
    by_cases hlt : s < 4
    · have k0 : (wr.alloc (.cells #[.int .i64 (s : Int)] 3)).cell? ⟨w.heap.size, 0, none⟩ = some (.int .i64 (m : Int)) := (q0.alloc _).get 0
      have qg := rg.alloc (.cells #[.int .i64 (s : Int)] 3)
      have p0 := q0.alloc (.cells #[.int .i64 (s : Int)] 3)
      have p1 := q1.alloc (.cells #[.int .i64 (s : Int)] 3)
      have pt := rt.alloc (.cells #[.int .i64 (s : Int)] 3)
      have ps := RowAt.fresh wr 3 #[.int .i64 (s : Int)]
      have ks : (wr.alloc (.cells #[.int .i64 (s : Int)] 3)).cell? ⟨wr.heap.size, 0, none⟩ = some (.int .i64 (s : Int)) := ps.get 0
      have hbc := bel_on' hbb ((Below.refl _ wr).alloc (Nat.le_refl _) (.cells #[.int .i64 (s : Int)] 3))
      have eb := bits_has0' (m &&& n) s (by omega)
      rw [Nat.testBit_and] at eb
      clear rg q0 q1 rt hbb
      cases ha : (m.testBit s && n.testBit s)
      · have hat : plAt (dig t) n m r s = true := by unfold plAt; rw [ha]; rfl
        rw [ha] at eb
        have HAT := Lib.hid hat; clear hat ha
        go_wp2_with fail
        go_roundw
        case rel => exact ⟨s + 1, by omega, by go_num, Lib.hid (plTo_succ HP.out HAT.out), qg, p0, p1, pt, hbc⟩
        case measure => simp [intOf]; omega
      · rw [ha] at eb
        have HA := Lib.hid ha; clear ha
        have hl := plLess_lt m r s
        have htl := dig_lt t (plLess m r s 4)
        have eb2 := bits_has0' (dig t (plLess m r s 4)) s (by omega)
        have HFN := Lib.hid (fn_pl _ w.heap.size (w.heap.size + 1) wr.heap.size g m s r zs.length cap cur hm hlt z4 HCR.out p0 p1 ps qg)
        cases hb : (dig t (plLess m r s 4)).testBit s
        · have hat : plAt (dig t) n m r s = false := by unfold plAt; rw [HA.out, hb]; rfl
          rw [hb] at eb2
          have HAT := Lib.hid hat; clear hat hb
          go_wp2_with fail
          refine (i_states _ _ _ HFN.out).mono fun e w4 (h : e = .returned (.int .i64 (plLess m r s 4 : Int)) ∧ Below _ _ w4) => ?_
          obtain ⟨rfl, hb4⟩ := h
          have c1 := (pt.later hb4).cell (plLess m r s 4) hl
          have c2 : w4.cell? ⟨wr.heap.size, 0, none⟩ = some (.int .i64 (s : Int)) := (ps.later hb4).get 0
          have i1 := lt_cast hl
          have hbd := bel_on' hbc hb4
          clear hb4 hbc k0 ks
          go_wp2_with fail
          go_quiet (fail)
          go_wp2_with fail
          go_ret
          exact ⟨ret_bool (plTo_no hlt HAT.out).symm, bel_drewN hbd _⟩
        · have hat : plAt (dig t) n m r s = true := by unfold plAt; rw [hb, Bool.or_true]
          rw [hb] at eb2
          have HAT := Lib.hid hat; clear hat hb
          go_wp2_with fail
          refine (i_states _ _ _ HFN.out).mono fun e w4 (h : e = .returned (.int .i64 (plLess m r s 4 : Int)) ∧ Below _ _ w4) => ?_
          obtain ⟨rfl, hb4⟩ := h
          have c1 := (pt.later hb4).cell (plLess m r s 4) hl
          have c2 : w4.cell? ⟨wr.heap.size, 0, none⟩ = some (.int .i64 (s : Int)) := (ps.later hb4).get 0
          have i1 := lt_cast hl
          have hbd := bel_on' hbc hb4
          have rg' := qg.later hb4; have q0' := p0.later hb4; have q1' := p1.later hb4; have rt' := pt.later hb4
          clear hb4 hbc k0 ks
          go_wp2_with fail
          go_quiet (fail)
          go_wp2_with fail
          go_roundw
          case rel => exact ⟨s + 1, by omega, by go_num, Lib.hid (plTo_succ HP.out HAT.out), rg'.drewN _, q0'.drewN _, q1'.drewN _, rt'.drewN _, bel_drewN hbd _⟩
          case measure => simp [intOf]; omega
    · obtain rfl : s = 4 := by omega
      go_wp2_with fail
      go_ret
      exact ⟨ret_bool HP.out.symm, hbb⟩
end Go.Proofs.Ytiaeakpgldpaiaa
