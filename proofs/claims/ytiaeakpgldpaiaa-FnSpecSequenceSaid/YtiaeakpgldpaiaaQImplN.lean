/- The program's composition of relations, and the sequence of two specifications. -/
import Derived.Test.YtiaeakpgldpaiaaQImplL
import Derived.Test.YtiaeakpgldpaiaaQImplG
import Derived.Test.YtiaeakpgldpaiaaQJ1
namespace Go.Proofs.Ytiaeakpgldpaiaa
set_option linter.unusedSimpArgs false
set_option linter.unusedVariables false
set_option maxRecDepth 4000
open Go.RowKit

set_option maxHeartbeats 1000000 in
theorem i_relThen (R Q : Nat → Nat) (w : World) (hR : ∀ k, R k < 16) (hQ : ∀ k, Q k < 16) : Calls Try.prog 118 #[.agg (row 4 R), .agg (row 4 Q)] w fun e w' => e = .returned (.agg (row 4 (fComp R Q))) ∧ Below w.heap.size w w' := by
  have z0 := (((RowAt.fresh w 68 (row 4 R)).alloc (.cells (row 4 Q) 68)).alloc (.cells (row 4 (fun _ => 0)) 68)).alloc (.cells (row 4 (fun _ => 0)) 68)
  have z1 := ((RowAt.fresh1 w (.cells (row 4 R) 68) 68 (row 4 Q)).alloc (.cells (row 4 (fun _ => 0)) 68)).alloc (.cells (row 4 (fun _ => 0)) 68)
  have z2 := (RowAt.fresh2 w (.cells (row 4 R) 68) (.cells (row 4 Q) 68) 68 (row 4 (fun _ => 0))).alloc (.cells (row 4 (fun _ => 0)) 68)
  have z3 := RowAt.fresh3 w (.cells (row 4 R) 68) (.cells (row 4 Q) 68) (.cells (row 4 (fun _ => 0)) 68) 68 (row 4 (fun _ => 0))
  have zb := bel_4 w (.cells (row 4 R) 68) (.cells (row 4 Q) 68) (.cells (row 4 (fun _ => 0)) 68) (.cells (row 4 (fun _ => 0)) 68)
  go_enter Try.func118, Try.ntmps118
  go_wp2_with fail
  go_loopw [9] (fun t wr => ∃ k : Nat, k ≤ 4 ∧ t = .int .i64 k ∧ RowAt wr w.heap.size 68 (row 4 R) ∧ RowAt wr (w.heap.size + 1) 68 (row 4 Q) ∧ RowAt wr (w.heap.size + 1 + 1) 68 (row 4 (fun _ => 0)) ∧ RowAt wr (w.heap.size + 1 + 1 + 1) 68 (row 4 (fun i => if i < k then fComp R Q i else 0)) ∧ Below w.heap.size w wr) (fun t _ => (4 - intOf t).toNat)
  case atStart => exact ⟨0, by omega, rfl, z0, z1, z2, z3, zb⟩
  case round =>
    clear z0 z1 z2 z3 zb
    obtain ⟨k, hk, rfl, r0, r1, r2, r3, hbb⟩ := hrel
    by_cases hlt : k < 4
    · have hd : decide ((k : Int) < 4) = true := by simp; omega
      go_wp2_with fail
      clear hd
      have r3' := r3.of (row_congr fun i _ => (midF_start (fComp R Q) k i).symm)
      go_loopw [12] (fun t wr => ∃ j : Nat, j ≤ 4 ∧ t = .int .i64 j ∧ RowAt wr w.heap.size 68 (row 4 R) ∧ RowAt wr (w.heap.size + 1) 68 (row 4 Q) ∧ RowAt wr (w.heap.size + 1 + 1) 68 (row 4 (fun _ => 0)) ∧ RowAt wr (w.heap.size + 1 + 1 + 1) 68 (row 4 (midF (fComp R Q) k (fImg Q (R k) j))) ∧ Below w.heap.size w wr) (fun t _ => (4 - intOf t).toNat)
      case atStart => exact ⟨0, by omega, rfl, r0, r1, r2, r3', hbb⟩
      case round =>
        clear r0 r1 r2 r3 r3' hbb
        obtain ⟨j, hj, rfl, r0, r1, r2, r3, hbb⟩ := hrel
        by_cases hlj : j < 4
        · have hsz := hbb.size
          cases hp : (R k).testBit j
          · have HP := Lib.hid hp; clear hp
            go_wp2_with (refine wpList_load_row rfl 68 _ rfl (w.heap.size) rfl 68 (row 4 R) (0, 0) _ r0 Try.underlying68 rfl (by rw [row_size]; kernel_rfl) ?_)
            refine (i_has R k j _ hR hlt hlj).mono ?_
            rw [HP.out]
            rintro e w1 ⟨rfl, hb1⟩
            go_wp2_with fail
            go_roundw
            case rel => exact ⟨j + 1, by omega, by go_num, r0.later hb1, r1.later hb1, r2.later hb1, (r3.later hb1).of (row_congr fun i _ => by rw [show fImg Q (R k) (j + 1) = fImg Q (R k) j from by rw [fImg, HP.out]; rfl]), bel_on hbb hb1 hbb.size⟩
            case measure => simp [intOf]; omega
          · have HP := Lib.hid hp; clear hp
            go_wp2_with (refine wpList_load_row rfl 68 _ rfl (w.heap.size) rfl 68 (row 4 R) (0, 0) _ r0 Try.underlying68 rfl (by rw [row_size]; kernel_rfl) ?_)
            refine (i_has R k j _ hR hlt hlj).mono ?_
            rw [HP.out]
            rintro e w1 ⟨rfl, hb1⟩
            have s0 := r0.later hb1; have s1 := r1.later hb1; have s2 := r2.later hb1; have s3 := r3.later hb1
            have hbc := bel_on hbb hb1 hbb.size
            clear r0 r1 r2 r3
            have hF := fImg_lt (R := Q) (fun k _ => hQ k) (R k) j (by omega)
            have hQj := hQ j
            have c1 := s1.cell j hlj
            have c3 := s3.cell k hlt
            rw [midF_at] at c3
            have f3 := s3.free k
            have i1 := lt_cast hlt
            have i2 := lt_cast hlj
            have e1 := bits_or_nat (fImg Q (R k) j) (Q j) (by omega) (by omega)
            have hq := hQ; have HQ := Lib.hid hq; have HR := Lib.hid hR; clear hq hQ hR hb1 hbb
            go_wp2_with fail
            go_region
            all_goals
              go_wp2_with fail
              go_roundw
              case rel => exact ⟨j + 1, by omega, by go_num, (s0.other _ _ (by simp; omega)).drew, (s1.other _ _ (by simp)).drew, (s2.other _ _ (by simp)).drew, ((s3.set k (fImg Q (R k) j ||| Q j)).of (row_congr fun i _ => by rw [midF_upd]; rw [show fImg Q (R k) (j + 1) = fImg Q (R k) j ||| Q j from by rw [fImg, HP.out]; rfl])).drew, (hbc.setCell (by simp; omega) _).drew⟩
              case measure => simp [intOf]; omega
        · obtain rfl : j = 4 := by omega
          go_wp2_with fail
          go_roundw
          case rel => exact ⟨k + 1, by omega, by go_num, r0, r1, r2, r3.of (row_congr fun i _ => midF_end (fComp R Q) k i), hbb⟩
          case measure => simp [intOf]; omega
    · obtain rfl : k = 4 := by omega
      have r3' := r3.of (row_congr (G := fComp R Q) (fun i hi => by simp [hi]))
      go_wp2_with (first | (refine wpList_load_row rfl 68 _ rfl (w.heap.size + 1 + 1 + 1) rfl 68 (row 4 (fComp R Q)) (0, 0) _ r3' Try.underlying68 rfl (by rw [row_size]; kernel_rfl) ?_) | (refine wpList_store_row rfl 68 _ _ rfl (w.heap.size + 1 + 1) (row 4 (fComp R Q)) rfl rfl 68 _ r2 (by rw [row_size]; kernel_rfl) (by first | rfl | (rw [row_size, row_size]) | (simp [row_size]; done)) (row_one _ _) ?_))
      have hr := r2.put (row 4 (fComp R Q))
      exact bodyPost_ret (results_cell_row rfl _ _ (w.heap.size + 1 + 1) 68 (row 4 (fComp R Q)) (0, 0) _ rfl hr Try.underlying68 rfl (by rw [row_size]; kernel_rfl)) rfl ⟨rfl, bel_setRow hbb (by omega) _⟩
theorem fn_seq (w : World) (A B : Nat) (n : Nat) (C : Nat → Nat) (hn : n < 16) (hC : ∀ k, C k < 16) (h0 : RowAt w A 3 #[.int .i64 (n : Int)]) (h1 : RowAt w B 68 (row 4 C)) : Pr2Is Try.prog (.func (.func 120) #[] #[.pointer (some ⟨A, 0, none⟩), .pointer (some ⟨B, 0, none⟩)]) w (fun a b => n.testBit a && (C a).testBit b) 4 :=
  ⟨120, _, rfl, enters_of Try.func120 (by kernel_rfl) rfl, fun W a b hb ha hb' => by
    have c0 : W.cell? ⟨A, 0, none⟩ = some (.int .i64 (n : Int)) := (h0.later hb).get 0
    have r1 := h1.later hb
    have e1 := bits_has' n a (by omega)
    show Calls Try.prog 120 #[.int .i64 (a : Int), .int .i64 (b : Int), .pointer (some ⟨A, 0, none⟩), .pointer (some ⟨B, 0, none⟩)] W _
    clear h0 h1 hb
    cases hp : n.testBit a
    · rw [hp] at e1
      have HP := Lib.hid hp; clear hp
      go_enter Try.func120, Try.ntmps120
      go_wp2_with (refine wpList_load_rowG (by rfl) 68 _ rfl (B) rfl 68 (row 4 C) (0, 0) _ r1 Try.underlying68 rfl (by rw [row_size]; kernel_rfl) ?_)
      go_ret
      exact ⟨ret_bool (by rw [HP.out]; rfl), Below.refl _ _⟩
    · rw [hp] at e1
      have HP := Lib.hid hp; clear hp
      have HC := Lib.hid hC; clear hC
      go_enter Try.func120, Try.ntmps120
      go_wp2_with (refine wpList_load_rowG (by rfl) 68 _ rfl (B) rfl 68 (row 4 C) (0, 0) _ r1 Try.underlying68 rfl (by rw [row_size]; kernel_rfl) ?_)
      refine (i_has C a b _ HC.out ha hb').mono ?_
      rintro e w1 ⟨rfl, hb1⟩
      go_wp2_with fail
      go_ret
      exact ⟨ret_bool (by rw [HP.out]; rfl), hb1⟩⟩
set_option maxHeartbeats 2000000 in
theorem i_SpecSequence (p : Int) (r : ByteArray) (q : Int) (s : ByteArray) (w : World) : Calls Try.prog 28 #[.int .i64 p, .string r, .int .i64 q, .string s] w fun e w' => e = .returned (.tuple #[.int .i64 ((if (cvB p && relOk r) && (cvB q && relOk s) then p.toNat &&& fBox (dig r) q.toNat else 0 : Nat) : Int), .string (optS ((cvB p && relOk r) && (cvB q && relOk s)) (txt 4 (fFrom (p.toNat &&& fBox (dig r) q.toNat) (fComp (dig r) (dig s))))), .bool ((cvB p && relOk r) && (cvB q && relOk s))]) ∧ Below w.heap.size w w' := by
  cases hok : ((cvB p && relOk r) && (cvB q && relOk s))
  · go_enter Try.func28, Try.ntmps28
    go_wp2_with fail
    refine (i_specs _ _ _ _ _).mono ?_
    rw [specs_ok, hok]
    rintro e w1 ⟨rfl, hb⟩
    go_wp2_with (first | (refine wpList_store_new2 rfl 68 _ _ rfl (row 4 (relF r)) rfl rfl (by rw [row_size]; kernel_rfl) (by first | rfl | (rw [row_size, row_size]) | (simp [row_size]; done)) (row_one _ _) ?_) | (refine wpList_store_new1 rfl 68 _ _ rfl (row 4 (relF s)) rfl rfl (by rw [row_size]; kernel_rfl) (by first | rfl | (rw [row_size, row_size]) | (simp [row_size]; done)) (row_one _ _) ?_))
    go_ret3
    exact ⟨rfl, bel_on' hb (bel_2 _ _ _)⟩
  have g := hok
  rw [Bool.and_eq_true, Bool.and_eq_true, Bool.and_eq_true] at g
  obtain ⟨n, hn, rfl⟩ := (cvB_iff p).1 g.1.1
  obtain ⟨m, hm, rfl⟩ := (cvB_iff q).1 g.2.1
  have k1 := relF_ok g.1.2
  have k2 := relF_ok g.2.2
  have K1 := Lib.hid k1; have K2 := Lib.hid k2; clear k1 k2 g
  have e1 := bits_and_nat n (fBox (dig r) m) (by omega) (by have := fBox_lt (dig r) m; omega)
  have hx : n &&& fBox (dig r) m < 16 := and_lt hn
  have hC : ∀ k, fComp (dig r) (dig s) k < 16 := fun k => fImg_lt (fun k _ => dig_lt s k) _ 4 (by omega)
  go_enter Try.func28, Try.ntmps28
  go_wp2_with fail
  refine (i_specs _ _ _ _ _).mono ?_
  rw [specs_ok, hok, K1.out, K2.out]
  rintro e w1 ⟨rfl, hb⟩
  have r1 := (RowAt.fresh w1 68 (row 4 (dig r))).alloc (.cells (row 4 (dig s)) 68)
  have r2 := RowAt.fresh1 w1 (.cells (row 4 (dig r)) 68) 68 (row 4 (dig s))
  have hbb := bel_on' hb (bel_2 w1 (.cells (row 4 (dig r)) 68) (.cells (row 4 (dig s)) 68))
  have HC := Lib.hid hC; clear hC
  go_wp2_with (first | (refine wpList_store_new2 rfl 68 _ _ rfl (row 4 (dig r)) rfl rfl (by rw [row_size]; kernel_rfl) (by first | rfl | (rw [row_size, row_size]) | (simp [row_size]; done)) (row_one _ _) ?_) | (refine wpList_store_new1 rfl 68 _ _ rfl (row 4 (dig s)) rfl rfl (by rw [row_size]; kernel_rfl) (by first | rfl | (rw [row_size, row_size]) | (simp [row_size]; done)) (row_one _ _) ?_) | (refine wpList_load_row rfl 68 _ rfl (w1.heap.size) rfl 68 (row 4 (dig r)) (0, 0) _ r1 Try.underlying68 rfl (by rw [row_size]; kernel_rfl) ?_))
  refine (i_box (dig r) m _ (dig_lt r) hm).mono ?_
  rintro e w2 ⟨rfl, hb2⟩
  have s1 := (r1.later hb2).alloc (.cells #[.int .i64 ((n &&& fBox (dig r) m : Nat) : Int)] 3)
  have s2 := (r2.later hb2).alloc (.cells #[.int .i64 ((n &&& fBox (dig r) m : Nat) : Int)] 3)
  have s3 := RowAt.fresh w2 3 #[.int .i64 ((n &&& fBox (dig r) m : Nat) : Int)]
  have hbc := bel_on' (bel_on' hbb hb2) (bel_1 w2 (.cells #[.int .i64 ((n &&& fBox (dig r) m : Nat) : Int)] 3))
  clear hb hbb r1 r2
  go_wp2_with (first | (refine wpList_load_row rfl 68 _ rfl (w1.heap.size) rfl 68 (row 4 (dig r)) (0, 0) _ s1 Try.underlying68 rfl (by rw [row_size]; kernel_rfl) ?_) | (refine wpList_load_row rfl 68 _ rfl (w1.heap.size + 1) rfl 68 (row 4 (dig s)) (0, 0) _ s2 Try.underlying68 rfl (by rw [row_size]; kernel_rfl) ?_))
  refine (i_relThen (dig r) (dig s) _ (dig_lt r) (dig_lt s)).mono ?_
  rintro e w3 ⟨rfl, hb3⟩
  have t3 := (s3.later hb3).alloc (.cells (row 4 (fComp (dig r) (dig s))) 68)
  have t4 := RowAt.fresh w3 68 (row 4 (fComp (dig r) (dig s)))
  have hbd := bel_on' (bel_on' hbc hb3) (bel_1 w3 (.cells (row 4 (fComp (dig r) (dig s))) 68))
  go_wp2_with (refine wpList_store_new rfl 68 _ _ rfl (row 4 (fComp (dig r) (dig s))) rfl rfl (by rw [row_size]; kernel_rfl) (by first | rfl | (rw [row_size, row_size]) | (simp [row_size]; done)) (row_one _ _) ?_)
  refine (i_makeRel _ _ _ (fn_seq _ _ _ (n &&& fBox (dig r) m) (fComp (dig r) (dig s)) hx HC.out t3 t4)).mono fun e w4 (h : e = .returned (.agg (row 4 (fFrom (n &&& fBox (dig r) m) (fComp (dig r) (dig s))))) ∧ Below _ _ w4) => ?_
  obtain ⟨rfl, hb4⟩ := h
  have u3 := ((t3.later hb4).alloc (.cells (row 4 (fFrom (n &&& fBox (dig r) m) (fComp (dig r) (dig s)))) 68)).drew
  have u4 := (RowAt.fresh w4 68 (row 4 (fFrom (n &&& fBox (dig r) m) (fComp (dig r) (dig s))))).drew
  have hbe := (bel_on' (bel_on' hbd hb4) (bel_1 w4 (.cells (row 4 (fFrom (n &&& fBox (dig r) m) (fComp (dig r) (dig s)))) 68))).drew
  go_wp2_with (refine wpList_store_new rfl 68 _ _ rfl (row 4 (fFrom (n &&& fBox (dig r) m) (fComp (dig r) (dig s)))) rfl rfl (by rw [row_size]; kernel_rfl) (by first | rfl | (rw [row_size, row_size]) | (simp [row_size]; done)) (row_one _ _) ?_)
  clear hb2 hb3 hb4 s1 s2 s3 t3 t4 hbc hbd
  refine wp_region_held_drew (S := fun w3 => RowAt w3 w2.heap.size 3 #[.int .i64 ((n &&& fBox (dig r) m : Nat) : Int)] ∧ RowAt w3 w4.heap.size 68 (row 4 (fFrom (n &&& fBox (dig r) m) (fComp (dig r) (dig s)))) ∧ Below w.heap.size w w3) (by kernel_rfl) (⟨u3, u4, hbe⟩) (fun hS => ?_)
  simp only [List.size_toArray, List.length_cons, List.length_nil, Nat.zero_add, Nat.reduceAdd, Array.replicate_succ, Array.replicate_zero, List.push_toArray, List.append_toArray, List.nil_append, List.cons_append]
  refine wpAnyH_take (i := 0) (v := .int .i64 ((n &&& fBox (dig r) m : Nat) : Int)) rfl (by kernel_rfl) (by kernel_rfl) (by kernel_rfl) (fun _ _ _ h => h) (Or.inl ⟨by rfl, fun w6 h6 => by have c := h6.1.get 0; (first | rfl | go_simp)⟩) (by assumption) ?_
  simp only [Act.put, List.getElem_toArray, List.getElem_cons_zero, List.getElem_cons_succ, List.setIfInBounds_toArray, List.set_cons_zero, List.set_cons_succ]
  refine wpAnyH_take (i := 1) (v := .agg (row 4 (fFrom (n &&& fBox (dig r) m) (fComp (dig r) (dig s))))) rfl (by kernel_rfl) (by kernel_rfl) (by kernel_rfl) (fun _ _ _ h => h) (yieldsIf_load_row (by rfl) 68 _ rfl w4.heap.size rfl 68 (row 4 (fFrom (n &&& fBox (dig r) m) (fComp (dig r) (dig s)))) _ (fun _ h => h.2.1) Try.underlying68 rfl (by rw [row_size]; kernel_rfl)) (by assumption) ?_
  simp only [Act.put, List.getElem_toArray, List.getElem_cons_zero, List.getElem_cons_succ, List.setIfInBounds_toArray, List.set_cons_zero, List.set_cons_succ]
  refine wpAnyH_ready (rs := [2]) (by kernel_rfl) (by simp) ?_
  refine AllReadyH.cons rfl (fun K hK => ?_) AllReadyH.nil
  rw [if_pos (by rfl)]
  go_simp
  refine (i_relText _ _ (fun a ha => mkC_lt _ 4)).mono ?_
  rintro e w7 ⟨rfl, hb7⟩
  have hB7 := bel_on hS.2.2 hb7 hS.2.2.size
  refine hK.out _ _ ⟨hS.1.later hb7, hS.2.1.later hb7, hB7⟩ (fun hS => ?_)
  simp only [Act.put, List.getElem_toArray, List.getElem_cons_zero, List.getElem_cons_succ, List.setIfInBounds_toArray, List.set_cons_zero, List.set_cons_succ]
  refine wpAnyH_take (i := 3) (v := .int .i64 ((n &&& fBox (dig r) m : Nat) : Int)) rfl (by kernel_rfl) (by kernel_rfl) (by kernel_rfl) (fun _ _ _ h => h) (Or.inl ⟨by rfl, fun w2 h2 => by (first | rfl | go_simp)⟩) (by assumption) ?_
  simp only [Act.put, List.getElem_toArray, List.getElem_cons_zero, List.getElem_cons_succ, List.setIfInBounds_toArray, List.set_cons_zero, List.set_cons_succ]
  refine wpAnyH_take (i := 4) (v := .string (txt 4 (fFrom (n &&& fBox (dig r) m) (fComp (dig r) (dig s))))) rfl (by kernel_rfl) (by kernel_rfl) (by kernel_rfl) (fun _ _ _ h => h) (Or.inl ⟨by rfl, fun w2 h2 => by (first | rfl | go_simp)⟩) (by assumption) ?_
  simp only [Act.put, List.getElem_toArray, List.getElem_cons_zero, List.getElem_cons_succ, List.setIfInBounds_toArray, List.set_cons_zero, List.set_cons_succ]
  refine wpAnyH_take (i := 5) (v := .bool true) rfl (by kernel_rfl) (by kernel_rfl) (by kernel_rfl) (fun _ _ _ h => h) (Or.inl ⟨by rfl, fun w2 h2 => by (first | rfl | go_simp)⟩) (by assumption) ?_
  simp only [Act.put, List.getElem_toArray, List.getElem_cons_zero, List.getElem_cons_succ, List.setIfInBounds_toArray, List.set_cons_zero, List.set_cons_succ]
  refine wpAnyH_done (by kernel_rfl) ?_ _
  go_wp2_with fail
  go_ret3
  exact ⟨rfl, hB7⟩
end Go.Proofs.Ytiaeakpgldpaiaa
