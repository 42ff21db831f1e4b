/- The program's repetitions and residuals: the closures, and the listed functions made of them. -/
import Derived.Test.YtiaeakpgldpaiaaQImplI
namespace Go.Proofs.Ytiaeakpgldpaiaa
set_option linter.unusedSimpArgs false
set_option linter.unusedVariables false
set_option maxRecDepth 4000
open Go.RowKit

theorem fn_star111_or (w : World) (A B C : Nat) (T : Nat → Nat) (q : Nat) (hT : ∀ k, T k < 16) (hq : q < 16) (h0 : RowAt w A 47 #[.func (.func 131) #[] #[]]) (h1 : RowAt w B 77 (row 16 T)) (h2 : RowAt w C 3 #[.int .i64 (q : Int)]) : FnIs Try.prog (.func (.func 210) #[] #[.pointer (some ⟨A, 0, none⟩), .pointer (some ⟨B, 0, none⟩), .pointer (some ⟨C, 0, none⟩)]) w (eqO T q) 16 :=
  ⟨210, _, rfl, enters_of Try.func210 (by kernel_rfl) rfl, fun W y hb hy => by
    have c0 : W.cell? ⟨A, 0, none⟩ = some (.func (.func 131) #[] #[]) := (h0.later hb).get 0
    have c1 := (h1.later hb).cell y hy
    have c2 : W.cell? ⟨C, 0, none⟩ = some (.int .i64 (q : Int)) := (h2.later hb).get 0
    have i1 := lt_cast hy
    have hTy := hT y
    show Calls Try.prog 210 #[.int .i64 (y : Int), .pointer (some ⟨A, 0, none⟩), .pointer (some ⟨B, 0, none⟩), .pointer (some ⟨C, 0, none⟩)] W _
    clear h0 h1 h2 hT hb
    go_enter Try.func210, Try.ntmps210
    go_wp2_with fail
    go_quiet ((go_at_call 131; exact Calls.quiet_of_same ((i_or _ _ _ hTy hq).mono fun _ _ h => ⟨h.1, h.2.symm⟩)))
    go_wp2_with fail
    go_ret
    exact ⟨rfl, bel_drewN (Below.refl _ _) _⟩⟩
theorem fn_star11_or (w : World) (A B C : Nat) (pv : Value) (pt : (Nat → Nat) → Nat) (hpt : PtIs Try.prog pv pt) (T : Nat → Nat) (hT : ∀ k, T k < 16) (hm : Mono T) (h0 : RowAt w A 96 #[pv]) (h1 : RowAt w B 47 #[.func (.func 131) #[] #[]]) (h2 : RowAt w C 77 (row 16 T)) : FnIs Try.prog (.func (.func 209) #[] #[.pointer (some ⟨A, 0, none⟩), .pointer (some ⟨B, 0, none⟩), .pointer (some ⟨C, 0, none⟩)]) w (fun q => pt (eqO T q)) 16 :=
  ⟨209, _, rfl, enters_of Try.func209 (by kernel_rfl) rfl, fun W q hb hq => by
    obtain ⟨g, rfl, hent, hcall⟩ := hpt
    have hB : Bd T := fun y _ => hT y
    have r0 := (h0.later hb).alloc (.cells #[.int .i64 (q : Int)] 3)
    have r1 := (h1.later hb).alloc (.cells #[.int .i64 (q : Int)] 3)
    have r2 := (h2.later hb).alloc (.cells #[.int .i64 (q : Int)] 3)
    have r3 := RowAt.fresh W 3 #[.int .i64 (q : Int)]
    have c0 := r0.get 0
    have hf := fn_star111_or _ B C W.heap.size T q hT hq r1 r2 r3
    have HC := Lib.hid (hcall _ _ _ hf (eqO_bd hB hq) (eqO_mono hm q)); clear hcall hf
    show Calls Try.prog 209 #[.int .i64 (q : Int), .pointer (some ⟨A, 0, none⟩), .pointer (some ⟨B, 0, none⟩), .pointer (some ⟨C, 0, none⟩)] W _
    clear h0 h1 h2 hT hb
    go_enter Try.func209, Try.ntmps209
    go_wp2_with fail
    refine HC.out.mono ?_
    rintro e w1 ⟨rfl, hb1⟩
    go_wp2_with fail
    go_ret
    exact ⟨rfl, bel_on (bel_1 _ _) hb1 (by simp)⟩⟩
theorem fn_star1_or (w : World) (A B : Nat) (pv : Value) (pt : (Nat → Nat) → Nat) (hpt : PtIs Try.prog pv pt) (T : Nat → Nat) (hT : ∀ k, T k < 16) (hm : Mono T) (h0 : RowAt w A 96 #[pv]) (h1 : RowAt w B 47 #[.func (.func 131) #[] #[]]) : TrIs Try.prog (.func (.func 208) #[] #[.pointer (some ⟨A, 0, none⟩), .pointer (some ⟨B, 0, none⟩)]) w T (fun q => pt (eqO T q)) :=
  ⟨208, _, rfl, enters_of Try.func208 (by kernel_rfl) rfl, fun W hb => by
    have r0 := ((h0.later hb).alloc (.cells (row 16 T) 77)).alloc (.cells (row 16 (fun _ => 0)) 77)
    have r1 := ((h1.later hb).alloc (.cells (row 16 T) 77)).alloc (.cells (row 16 (fun _ => 0)) 77)
    have r2 := (RowAt.fresh W 77 (row 16 T)).alloc (.cells (row 16 (fun _ => 0)) 77)
    have r3 := RowAt.fresh1 W (.cells (row 16 T) 77) 77 (row 16 (fun _ => 0))
    have hf := fn_star11_or _ A B W.heap.size pv pt hpt T hT hm r0 r1 r2
    have HF := Lib.hid hf; clear hf hpt
    show Calls Try.prog 208 #[.agg (row 16 T), .pointer (some ⟨A, 0, none⟩), .pointer (some ⟨B, 0, none⟩)] W _
    clear h0 h1 hb
    go_enter Try.func208, Try.ntmps208
    go_wp2_with fail
    refine (i_makeTrans _ (fun q => pt (eqO T q)) _ (HF.out)).mono ?_
    rintro e w1 ⟨rfl, hb⟩
    have hr := (r3).later hb
    go_wp2_with (refine wpList_store_row rfl 77 _ _ rfl (W.heap.size + 1) (row 16 (fun q => pt (eqO T q))) rfl rfl 77 _ hr (by rw [row_size]; kernel_rfl) (by first | rfl | (rw [row_size, row_size]) | (simp [row_size]; done)) (row_one _ _) ?_)
    refine bodyPost_ret (results_cell_row rfl _ _ (W.heap.size + 1) 77 _ (0, 0) _ rfl (hr.put _) Try.underlying77 rfl (by rw [row_size]; kernel_rfl)) rfl ⟨rfl, ?_⟩
    exact bel_setRow (bel_on (bel_2 W _ _) hb (by simp; omega)) (by omega) _⟩
theorem i_star_or (t : ByteArray) (pv : Value) (pt : (Nat → Nat) → Nat) (w : World) (hpt : PtIs Try.prog pv pt) (hl : ∀ f, Bd f → pt f < 16) : Calls Try.prog 129 #[.string t, pv, .func (.func 131) #[] #[]] w fun e w' => e = .returned (.tuple #[.string (optS (trOk t) (txt 16 (fun q => pt (eqO (dig t) q)))), .bool (trOk t)]) ∧ Below w.heap.size w w' := by
  have r0 := (RowAt.fresh w 96 #[pv]).alloc (.cells #[.func (.func 131) #[] #[]] 47)
  have r1 := RowAt.fresh1 w (.cells #[pv] 96) 47 #[.func (.func 131) #[] #[]]
  have hB : Bd (dig t) := dig_bd t
  have h := i_alone t (.func (.func 208) #[] #[.pointer (some ⟨w.heap.size, 0, none⟩), .pointer (some ⟨w.heap.size + 1, 0, none⟩)]) (fun q => pt (eqO (dig t) q)) ((w.alloc (.cells #[pv] 96)).alloc (.cells #[.func (.func 131) #[] #[]] 47)) (fun q hq => hl _ (eqO_bd hB hq)) ⟨_, _, rfl⟩ (fun W h1 hb => fn_star1_or _ _ _ pv pt hpt (dig t) (dig_lt t) (dig_mono h1) (r0.later hb) (r1.later hb))
  obtain ⟨g, rfl, _, _⟩ := hpt
  have H := Lib.hid h; clear h
  go_enter Try.func129, Try.ntmps129
  go_wp2_with fail
  refine H.out.mono ?_
  rintro e w1 ⟨rfl, hb⟩
  go_wp2_with fail
  go_ret2
  exact ⟨rfl, bel_on (bel_2 w _ _) hb (by simp; omega)⟩
theorem fn_star111_and (w : World) (A B C : Nat) (T : Nat → Nat) (q : Nat) (hT : ∀ k, T k < 16) (hq : q < 16) (h0 : RowAt w A 47 #[.func (.func 135) #[] #[]]) (h1 : RowAt w B 77 (row 16 T)) (h2 : RowAt w C 3 #[.int .i64 (q : Int)]) : FnIs Try.prog (.func (.func 210) #[] #[.pointer (some ⟨A, 0, none⟩), .pointer (some ⟨B, 0, none⟩), .pointer (some ⟨C, 0, none⟩)]) w (eqA T q) 16 :=
  ⟨210, _, rfl, enters_of Try.func210 (by kernel_rfl) rfl, fun W y hb hy => by
    have c0 : W.cell? ⟨A, 0, none⟩ = some (.func (.func 135) #[] #[]) := (h0.later hb).get 0
    have c1 := (h1.later hb).cell y hy
    have c2 : W.cell? ⟨C, 0, none⟩ = some (.int .i64 (q : Int)) := (h2.later hb).get 0
    have i1 := lt_cast hy
    have hTy := hT y
    show Calls Try.prog 210 #[.int .i64 (y : Int), .pointer (some ⟨A, 0, none⟩), .pointer (some ⟨B, 0, none⟩), .pointer (some ⟨C, 0, none⟩)] W _
    clear h0 h1 h2 hT hb
    go_enter Try.func210, Try.ntmps210
    go_wp2_with fail
    go_quiet ((go_at_call 135; exact Calls.quiet_of_same ((i_and _ _ _ hTy hq).mono fun _ _ h => ⟨h.1, h.2.symm⟩)))
    go_wp2_with fail
    go_ret
    exact ⟨rfl, bel_drewN (Below.refl _ _) _⟩⟩
theorem fn_star11_and (w : World) (A B C : Nat) (pv : Value) (pt : (Nat → Nat) → Nat) (hpt : PtIs Try.prog pv pt) (T : Nat → Nat) (hT : ∀ k, T k < 16) (hm : Mono T) (h0 : RowAt w A 96 #[pv]) (h1 : RowAt w B 47 #[.func (.func 135) #[] #[]]) (h2 : RowAt w C 77 (row 16 T)) : FnIs Try.prog (.func (.func 209) #[] #[.pointer (some ⟨A, 0, none⟩), .pointer (some ⟨B, 0, none⟩), .pointer (some ⟨C, 0, none⟩)]) w (fun q => pt (eqA T q)) 16 :=
  ⟨209, _, rfl, enters_of Try.func209 (by kernel_rfl) rfl, fun W q hb hq => by
    obtain ⟨g, rfl, hent, hcall⟩ := hpt
    have hB : Bd T := fun y _ => hT y
    have r0 := (h0.later hb).alloc (.cells #[.int .i64 (q : Int)] 3)
    have r1 := (h1.later hb).alloc (.cells #[.int .i64 (q : Int)] 3)
    have r2 := (h2.later hb).alloc (.cells #[.int .i64 (q : Int)] 3)
    have r3 := RowAt.fresh W 3 #[.int .i64 (q : Int)]
    have c0 := r0.get 0
    have hf := fn_star111_and _ B C W.heap.size T q hT hq r1 r2 r3
    have HC := Lib.hid (hcall _ _ _ hf (eqA_bd hq) (eqA_mono hm q)); clear hcall hf
    show Calls Try.prog 209 #[.int .i64 (q : Int), .pointer (some ⟨A, 0, none⟩), .pointer (some ⟨B, 0, none⟩), .pointer (some ⟨C, 0, none⟩)] W _
    clear h0 h1 h2 hT hb
    go_enter Try.func209, Try.ntmps209
    go_wp2_with fail
    refine HC.out.mono ?_
    rintro e w1 ⟨rfl, hb1⟩
    go_wp2_with fail
    go_ret
    exact ⟨rfl, bel_on (bel_1 _ _) hb1 (by simp)⟩⟩
theorem fn_star1_and (w : World) (A B : Nat) (pv : Value) (pt : (Nat → Nat) → Nat) (hpt : PtIs Try.prog pv pt) (T : Nat → Nat) (hT : ∀ k, T k < 16) (hm : Mono T) (h0 : RowAt w A 96 #[pv]) (h1 : RowAt w B 47 #[.func (.func 135) #[] #[]]) : TrIs Try.prog (.func (.func 208) #[] #[.pointer (some ⟨A, 0, none⟩), .pointer (some ⟨B, 0, none⟩)]) w T (fun q => pt (eqA T q)) :=
  ⟨208, _, rfl, enters_of Try.func208 (by kernel_rfl) rfl, fun W hb => by
    have r0 := ((h0.later hb).alloc (.cells (row 16 T) 77)).alloc (.cells (row 16 (fun _ => 0)) 77)
    have r1 := ((h1.later hb).alloc (.cells (row 16 T) 77)).alloc (.cells (row 16 (fun _ => 0)) 77)
    have r2 := (RowAt.fresh W 77 (row 16 T)).alloc (.cells (row 16 (fun _ => 0)) 77)
    have r3 := RowAt.fresh1 W (.cells (row 16 T) 77) 77 (row 16 (fun _ => 0))
    have hf := fn_star11_and _ A B W.heap.size pv pt hpt T hT hm r0 r1 r2
    have HF := Lib.hid hf; clear hf hpt
    show Calls Try.prog 208 #[.agg (row 16 T), .pointer (some ⟨A, 0, none⟩), .pointer (some ⟨B, 0, none⟩)] W _
    clear h0 h1 hb
    go_enter Try.func208, Try.ntmps208
    go_wp2_with fail
    refine (i_makeTrans _ (fun q => pt (eqA T q)) _ (HF.out)).mono ?_
    rintro e w1 ⟨rfl, hb⟩
    have hr := (r3).later hb
    go_wp2_with (refine wpList_store_row rfl 77 _ _ rfl (W.heap.size + 1) (row 16 (fun q => pt (eqA T q))) rfl rfl 77 _ hr (by rw [row_size]; kernel_rfl) (by first | rfl | (rw [row_size, row_size]) | (simp [row_size]; done)) (row_one _ _) ?_)
    refine bodyPost_ret (results_cell_row rfl _ _ (W.heap.size + 1) 77 _ (0, 0) _ rfl (hr.put _) Try.underlying77 rfl (by rw [row_size]; kernel_rfl)) rfl ⟨rfl, ?_⟩
    exact bel_setRow (bel_on (bel_2 W _ _) hb (by simp; omega)) (by omega) _⟩
theorem i_star_and (t : ByteArray) (pv : Value) (pt : (Nat → Nat) → Nat) (w : World) (hpt : PtIs Try.prog pv pt) (hl : ∀ f, Bd f → pt f < 16) : Calls Try.prog 129 #[.string t, pv, .func (.func 135) #[] #[]] w fun e w' => e = .returned (.tuple #[.string (optS (trOk t) (txt 16 (fun q => pt (eqA (dig t) q)))), .bool (trOk t)]) ∧ Below w.heap.size w w' := by
  have r0 := (RowAt.fresh w 96 #[pv]).alloc (.cells #[.func (.func 135) #[] #[]] 47)
  have r1 := RowAt.fresh1 w (.cells #[pv] 96) 47 #[.func (.func 135) #[] #[]]
  have hB : Bd (dig t) := dig_bd t
  have h := i_alone t (.func (.func 208) #[] #[.pointer (some ⟨w.heap.size, 0, none⟩), .pointer (some ⟨w.heap.size + 1, 0, none⟩)]) (fun q => pt (eqA (dig t) q)) ((w.alloc (.cells #[pv] 96)).alloc (.cells #[.func (.func 135) #[] #[]] 47)) (fun q hq => hl _ (eqA_bd hq)) ⟨_, _, rfl⟩ (fun W h1 hb => fn_star1_and _ _ _ pv pt hpt (dig t) (dig_lt t) (dig_mono h1) (r0.later hb) (r1.later hb))
  obtain ⟨g, rfl, _, _⟩ := hpt
  have H := Lib.hid h; clear h
  go_enter Try.func129, Try.ntmps129
  go_wp2_with fail
  refine H.out.mono ?_
  rintro e w1 ⟨rfl, hb⟩
  go_wp2_with fail
  go_ret2
  exact ⟨rfl, bel_on (bel_2 w _ _) hb (by simp; omega)⟩
theorem i_AngelStar (t : ByteArray) (w : World) : Calls Try.prog 34 #[.string t] w fun e w' => e = .returned (.tuple #[.string (optS (trOk t) (txt 16 (fun q => lfp (eqO (dig t) q)))), .bool (trOk t)]) ∧ Below w.heap.size w w' := by
  go_enter Try.func34, Try.ntmps34
  go_wp2_with fail
  refine (i_star_or t _ lfp w pt_least (fun f hf => lfp_lt hf)).mono ?_
  rintro e w1 ⟨rfl, hb⟩
  go_wp2_with fail
  go_ret2
  exact ⟨rfl, hb⟩
theorem i_AngelOmega (t : ByteArray) (w : World) : Calls Try.prog 46 #[.string t] w fun e w' => e = .returned (.tuple #[.string (optS (trOk t) (txt 16 (fun q => gfp (eqO (dig t) q)))), .bool (trOk t)]) ∧ Below w.heap.size w w' := by
  go_enter Try.func46, Try.ntmps46
  go_wp2_with fail
  refine (i_star_or t _ gfp w pt_greatest (fun f hf => gfp_lt hf)).mono ?_
  rintro e w1 ⟨rfl, hb⟩
  go_wp2_with fail
  go_ret2
  exact ⟨rfl, hb⟩
theorem i_DemonOmega (t : ByteArray) (w : World) : Calls Try.prog 44 #[.string t] w fun e w' => e = .returned (.tuple #[.string (optS (trOk t) (txt 16 (fun q => lfp (eqA (dig t) q)))), .bool (trOk t)]) ∧ Below w.heap.size w w' := by
  go_enter Try.func44, Try.ntmps44
  go_wp2_with fail
  refine (i_star_and t _ lfp w pt_least (fun f hf => lfp_lt hf)).mono ?_
  rintro e w1 ⟨rfl, hb⟩
  go_wp2_with fail
  go_ret2
  exact ⟨rfl, hb⟩
theorem i_DemonStar (t : ByteArray) (w : World) : Calls Try.prog 36 #[.string t] w fun e w' => e = .returned (.tuple #[.string (optS (trOk t) (txt 16 (fun q => gfp (eqA (dig t) q)))), .bool (trOk t)]) ∧ Below w.heap.size w w' := by
  go_enter Try.func36, Try.ntmps36
  go_wp2_with fail
  refine (i_star_and t _ gfp w pt_greatest (fun f hf => gfp_lt hf)).mono ?_
  rintro e w1 ⟨rfl, hb⟩
  go_wp2_with fail
  go_ret2
  exact ⟨rfl, hb⟩
set_option maxHeartbeats 1000000 in
theorem i_WhileTrans (p : Int) (t : ByteArray) (w : World) : Calls Try.prog 58 #[.int .i64 p, .string t] w fun e w' => e = .returned (.tuple #[.string (optS (trOk t && cvB p) (txt 16 (fWhile p.toNat (dig t)))), .bool (trOk t && cvB p)]) ∧ Below w.heap.size w w' := by
  cases hok : (trOk t && cvB p)
  · go_enter Try.func58, Try.ntmps58
    go_wp2_with fail
    refine (i_body _ _ _).mono ?_
    rw [hok]
    rintro e w1 ⟨rfl, hb⟩
    go_wp2_with (refine wpList_store_new rfl 77 _ _ rfl (row 16 (trF t)) rfl rfl (by rw [row_size]; kernel_rfl) (by first | rfl | (rw [row_size, row_size]) | (simp [row_size]; done)) (row_one _ _) ?_)
    go_ret2
    exact ⟨rfl, bel_on' hb (bel_1 _ _)⟩
  · have g := hok
    rw [Bool.and_eq_true] at g
    obtain ⟨n, hn, rfl⟩ := (cvB_iff p).1 g.2
    have k1 := trF_ok g.1
    have k2 := dig_mono g.1
    have K1 := Lib.hid k1; have K2 := Lib.hid k2; clear k1 k2 g
    go_enter Try.func58, Try.ntmps58
    go_wp2_with fail
    refine (i_body _ _ _).mono ?_
    rw [hok, K1.out]
    rintro e w1 ⟨rfl, hb⟩
    have r1 := RowAt.fresh w1 77 (row 16 (dig t))
    have hbb := bel_on' hb (bel_1 w1 (.cells (row 16 (dig t)) 77))
    go_wp2_with (first | (refine wpList_store_new rfl 77 _ _ rfl (row 16 (dig t)) rfl rfl (by rw [row_size]; kernel_rfl) (by first | rfl | (rw [row_size, row_size]) | (simp [row_size]; done)) (row_one _ _) ?_) | (refine wpList_load_row rfl 77 _ rfl (w1.heap.size) rfl 77 (row 16 (dig t)) (0, 0) _ r1 Try.underlying77 rfl (by rw [row_size]; kernel_rfl) ?_))
    refine (i_loop n (dig t) _ lfp _ pt_least (dig_lt t) K2.out hn).mono ?_
    rintro e w2 ⟨rfl, hb2⟩
    go_wp2_with fail
    refine (i_transText _ _ (fun q hq => fWhile_bd hn q hq)).mono ?_
    rintro e w3 ⟨rfl, hb3⟩
    go_wp2_with fail
    go_ret2
    exact ⟨rfl, bel_on' (bel_on' hbb hb2) hb3⟩
set_option maxHeartbeats 1000000 in
theorem i_WhileFree (p : Int) (t : ByteArray) (w : World) : Calls Try.prog 57 #[.int .i64 p, .string t] w fun e w' => e = .returned (.tuple #[.string (optS (trOk t && cvB p) (txt 16 (fFree p.toNat (dig t)))), .bool (trOk t && cvB p)]) ∧ Below w.heap.size w w' := by
  cases hok : (trOk t && cvB p)
  · go_enter Try.func57, Try.ntmps57
    go_wp2_with fail
    refine (i_body _ _ _).mono ?_
    rw [hok]
    rintro e w1 ⟨rfl, hb⟩
    go_wp2_with (refine wpList_store_new rfl 77 _ _ rfl (row 16 (trF t)) rfl rfl (by rw [row_size]; kernel_rfl) (by first | rfl | (rw [row_size, row_size]) | (simp [row_size]; done)) (row_one _ _) ?_)
    go_ret2
    exact ⟨rfl, bel_on' hb (bel_1 _ _)⟩
  · have g := hok
    rw [Bool.and_eq_true] at g
    obtain ⟨n, hn, rfl⟩ := (cvB_iff p).1 g.2
    have k1 := trF_ok g.1
    have k2 := dig_mono g.1
    have K1 := Lib.hid k1; have K2 := Lib.hid k2; clear k1 k2 g
    go_enter Try.func57, Try.ntmps57
    go_wp2_with fail
    refine (i_body _ _ _).mono ?_
    rw [hok, K1.out]
    rintro e w1 ⟨rfl, hb⟩
    have r1 := RowAt.fresh w1 77 (row 16 (dig t))
    have hbb := bel_on' hb (bel_1 w1 (.cells (row 16 (dig t)) 77))
    go_wp2_with (first | (refine wpList_store_new rfl 77 _ _ rfl (row 16 (dig t)) rfl rfl (by rw [row_size]; kernel_rfl) (by first | rfl | (rw [row_size, row_size]) | (simp [row_size]; done)) (row_one _ _) ?_) | (refine wpList_load_row rfl 77 _ rfl (w1.heap.size) rfl 77 (row 16 (dig t)) (0, 0) _ r1 Try.underlying77 rfl (by rw [row_size]; kernel_rfl) ?_))
    refine (i_loop n (dig t) _ gfp _ pt_greatest (dig_lt t) K2.out hn).mono ?_
    rintro e w2 ⟨rfl, hb2⟩
    go_wp2_with fail
    refine (i_transText _ _ (fun q hq => fFree_bd hn q hq)).mono ?_
    rintro e w3 ⟨rfl, hb3⟩
    go_wp2_with fail
    go_ret2
    exact ⟨rfl, bel_on' (bel_on' hbb hb2) hb3⟩
set_option maxHeartbeats 1000000 in
theorem i_EndsFrom (p : Int) (t : ByteArray) (w : World) : Calls Try.prog 62 #[.int .i64 p, .string t] w fun e w' => e = .returned (.int .i64 (optI (trOk t && cvB p) (fWhile p.toNat (dig t) 15))) ∧ Below w.heap.size w w' := by
  cases hok : (trOk t && cvB p)
  · go_enter Try.func62, Try.ntmps62
    go_wp2_with fail
    refine (i_body _ _ _).mono ?_
    rw [hok]
    rintro e w1 ⟨rfl, hb⟩
    go_wp2_with (refine wpList_store_new rfl 77 _ _ rfl (row 16 (trF t)) rfl rfl (by rw [row_size]; kernel_rfl) (by first | rfl | (rw [row_size, row_size]) | (simp [row_size]; done)) (row_one _ _) ?_)
    go_ret
    exact ⟨rfl, bel_on' hb (bel_1 _ _)⟩
  · have g := hok
    rw [Bool.and_eq_true] at g
    obtain ⟨n, hn, rfl⟩ := (cvB_iff p).1 g.2
    have k1 := trF_ok g.1
    have k2 := dig_mono g.1
    have K1 := Lib.hid k1; have K2 := Lib.hid k2; clear k1 k2 g
    have hi := fun w => run_index_row (P := Try.prog) (F := fun q => lfp (eqW n (dig t) q)) (T := 77) Try.underlying77 Try.underlying3 (by kernel_rfl) (show 15 < 16 by omega) w
    simp only [Int.cast_ofNat_Int] at hi
    go_enter Try.func62, Try.ntmps62
    go_wp2_with fail
    refine (i_body _ _ _).mono ?_
    rw [hok, K1.out]
    rintro e w1 ⟨rfl, hb⟩
    have r1 := RowAt.fresh w1 77 (row 16 (dig t))
    have hbb := bel_on' hb (bel_1 w1 (.cells (row 16 (dig t)) 77))
    go_wp2_with (first | (refine wpList_store_new rfl 77 _ _ rfl (row 16 (dig t)) rfl rfl (by rw [row_size]; kernel_rfl) (by first | rfl | (rw [row_size, row_size]) | (simp [row_size]; done)) (row_one _ _) ?_) | (refine wpList_load_row rfl 77 _ rfl (w1.heap.size) rfl 77 (row 16 (dig t)) (0, 0) _ r1 Try.underlying77 rfl (by rw [row_size]; kernel_rfl) ?_))
    refine (i_loop n (dig t) _ lfp _ pt_least (dig_lt t) K2.out hn).mono ?_
    rintro e w2 ⟨rfl, hb2⟩
    go_wp2_with fail
    go_ret
    exact ⟨rfl, bel_on' hbb hb2⟩
set_option maxHeartbeats 1000000 in
theorem i_WeakestInvariant (p : Int) (t : ByteArray) (q : Int) (w : World) : Calls Try.prog 70 #[.int .i64 p, .string t, .int .i64 q] w fun e w' => e = .returned (.int .i64 (optI ((trOk t && cvB p) && cvB q) (fFree p.toNat (dig t) q.toNat))) ∧ Below w.heap.size w w' := by
  cases hok : (trOk t && cvB p)
  · go_enter Try.func70, Try.ntmps70
    go_wp2_with fail
    refine (i_body _ _ _).mono ?_
    rw [hok]
    rintro e w1 ⟨rfl, hb⟩
    go_wp2_with (refine wpList_store_new rfl 77 _ _ rfl (row 16 (trF t)) rfl rfl (by rw [row_size]; kernel_rfl) (by first | rfl | (rw [row_size, row_size]) | (simp [row_size]; done)) (row_one _ _) ?_)
    go_ret
    exact ⟨rfl, bel_on' hb (bel_1 _ _)⟩
  cases hq : cvB q
  · go_enter Try.func70, Try.ntmps70
    go_wp2_with fail
    refine (i_body _ _ _).mono ?_
    rw [hok]
    rintro e w1 ⟨rfl, hb⟩
    go_wp2_with (first | (refine wpList_store_new rfl 77 _ _ rfl (row 16 (trF t)) rfl rfl (by rw [row_size]; kernel_rfl) (by first | rfl | (rw [row_size, row_size]) | (simp [row_size]; done)) (row_one _ _) ?_) | (go_at_call 56; refine (i_ConditionValid _ _).mono ?_; rw [hq]; rintro e w2 ⟨rfl, rfl⟩))
    go_ret
    exact ⟨rfl, bel_on' hb (bel_1 _ _)⟩
  · have g := hok
    rw [Bool.and_eq_true] at g
    obtain ⟨n, hn, rfl⟩ := (cvB_iff p).1 g.2
    obtain ⟨m, hm, rfl⟩ := (cvB_iff q).1 hq
    have k1 := trF_ok g.1
    have k2 := dig_mono g.1
    have K1 := Lib.hid k1; have K2 := Lib.hid k2; clear k1 k2 g
    have hi := fun w => run_index_row (P := Try.prog) (F := fun q => gfp (eqW n (dig t) q)) (T := 77) Try.underlying77 Try.underlying3 (by kernel_rfl) hm w
    go_enter Try.func70, Try.ntmps70
    go_wp2_with fail
    refine (i_body _ _ _).mono ?_
    rw [hok, K1.out]
    rintro e w1 ⟨rfl, hb⟩
    have r1 := RowAt.fresh w1 77 (row 16 (dig t))
    have hbb := bel_on' hb (bel_1 w1 (.cells (row 16 (dig t)) 77))
    go_wp2_with (first | (refine wpList_store_new rfl 77 _ _ rfl (row 16 (dig t)) rfl rfl (by rw [row_size]; kernel_rfl) (by first | rfl | (rw [row_size, row_size]) | (simp [row_size]; done)) (row_one _ _) ?_) | (refine wpList_load_row rfl 77 _ rfl (w1.heap.size) rfl 77 (row 16 (dig t)) (0, 0) _ r1 Try.underlying77 rfl (by rw [row_size]; kernel_rfl) ?_) | (go_at_call 56; refine (i_ConditionValid _ _).mono ?_; rw [hq]; rintro e w2 ⟨rfl, rfl⟩))
    refine (i_loop n (dig t) _ gfp _ pt_greatest (dig_lt t) K2.out hn).mono ?_
    rintro e w2 ⟨rfl, hb2⟩
    go_wp2_with fail
    go_ret
    exact ⟨rfl, bel_on' hbb hb2⟩
end Go.Proofs.Ytiaeakpgldpaiaa
