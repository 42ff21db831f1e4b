/- The program's repetitions and residuals: the closures, and the listed functions made of them. -/
import Derived.Test.YtjbfebjdegabaaaImplI
namespace Go.Proofs.Ytjbfebjdegabaaa
set_option linter.unusedSimpArgs false
set_option linter.unusedVariables false
set_option maxRecDepth 4000
open Go.RowKit

theorem fn_star111_and (w : World) (A B C : Nat) (T : Nat → Nat) (q : Nat) (hT : ∀ k, T k < 16) (hq : q < 16) (h0 : RowAt w A 45 #[.func (.func 43) #[] #[]]) (h1 : RowAt w B 68 (row 16 T)) (h2 : RowAt w C 3 #[.int .i64 (q : Int)]) : FnIs Try.prog (.func (.func 113) #[] #[.pointer (some ⟨A, 0, none⟩), .pointer (some ⟨B, 0, none⟩), .pointer (some ⟨C, 0, none⟩)]) w (eqA T q) 16 :=
  ⟨113, _, rfl, enters_of Try.func113 (by kernel_rfl) rfl, fun W y hb hy => by
    have c0 : W.cell? ⟨A, 0, none⟩ = some (.func (.func 43) #[] #[]) := (h0.later hb).get 0
    have c1 := (h1.later hb).cell y hy
    have c2 : W.cell? ⟨C, 0, none⟩ = some (.int .i64 (q : Int)) := (h2.later hb).get 0
    have i1 := lt_cast hy
    have hTy := hT y
    show Calls Try.prog 113 #[.int .i64 (y : Int), .pointer (some ⟨A, 0, none⟩), .pointer (some ⟨B, 0, none⟩), .pointer (some ⟨C, 0, none⟩)] W _
    clear h0 h1 h2 hT hb
    go_enter Try.func113, Try.ntmps113
    go_wp2_with fail
    go_quiet ((go_at_call 43; exact Calls.quiet_of_same ((i_and _ _ _ hTy hq).mono fun _ _ h => ⟨h.1, h.2.symm⟩)))
    go_wp2_with fail
    go_ret
    exact ⟨rfl, bel_drewN (Below.refl _ _) _⟩⟩
theorem fn_star11_and (w : World) (A B C : Nat) (pv : Value) (pt : (Nat → Nat) → Nat) (hpt : PtIs Try.prog pv pt) (T : Nat → Nat) (hT : ∀ k, T k < 16) (hm : Mono T) (h0 : RowAt w A 44 #[pv]) (h1 : RowAt w B 45 #[.func (.func 43) #[] #[]]) (h2 : RowAt w C 68 (row 16 T)) : FnIs Try.prog (.func (.func 112) #[] #[.pointer (some ⟨A, 0, none⟩), .pointer (some ⟨B, 0, none⟩), .pointer (some ⟨C, 0, none⟩)]) w (fun q => pt (eqA T q)) 16 :=
  ⟨112, _, rfl, enters_of Try.func112 (by kernel_rfl) rfl, fun W q hb hq => by
    obtain ⟨g, rfl, hent, hcall⟩ := hpt
    have hB : Bd T := fun y _ => hT y
    have r0 := (h0.later hb).alloc (.cells #[.int .i64 (q : Int)] 3)
    have r1 := (h1.later hb).alloc (.cells #[.int .i64 (q : Int)] 3)
    have r2 := (h2.later hb).alloc (.cells #[.int .i64 (q : Int)] 3)
    have r3 := RowAt.fresh W 3 #[.int .i64 (q : Int)]
    have c0 := r0.get 0
    have hf := fn_star111_and _ B C W.heap.size T q hT hq r1 r2 r3
    have HC := Lib.hid (hcall _ _ _ hf (eqA_bd hq) (eqA_mono hm q)); clear hcall hf
    show Calls Try.prog 112 #[.int .i64 (q : Int), .pointer (some ⟨A, 0, none⟩), .pointer (some ⟨B, 0, none⟩), .pointer (some ⟨C, 0, none⟩)] W _
    clear h0 h1 h2 hT hb
    go_enter Try.func112, Try.ntmps112
    go_wp2_with fail
    refine HC.out.mono ?_
    rintro e w1 ⟨rfl, hb1⟩
    go_wp2_with fail
    go_ret
    exact ⟨rfl, bel_on (bel_1 _ _) hb1 (by simp)⟩⟩
theorem fn_star1_and (w : World) (A B : Nat) (pv : Value) (pt : (Nat → Nat) → Nat) (hpt : PtIs Try.prog pv pt) (T : Nat → Nat) (hT : ∀ k, T k < 16) (hm : Mono T) (h0 : RowAt w A 44 #[pv]) (h1 : RowAt w B 45 #[.func (.func 43) #[] #[]]) : TrIs Try.prog (.func (.func 110) #[] #[.pointer (some ⟨A, 0, none⟩), .pointer (some ⟨B, 0, none⟩)]) w T (fun q => pt (eqA T q)) :=
  ⟨110, _, rfl, enters_of Try.func110 (by kernel_rfl) rfl, fun W hb => by
    have r0 := ((h0.later hb).alloc (.cells (row 16 T) 68)).alloc (.cells (row 16 (fun _ => 0)) 68)
    have r1 := ((h1.later hb).alloc (.cells (row 16 T) 68)).alloc (.cells (row 16 (fun _ => 0)) 68)
    have r2 := (RowAt.fresh W 68 (row 16 T)).alloc (.cells (row 16 (fun _ => 0)) 68)
    have r3 := RowAt.fresh1 W (.cells (row 16 T) 68) 68 (row 16 (fun _ => 0))
    have hf := fn_star11_and _ A B W.heap.size pv pt hpt T hT hm r0 r1 r2
    have HF := Lib.hid hf; clear hf hpt
    show Calls Try.prog 110 #[.agg (row 16 T), .pointer (some ⟨A, 0, none⟩), .pointer (some ⟨B, 0, none⟩)] W _
    clear h0 h1 hb
    go_enter Try.func110, Try.ntmps110
    go_wp2_with fail
    refine (i_makeTrans _ (fun q => pt (eqA T q)) _ (HF.out)).mono ?_
    rintro e w1 ⟨rfl, hb⟩
    have hr := (r3).later hb
    go_wp2_with (refine wpList_store_row rfl 68 _ _ rfl (W.heap.size + 1) (row 16 (fun q => pt (eqA T q))) rfl rfl 68 _ hr (by rw [row_size]; kernel_rfl) (by first | rfl | (rw [row_size, row_size]) | (simp [row_size]; done)) (row_one _ _) ?_)
    refine bodyPost_ret (results_cell_row rfl _ _ (W.heap.size + 1) 68 _ (0, 0) _ rfl (hr.put _) Try.underlying68 rfl (by rw [row_size]; kernel_rfl)) rfl ⟨rfl, ?_⟩
    exact bel_setRow (bel_on (bel_2 W _ _) hb (by simp; omega)) (by omega) _⟩
theorem i_star_and (t : ByteArray) (pv : Value) (pt : (Nat → Nat) → Nat) (w : World) (hpt : PtIs Try.prog pv pt) (hl : ∀ f, Bd f → pt f < 16) : Calls Try.prog 41 #[.string t, pv, .func (.func 43) #[] #[]] w fun e w' => e = .returned (.tuple #[.string (optS (trOk t) (txt 16 (fun q => pt (eqA (dig t) q)))), .bool (trOk t)]) ∧ Below w.heap.size w w' := by
  have r0 := (RowAt.fresh w 44 #[pv]).alloc (.cells #[.func (.func 43) #[] #[]] 45)
  have r1 := RowAt.fresh1 w (.cells #[pv] 44) 45 #[.func (.func 43) #[] #[]]
  have hB : Bd (dig t) := dig_bd t
  have h := i_alone t (.func (.func 110) #[] #[.pointer (some ⟨w.heap.size, 0, none⟩), .pointer (some ⟨w.heap.size + 1, 0, none⟩)]) (fun q => pt (eqA (dig t) q)) ((w.alloc (.cells #[pv] 44)).alloc (.cells #[.func (.func 43) #[] #[]] 45)) (fun q hq => hl _ (eqA_bd hq)) ⟨_, _, rfl⟩ (fun W h1 hb => fn_star1_and _ _ _ pv pt hpt (dig t) (dig_lt t) (dig_mono h1) (r0.later hb) (r1.later hb))
  obtain ⟨g, rfl, _, _⟩ := hpt
  have H := Lib.hid h; clear h
  go_enter Try.func41, Try.ntmps41
  go_wp2_with fail
  refine H.out.mono ?_
  rintro e w1 ⟨rfl, hb⟩
  go_wp2_with fail
  go_ret2
  exact ⟨rfl, bel_on (bel_2 w _ _) hb (by simp; omega)⟩
theorem i_DemonOmega (t : ByteArray) (w : World) : Calls Try.prog 15 #[.string t] w fun e w' => e = .returned (.tuple #[.string (optS (trOk t) (txt 16 (fun q => lfp (eqA (dig t) q)))), .bool (trOk t)]) ∧ Below w.heap.size w w' := by
  go_enter Try.func15, Try.ntmps15
  go_wp2_with fail
  refine (i_star_and t _ lfp w pt_least (fun f hf => lfp_lt hf)).mono ?_
  rintro e w1 ⟨rfl, hb⟩
  go_wp2_with fail
  go_ret2
  exact ⟨rfl, hb⟩
theorem i_DemonStar (t : ByteArray) (w : World) : Calls Try.prog 17 #[.string t] w fun e w' => e = .returned (.tuple #[.string (optS (trOk t) (txt 16 (fun q => gfp (eqA (dig t) q)))), .bool (trOk t)]) ∧ Below w.heap.size w w' := by
  go_enter Try.func17, Try.ntmps17
  go_wp2_with fail
  refine (i_star_and t _ gfp w pt_greatest (fun f hf => gfp_lt hf)).mono ?_
  rintro e w1 ⟨rfl, hb⟩
  go_wp2_with fail
  go_ret2
  exact ⟨rfl, hb⟩
end Go.Proofs.Ytjbfebjdegabaaa
