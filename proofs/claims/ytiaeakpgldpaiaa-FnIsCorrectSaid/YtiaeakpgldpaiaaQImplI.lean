/- The program's functions that take functions: loops, repetitions, residuals. -/
import Derived.Test.YtiaeakpgldpaiaaQJ3
namespace Go.Proofs.Ytiaeakpgldpaiaa
set_option linter.unusedSimpArgs false
set_option linter.unusedVariables false
set_option maxRecDepth 4000
open Go.RowKit

theorem RowAt.fresh3 (w : World) (o o' o'' : Obj) (t : TypeId) (cs : Array Value) : RowAt ((((w.alloc o).alloc o').alloc o'').alloc (.cells cs t)) (w.heap.size + 3) t cs := by
  have h := RowAt.fresh (((w.alloc o).alloc o').alloc o'') t cs
  simpa using h
theorem bel_4 (w : World) (a b c d : Obj) : Below w.heap.size w ((((w.alloc a).alloc b).alloc c).alloc d) := (bel_3 w a b c).alloc (by simp; omega) _

/-- A function value that makes a table of a table, or of two. -/
def TrIs (P : Program) (fv : Value) (w : World) (T G : Nat → Nat) : Prop :=
  ∃ g lb, fv = .func (.func g) #[] lb ∧ (∀ args w, (callFunc g args).run P w = .ok (.enter g args) w) ∧
    ∀ (W : World), Below w.heap.size w W → Calls P g (#[.agg (row 16 T)] ++ lb) W fun e W' => e = .returned (.agg (row 16 G)) ∧ Below W.heap.size W W'
def Tr2Is (P : Program) (fv : Value) (w : World) (T U G : Nat → Nat) : Prop :=
  ∃ g lb, fv = .func (.func g) #[] lb ∧ (∀ args w, (callFunc g args).run P w = .ok (.enter g args) w) ∧
    ∀ (W : World), Below w.heap.size w W → Calls P g (#[.agg (row 16 T), .agg (row 16 U)] ++ lb) W fun e W' => e = .returned (.agg (row 16 G)) ∧ Below W.heap.size W W'
/-- A function value that finds a fixed point. -/
def PtIs (P : Program) (fv : Value) (pt : (Nat → Nat) → Nat) : Prop :=
  ∃ g, fv = .func (.func g) #[] #[] ∧ (∀ args w, (callFunc g args).run P w = .ok (.enter g args) w) ∧
    ∀ (W : World) (gv : Value) (f : Nat → Nat), FnIs P gv W f 16 → Bd f → Mono f → Calls P g #[gv] W fun e W' => e = .returned (.int .i64 (pt f : Int)) ∧ Below W.heap.size W W'

theorem pt_least : PtIs Try.prog (.func (.func 130) #[] #[]) lfp := ⟨_, rfl, enters_of Try.func130 (by kernel_rfl) rfl, fun W gv f hf hb hm => i_leastPoint gv f W hf hb hm⟩
theorem pt_greatest : PtIs Try.prog (.func (.func 134) #[] #[]) gfp := ⟨_, rfl, enters_of Try.func134 (by kernel_rfl) rfl, fun W gv f hf hb hm => i_greatestPoint gv f W hf hb hm⟩
theorem fn_loop11 (w : World) (A B C : Nat) (p : Nat) (T : Nat → Nat) (q : Nat) (hT : ∀ k, T k < 16) (hp : p < 16) (hq : q < 16) (h0 : RowAt w A 3 #[.int .i64 (p : Int)]) (h1 : RowAt w B 77 (row 16 T)) (h2 : RowAt w C 3 #[.int .i64 (q : Int)]) : FnIs Try.prog (.func (.func 221) #[] #[.pointer (some ⟨A, 0, none⟩), .pointer (some ⟨B, 0, none⟩), .pointer (some ⟨C, 0, none⟩)]) w (eqW p T q) 16 :=
  ⟨221, _, rfl, enters_of Try.func221 (by kernel_rfl) rfl, fun W y hb hy => by
    have c0 : W.cell? ⟨A, 0, none⟩ = some (.int .i64 (p : Int)) := (h0.later hb).get 0
    have c1 := (h1.later hb).cell y hy
    have c2 : W.cell? ⟨C, 0, none⟩ = some (.int .i64 (q : Int)) := (h2.later hb).get 0
    have e1 := bits_and_nat p (T y) (by omega) (by have := hT y; omega)
    have e2 := bits_andn_nat q p hq hp
    have e3 := bits_or_nat (p &&& T y) (andn q p) (by have := and_lt (b := T y) hp; omega) (by have := andn_lt (b := p) hq; omega)
    have i1 := lt_cast hy
    show Calls Try.prog 221 #[.int .i64 (y : Int), .pointer (some ⟨A, 0, none⟩), .pointer (some ⟨B, 0, none⟩), .pointer (some ⟨C, 0, none⟩)] W _
    clear h0 h1 h2 hT hb
    go_enter Try.func221, Try.ntmps221
    go_wp2
    go_quiet (fail)
    go_wp2
    go_ret
    exact ⟨rfl, bel_drewN (Below.refl _ _) _⟩⟩
theorem fn_loop1 (w : World) (A B C : Nat) (pv : Value) (pt : (Nat → Nat) → Nat) (hpt : PtIs Try.prog pv pt) (p : Nat) (T : Nat → Nat) (hT : ∀ k, T k < 16) (hm : Mono T) (hp : p < 16) (h0 : RowAt w A 96 #[pv]) (h1 : RowAt w B 3 #[.int .i64 (p : Int)]) (h2 : RowAt w C 77 (row 16 T)) : FnIs Try.prog (.func (.func 220) #[] #[.pointer (some ⟨A, 0, none⟩), .pointer (some ⟨B, 0, none⟩), .pointer (some ⟨C, 0, none⟩)]) w (fun q => pt (eqW p T q)) 16 :=
  ⟨220, _, rfl, enters_of Try.func220 (by kernel_rfl) rfl, fun W q hb hq => by
    obtain ⟨g, rfl, hent, hcall⟩ := hpt
    have r0 := (h0.later hb).alloc (.cells #[.int .i64 (q : Int)] 3)
    have r1 := (h1.later hb).alloc (.cells #[.int .i64 (q : Int)] 3)
    have r2 := (h2.later hb).alloc (.cells #[.int .i64 (q : Int)] 3)
    have r3 := RowAt.fresh W 3 #[.int .i64 (q : Int)]
    have c0 := r0.get 0
    have hf := fn_loop11 _ B C W.heap.size p T q hT hp hq r1 r2 r3
    have HC := Lib.hid (hcall _ _ _ hf (eqW_bd hp hq) (eqW_mono hm p q)); clear hcall hf
    show Calls Try.prog 220 #[.int .i64 (q : Int), .pointer (some ⟨A, 0, none⟩), .pointer (some ⟨B, 0, none⟩), .pointer (some ⟨C, 0, none⟩)] W _
    clear h0 h1 h2 hT hb
    go_enter Try.func220, Try.ntmps220
    go_wp2_with fail
    refine HC.out.mono ?_
    rintro e w1 ⟨rfl, hb1⟩
    go_wp2_with fail
    go_ret
    exact ⟨rfl, bel_on (bel_1 _ _) hb1 (by simp)⟩⟩
theorem i_loop (p : Nat) (T : Nat → Nat) (pv : Value) (pt : (Nat → Nat) → Nat) (w : World) (hpt : PtIs Try.prog pv pt) (hT : ∀ k, T k < 16) (hm : Mono T) (hp : p < 16) : Calls Try.prog 149 #[.int .i64 (p : Int), .agg (row 16 T), pv] w fun e w' => e = .returned (.agg (row 16 (fun q => pt (eqW p T q)))) ∧ Below w.heap.size w w' := by
  have h1 := (((RowAt.fresh w 3 #[.int .i64 (p : Int)]).alloc (.cells (row 16 T) 77)).alloc (.cells #[pv] 96)).alloc (.cells (row 16 (fun _ => 0)) 77)
  have h2 := ((RowAt.fresh1 w (.cells #[.int .i64 (p : Int)] 3) 77 (row 16 T)).alloc (.cells #[pv] 96)).alloc (.cells (row 16 (fun _ => 0)) 77)
  have h3 := (RowAt.fresh2 w (.cells #[.int .i64 (p : Int)] 3) (.cells (row 16 T) 77) 96 #[pv]).alloc (.cells (row 16 (fun _ => 0)) 77)
  have h4 := RowAt.fresh3 w (.cells #[.int .i64 (p : Int)] 3) (.cells (row 16 T) 77) (.cells #[pv] 96) 77 (row 16 (fun _ => 0))
  have hf := fn_loop1 _ _ _ _ pv pt hpt p T hT hm hp h3 h1 h2
  obtain ⟨g, rfl, _, _⟩ := hpt
  have HF := Lib.hid hf; clear hf
  go_enter Try.func149, Try.ntmps149
  go_wp2_with fail
  refine (i_makeTrans _ (fun q => pt (eqW p T q)) _ (HF.out)).mono ?_
  rintro e w1 ⟨rfl, hb⟩
  have hr := (h4).later hb
  go_wp2_with (refine wpList_store_row rfl 77 _ _ rfl (w.heap.size + 3) (row 16 (fun q => pt (eqW p T q))) rfl rfl 77 _ hr (by rw [row_size]; kernel_rfl) (by first | rfl | (rw [row_size, row_size]) | (simp [row_size]; done)) (row_one _ _) ?_)
  refine bodyPost_ret (results_cell_row rfl _ _ (w.heap.size + 3) 77 _ (0, 0) _ rfl (hr.put _) Try.underlying77 rfl (by rw [row_size]; kernel_rfl)) rfl ⟨rfl, ?_⟩
  exact bel_setRow (bel_on (bel_4 w _ _ _ _) hb (by simp; omega)) (by omega) _
theorem i_or (a b : Nat) (w : World) (ha : a < 16) (hb : b < 16) : Calls Try.prog 131 #[.int .i64 (a : Int), .int .i64 (b : Int)] w fun e w' => e = .returned (.int .i64 ((a ||| b : Nat) : Int)) ∧ w = w' := by
  have e1 := bits_or_nat a b (by omega) (by omega)
  go_enter Try.func131, Try.ntmps131
  go_wp2
  go_ret
  exact ⟨rfl, rfl⟩
theorem i_and (a b : Nat) (w : World) (ha : a < 16) (hb : b < 16) : Calls Try.prog 135 #[.int .i64 (a : Int), .int .i64 (b : Int)] w fun e w' => e = .returned (.int .i64 ((a &&& b : Nat) : Int)) ∧ w = w' := by
  have e1 := bits_and_nat a b (by omega) (by omega)
  go_enter Try.func135, Try.ntmps135
  go_wp2
  go_ret
  exact ⟨rfl, rfl⟩
set_option maxHeartbeats 1000000 in
theorem i_both (t u : ByteArray) (fv : Value) (G : Nat → Nat) (w : World) (hG : ∀ i, i < 16 → G i < 16) (hf : trOk t = true → trOk u = true → Tr2Is Try.prog fv w (dig t) (dig u) G) : Calls Try.prog 182 #[.string t, .string u, fv] w fun e w' => e = .returned (.tuple #[.string (optS (trOk t && trOk u) (txt 16 G)), .bool (trOk t && trOk u)]) ∧ Below w.heap.size w w' := by
  cases h1 : trOk t <;> cases h2 : trOk u
  case true.true =>
    obtain ⟨g, lb, rfl, hent, hcall⟩ := hf h1 h2
    have HC := Lib.hid hcall; clear hcall hf
    have k1 := trF_ok h1
    have k2 := trF_ok h2
    have K1 := Lib.hid k1; have K2 := Lib.hid k2; clear k1 k2
    have HG := Lib.hid hG; clear hG
    go_enter Try.func182, Try.ntmps182
    go_wp2_with fail
    refine (i_readTrans _ _).mono ?_
    rw [h1, K1.out]
    rintro e w1 ⟨rfl, hb1⟩
    go_wp2_with (refine wpList_store_new rfl 77 _ _ rfl (row 16 (dig t)) rfl rfl (by rw [row_size]; kernel_rfl) (by first | rfl | (rw [row_size, row_size]) | (simp [row_size]; done)) (row_one _ _) ?_)
    refine (i_readTrans _ _).mono ?_
    rw [h2, K2.out]
    rintro e w2 ⟨rfl, hb2⟩
    have r1 := ((RowAt.fresh w1 77 (row 16 (dig t))).later hb2).alloc (.cells (row 16 (dig u)) 77)
    have r2 := RowAt.fresh w2 77 (row 16 (dig u))
    have hbb := bel_on' (bel_on' (bel_on' hb1 (bel_1 w1 (.cells (row 16 (dig t)) 77))) hb2) (bel_1 w2 (.cells (row 16 (dig u)) 77))
    go_wp2_with (first | (refine wpList_store_new rfl 77 _ _ rfl (row 16 (dig u)) rfl rfl (by rw [row_size]; kernel_rfl) (by first | rfl | (rw [row_size, row_size]) | (simp [row_size]; done)) (row_one _ _) ?_) | (refine wpList_load_row rfl 77 _ rfl (w1.heap.size) rfl 77 (row 16 (dig t)) (0, 0) _ r1 Try.underlying77 rfl (by rw [row_size]; kernel_rfl) ?_) | (refine wpList_load_row rfl 77 _ rfl (w2.heap.size) rfl 77 (row 16 (dig u)) (0, 0) _ r2 Try.underlying77 rfl (by rw [row_size]; kernel_rfl) ?_))
    refine (HC.out _ hbb).mono ?_
    rintro e w3 ⟨rfl, hb3⟩
    go_wp2_with fail
    refine (i_transText _ _ HG.out).mono ?_
    rintro e w4 ⟨rfl, hb4⟩
    go_wp2_with fail
    go_ret2
    exact ⟨rfl, bel_on' (bel_on' hbb hb3) hb4⟩
  all_goals
    go_enter Try.func182, Try.ntmps182
    go_wp2_with fail
    refine (i_readTrans _ _).mono ?_
    rw [h1]
    rintro e w1 ⟨rfl, hb1⟩
    go_wp2_with (refine wpList_store_new rfl 77 _ _ rfl (row 16 (trF t)) rfl rfl (by rw [row_size]; kernel_rfl) (by first | rfl | (rw [row_size, row_size]) | (simp [row_size]; done)) (row_one _ _) ?_)
    refine (i_readTrans _ _).mono ?_
    rw [h2]
    rintro e w2 ⟨rfl, hb2⟩
    go_wp2_with (refine wpList_store_new rfl 77 _ _ rfl (row 16 (trF u)) rfl rfl (by rw [row_size]; kernel_rfl) (by first | rfl | (rw [row_size, row_size]) | (simp [row_size]; done)) (row_one _ _) ?_)
    go_ret2
    exact ⟨rfl, bel_on' (bel_on' (bel_on' hb1 (bel_1 _ _)) hb2) (bel_1 _ _)⟩
theorem fn_alone (w : World) (A : Nat) (fv : Value) (T U G : Nat → Nat) (hf : TrIs Try.prog fv w T G) (h0 : RowAt w A 80 #[fv]) : Tr2Is Try.prog (.func (.func 183) #[] #[.pointer (some ⟨A, 0, none⟩)]) w T U G :=
  ⟨183, _, rfl, enters_of Try.func183 (by kernel_rfl) rfl, fun W hb => by
    obtain ⟨g, lb, rfl, hent, hcall⟩ := hf
    have HC := Lib.hid hcall; clear hcall
    have r0 := (((h0.later hb).alloc (.cells (row 16 T) 77)).alloc (.cells (row 16 U) 77)).alloc (.cells (row 16 (fun _ => 0)) 77)
    have c0 : ∀ ob, (((W.alloc (.cells (row 16 T) 77)).alloc (.cells (row 16 U) 77)).alloc ob).cell? ⟨A, 0, none⟩ = some (.func (.func g) #[] lb) := fun ob => ((((h0.later hb).alloc (.cells (row 16 T) 77)).alloc (.cells (row 16 U) 77)).alloc ob).get 0
    have r1 := ((RowAt.fresh W 77 (row 16 T)).alloc (.cells (row 16 U) 77)).alloc (.cells (row 16 (fun _ => 0)) 77)
    have r3 := RowAt.fresh2 W (.cells (row 16 T) 77) (.cells (row 16 U) 77) 77 (row 16 (fun _ => 0))
    have hb3 := bel_3 W (.cells (row 16 T) 77) (.cells (row 16 U) 77) (.cells (row 16 (fun _ => 0)) 77)
    have hbb := bel_on' hb hb3
    show Calls Try.prog 183 #[.agg (row 16 T), .agg (row 16 U), .pointer (some ⟨A, 0, none⟩)] W _
    clear h0 hb
    go_enter Try.func183, Try.ntmps183
    go_wp2_with (refine wpList_load_row rfl 77 _ rfl (W.heap.size) rfl 77 (row 16 T) (0, 0) _ r1 Try.underlying77 rfl (by rw [row_size]; kernel_rfl) ?_)
    refine (HC.out _ hbb).mono ?_
    rintro e w1 ⟨rfl, hb⟩
    have hr := r3.later hb
    go_wp2_with (refine wpList_store_row rfl 77 _ _ rfl (W.heap.size + 2) (row 16 G) rfl rfl 77 _ hr (by rw [row_size]; kernel_rfl) (by first | rfl | (rw [row_size, row_size]) | (simp [row_size]; done)) (row_one _ _) ?_)
    refine bodyPost_ret (results_cell_row rfl _ _ (W.heap.size + 2) 77 _ (0, 0) _ rfl (hr.put _) Try.underlying77 rfl (by rw [row_size]; kernel_rfl)) rfl ⟨rfl, ?_⟩
    exact bel_setRow (bel_on hb3 hb (by simp; omega)) (by omega) _⟩
theorem i_alone (t : ByteArray) (fv : Value) (G : Nat → Nat) (w : World) (hG : ∀ i, i < 16 → G i < 16) (hv : ∃ g lb, fv = .func (.func g) #[] lb) (hf : ∀ W, trOk t = true → Below w.heap.size w W → TrIs Try.prog fv W (dig t) G) : Calls Try.prog 104 #[.string t, fv] w fun e w' => e = .returned (.tuple #[.string (optS (trOk t) (txt 16 G)), .bool (trOk t)]) ∧ Below w.heap.size w w' := by
  have r0 := RowAt.fresh w 80 #[fv]
  have h := i_both t t (.func (.func 183) #[] #[.pointer (some ⟨w.heap.size, 0, none⟩)]) G (w.alloc (.cells #[fv] 80)) hG (fun h1 _ => fn_alone _ _ fv _ _ G (hf _ h1 (bel_1 w _)) r0)
  rw [Bool.and_self] at h
  have H := Lib.hid h; clear h hf hG
  obtain ⟨g, lb, rfl⟩ := hv
  go_enter Try.func104, Try.ntmps104
  go_wp2_with fail
  refine H.out.mono ?_
  rintro e w1 ⟨rfl, hb⟩
  go_wp2_with fail
  go_ret2
  exact ⟨rfl, bel_on (bel_1 w _) hb (by simp)⟩
end Go.Proofs.Ytiaeakpgldpaiaa
