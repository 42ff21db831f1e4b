/- The program's transformers of contracts: choices, assumptions, and the closures of a statement. -/
import Derived.Test.YtiaeakpgldpaiaaQJ5
namespace Go.Proofs.Ytiaeakpgldpaiaa
set_option linter.unusedSimpArgs false
set_option linter.unusedVariables false
set_option maxRecDepth 4000
open Go.RowKit

theorem fn_assume (w : World) (B : Nat) (p : Nat) (hp : p < 16) (h : RowAt w B 3 #[.int .i64 (p : Int)]) : FnIs Try.prog (.func (.func 241) #[] #[.pointer (some ⟨B, 0, none⟩)]) w (fun q => q ||| andn 15 p) 16 :=
  ⟨241, _, rfl, enters_of Try.func241 (by kernel_rfl) rfl, fun W q hb hq => by
    have c : W.cell? ⟨B, 0, none⟩ = some (.int .i64 (p : Int)) := (h.later hb).get 0
    have e0 : bits .andNot .i64 15 (p : Int) = ((andn 15 p : Nat) : Int) := bits_andn_nat 15 p (by omega) hp
    have e1 := bits_or_nat q (andn 15 p) (by omega) (by have := andn_lt (a := 15) (b := p) (by omega); omega)
    show Calls Try.prog 241 #[.int .i64 (q : Int), .pointer (some ⟨B, 0, none⟩)] W _
    go_enter Try.func241, Try.ntmps241
    go_wp2
    (try go_quiet (fail))
    (try go_wp2)
    go_ret
    exact ⟨rfl, by first | exact Below.refl _ _ | exact bel_drewN (Below.refl _ _) _⟩⟩
theorem i_assume (p : Nat) (w : World) (hp : p < 16) : Calls Try.prog 190 #[.int .i64 (p : Int)] w fun e w' => e = .returned (.agg (row 16 (fun q => q ||| andn 15 p))) ∧ Below w.heap.size w w' := by
  have h1 := (RowAt.fresh w 3 #[.int .i64 (p : Int)]).alloc (.cells (row 16 (fun _ => 0)) 77)
  have h2 := RowAt.fresh1 w (.cells #[.int .i64 (p : Int)] 3) 77 (row 16 (fun _ => 0))
  go_enter Try.func190, Try.ntmps190
  go_wp2_with fail
  refine (i_makeTrans _ (fun q => q ||| andn 15 p) _ (fn_assume _ _ p hp h1)).mono ?_
  rintro e w1 ⟨rfl, hb⟩
  have hr := h2.later hb
  go_wp2_with (refine wpList_store_row rfl 77 _ _ rfl (w.heap.size + 1) (row 16 (fun q => q ||| andn 15 p)) rfl rfl 77 _ hr (by rw [row_size]; kernel_rfl) (by rw [row_size, row_size]) (row_one _ _) ?_)
  refine bodyPost_ret (results_cell_row rfl _ _ (w.heap.size + 1) 77 _ (0, 0) _ rfl (hr.put _) Try.underlying77 rfl (by rw [row_size]; kernel_rfl)) rfl ⟨rfl, ?_⟩
  exact bel_setRow (bel_on (bel_2 w _ _) hb (by simp; omega)) (by omega) _
theorem fn_meet (w : World) (B C : Nat) (T U : Nat → Nat) (hT : Bd T) (hU : Bd U) (h1 : RowAt w B 77 (row 16 T)) (h2 : RowAt w C 77 (row 16 U)) : FnIs Try.prog (.func (.func 242) #[] #[.pointer (some ⟨B, 0, none⟩), .pointer (some ⟨C, 0, none⟩)]) w (fun p => T p &&& U p) 16 :=
  ⟨242, _, rfl, enters_of Try.func242 (by kernel_rfl) rfl, fun W p hb hp => by
    have c2 := (h2.later hb).cell p hp
    have c1 := (h1.later hb).cell p hp
    have e1 := bits_and_nat (T p) (U p) (by have := hT p hp; omega) (by have := hU p hp; omega)
    have i1 := lt_cast hp
    show Calls Try.prog 242 #[.int .i64 (p : Int), .pointer (some ⟨B, 0, none⟩), .pointer (some ⟨C, 0, none⟩)] W _
    clear hU hT h1 h2 hb
    go_enter Try.func242, Try.ntmps242
    go_wp2
    go_quiet (fail)
    go_wp2
    go_ret
    exact ⟨rfl, bel_drewN (Below.refl _ _) _⟩⟩
theorem i_meet (T U : Nat → Nat) (w : World) (hT : Bd T) (hU : Bd U) : Calls Try.prog 199 #[.agg (row 16 T), .agg (row 16 U)] w fun e w' => e = .returned (.agg (row 16 (fun p => T p &&& U p))) ∧ Below w.heap.size w w' := by
  have h1 := ((RowAt.fresh w 77 (row 16 T)).alloc (.cells (row 16 U) 77)).alloc (.cells (row 16 (fun _ => 0)) 77)
  have h2 := (RowAt.fresh1 w (.cells (row 16 T) 77) 77 (row 16 U)).alloc (.cells (row 16 (fun _ => 0)) 77)
  have h3 := RowAt.fresh2 w (.cells (row 16 T) 77) (.cells (row 16 U) 77) 77 (row 16 (fun _ => 0))
  go_enter Try.func199, Try.ntmps199
  go_wp2_with fail
  refine (i_makeTrans _ (fun p => T p &&& U p) _ (fn_meet _ _ _ T U hT hU h1 h2)).mono ?_
  rintro e w1 ⟨rfl, hb⟩
  have hr := h3.later hb
  go_wp2_with (refine wpList_store_row rfl 77 _ _ rfl (w.heap.size + 2) (row 16 (fun p => T p &&& U p)) rfl rfl 77 _ hr (by rw [row_size]; kernel_rfl) (by rw [row_size, row_size]) (row_one _ _) ?_)
  refine bodyPost_ret (results_cell_row rfl _ _ (w.heap.size + 2) 77 _ (0, 0) _ rfl (hr.put _) Try.underlying77 rfl (by rw [row_size]; kernel_rfl)) rfl ⟨rfl, ?_⟩
  exact bel_setRow (bel_on (bel_3 w _ _ _) hb (by simp; omega)) (by omega) _
theorem fn_join (w : World) (B C : Nat) (T U : Nat → Nat) (hT : Bd T) (hU : Bd U) (h1 : RowAt w B 77 (row 16 T)) (h2 : RowAt w C 77 (row 16 U)) : FnIs Try.prog (.func (.func 237) #[] #[.pointer (some ⟨B, 0, none⟩), .pointer (some ⟨C, 0, none⟩)]) w (fun p => T p ||| U p) 16 :=
  ⟨237, _, rfl, enters_of Try.func237 (by kernel_rfl) rfl, fun W p hb hp => by
    have c2 := (h2.later hb).cell p hp
    have c1 := (h1.later hb).cell p hp
    have e1 := bits_or_nat (T p) (U p) (by have := hT p hp; omega) (by have := hU p hp; omega)
    have i1 := lt_cast hp
    show Calls Try.prog 237 #[.int .i64 (p : Int), .pointer (some ⟨B, 0, none⟩), .pointer (some ⟨C, 0, none⟩)] W _
    clear hU hT h1 h2 hb
    go_enter Try.func237, Try.ntmps237
    go_wp2
    go_quiet (fail)
    go_wp2
    go_ret
    exact ⟨rfl, bel_drewN (Below.refl _ _) _⟩⟩
theorem i_join (T U : Nat → Nat) (w : World) (hT : Bd T) (hU : Bd U) : Calls Try.prog 185 #[.agg (row 16 T), .agg (row 16 U)] w fun e w' => e = .returned (.agg (row 16 (fun p => T p ||| U p))) ∧ Below w.heap.size w w' := by
  have h1 := ((RowAt.fresh w 77 (row 16 T)).alloc (.cells (row 16 U) 77)).alloc (.cells (row 16 (fun _ => 0)) 77)
  have h2 := (RowAt.fresh1 w (.cells (row 16 T) 77) 77 (row 16 U)).alloc (.cells (row 16 (fun _ => 0)) 77)
  have h3 := RowAt.fresh2 w (.cells (row 16 T) 77) (.cells (row 16 U) 77) 77 (row 16 (fun _ => 0))
  go_enter Try.func185, Try.ntmps185
  go_wp2_with fail
  refine (i_makeTrans _ (fun p => T p ||| U p) _ (fn_join _ _ _ T U hT hU h1 h2)).mono ?_
  rintro e w1 ⟨rfl, hb⟩
  have hr := h3.later hb
  go_wp2_with (refine wpList_store_row rfl 77 _ _ rfl (w.heap.size + 2) (row 16 (fun p => T p ||| U p)) rfl rfl 77 _ hr (by rw [row_size]; kernel_rfl) (by rw [row_size, row_size]) (row_one _ _) ?_)
  refine bodyPost_ret (results_cell_row rfl _ _ (w.heap.size + 2) 77 _ (0, 0) _ rfl (hr.put _) Try.underlying77 rfl (by rw [row_size]; kernel_rfl)) rfl ⟨rfl, ?_⟩
  exact bel_setRow (bel_on (bel_3 w _ _ _) hb (by simp; omega)) (by omega) _
theorem fn_ct11 (w : World) (A N B C : Nat) (op : UInt8) (p : Nat) (R : Nat → Nat) (v : Value) (tx : ByteArray) (T : Nat → Nat) (q : Nat) (hT : Bd T) (hp : p < 16) (hq : q < 16) (h0 : RowAt w A 85 #[.pointer (some ⟨N, 0, none⟩)]) (hn : RowAt w N 122 (node op p R v tx)) (h1 : RowAt w B 77 (row 16 T)) (h2 : RowAt w C 3 #[.int .i64 (q : Int)]) : FnIs Try.prog (.func (.func 194) #[] #[.pointer (some ⟨A, 0, none⟩), .pointer (some ⟨B, 0, none⟩), .pointer (some ⟨C, 0, none⟩)]) w (eqW p T q) 16 :=
  ⟨194, _, rfl, enters_of Try.func194 (by kernel_rfl) rfl, fun W y hb hy => by
    have c0 : W.cell? ⟨A, 0, none⟩ = some (.pointer (some ⟨N, 0, none⟩)) := (h0.later hb).get 0
    have cn : W.cell? ⟨N, 1, none⟩ = some (.int .i64 (p : Int)) := (hn.later hb).get 1
    have c1 := (h1.later hb).cell y hy
    have c2 : W.cell? ⟨C, 0, none⟩ = some (.int .i64 (q : Int)) := (h2.later hb).get 0
    have e1 := bits_and_nat p (T y) (by omega) (by have := hT y hy; omega)
    have e2 := bits_andn_nat q p hq hp
    have e3 := bits_or_nat (p &&& T y) (andn q p) (by have := and_lt (b := T y) hp; omega) (by have := andn_lt (b := p) hq; omega)
    have i1 := lt_cast hy
    show Calls Try.prog 194 #[.int .i64 (y : Int), .pointer (some ⟨A, 0, none⟩), .pointer (some ⟨B, 0, none⟩), .pointer (some ⟨C, 0, none⟩)] W _
    clear h0 hn h1 h2 hT hb
    go_enter Try.func194, Try.ntmps194
    go_wp2
    go_quiet (fail)
    go_wp2
    go_ret
    exact ⟨rfl, bel_drewN (Below.refl _ _) _⟩⟩
theorem fn_ct1 (w : World) (A N B : Nat) (op : UInt8) (p : Nat) (R : Nat → Nat) (v : Value) (tx : ByteArray) (T : Nat → Nat) (hT : Bd T) (hm : Mono T) (hp : p < 16) (h0 : RowAt w A 85 #[.pointer (some ⟨N, 0, none⟩)]) (hn : RowAt w N 122 (node op p R v tx)) (h1 : RowAt w B 77 (row 16 T)) : FnIs Try.prog (.func (.func 193) #[] #[.pointer (some ⟨A, 0, none⟩), .pointer (some ⟨B, 0, none⟩)]) w (fun q => lfp (eqW p T q)) 16 :=
  ⟨193, _, rfl, enters_of Try.func193 (by kernel_rfl) rfl, fun W q hb hq => by
    have r0 := (h0.later hb).alloc (.cells #[.int .i64 (q : Int)] 3)
    have rn := (hn.later hb).alloc (.cells #[.int .i64 (q : Int)] 3)
    have r1 := (h1.later hb).alloc (.cells #[.int .i64 (q : Int)] 3)
    have r3 := RowAt.fresh W 3 #[.int .i64 (q : Int)]
    have HF := Lib.hid (i_leastPoint _ _ _ (fn_ct11 _ A N B W.heap.size op p R v tx T q hT hp hq r0 rn r1 r3) (eqW_bd hp hq) (eqW_mono hm p q))
    show Calls Try.prog 193 #[.int .i64 (q : Int), .pointer (some ⟨A, 0, none⟩), .pointer (some ⟨B, 0, none⟩)] W _
    clear h0 h1 hn hT hb r0 rn r1 r3
    go_enter Try.func193, Try.ntmps193
    go_wp2_with fail
    refine HF.out.mono ?_
    rintro e w1 ⟨rfl, hb1⟩
    go_wp2_with fail
    go_ret
    exact ⟨rfl, bel_on (bel_1 _ _) hb1 (by simp)⟩⟩
theorem fn_ct21 (w : World) (B C : Nat) (T : Nat → Nat) (q : Nat) (hT : Bd T) (hq : q < 16) (h1 : RowAt w B 77 (row 16 T)) (h2 : RowAt w C 3 #[.int .i64 (q : Int)]) : FnIs Try.prog (.func (.func 196) #[] #[.pointer (some ⟨B, 0, none⟩), .pointer (some ⟨C, 0, none⟩)]) w (eqA T q) 16 :=
  ⟨196, _, rfl, enters_of Try.func196 (by kernel_rfl) rfl, fun W y hb hy => by
    have c1 := (h1.later hb).cell y hy
    have c2 : W.cell? ⟨C, 0, none⟩ = some (.int .i64 (q : Int)) := (h2.later hb).get 0
    have e1 := bits_and_nat (T y) q (by have := hT y hy; omega) (by omega)
    have i1 := lt_cast hy
    show Calls Try.prog 196 #[.int .i64 (y : Int), .pointer (some ⟨B, 0, none⟩), .pointer (some ⟨C, 0, none⟩)] W _
    clear h1 h2 hT hb
    go_enter Try.func196, Try.ntmps196
    go_wp2
    go_quiet (fail)
    go_wp2
    go_ret
    exact ⟨rfl, bel_drewN (Below.refl _ _) _⟩⟩
theorem fn_ct2 (w : World) (B : Nat) (T : Nat → Nat) (hT : Bd T) (hm : Mono T) (h1 : RowAt w B 77 (row 16 T)) : FnIs Try.prog (.func (.func 195) #[] #[.pointer (some ⟨B, 0, none⟩)]) w (fun q => lfp (eqA T q)) 16 :=
  ⟨195, _, rfl, enters_of Try.func195 (by kernel_rfl) rfl, fun W q hb hq => by
    have r1 := (h1.later hb).alloc (.cells #[.int .i64 (q : Int)] 3)
    have r3 := RowAt.fresh W 3 #[.int .i64 (q : Int)]
    have HF := Lib.hid (i_leastPoint _ _ _ (fn_ct21 _ B W.heap.size T q hT hq r1 r3) (eqA_bd hq) (eqA_mono hm q))
    show Calls Try.prog 195 #[.int .i64 (q : Int), .pointer (some ⟨B, 0, none⟩)] W _
    clear h1 hT hb r1 r3
    go_enter Try.func195, Try.ntmps195
    go_wp2_with fail
    refine HF.out.mono ?_
    rintro e w1 ⟨rfl, hb1⟩
    go_wp2_with fail
    go_ret
    exact ⟨rfl, bel_on (bel_1 _ _) hb1 (by simp)⟩⟩
theorem fn_ct31 (w : World) (B C : Nat) (T : Nat → Nat) (q : Nat) (hT : Bd T) (hq : q < 16) (h1 : RowAt w B 77 (row 16 T)) (h2 : RowAt w C 3 #[.int .i64 (q : Int)]) : FnIs Try.prog (.func (.func 198) #[] #[.pointer (some ⟨B, 0, none⟩), .pointer (some ⟨C, 0, none⟩)]) w (eqO T q) 16 :=
  ⟨198, _, rfl, enters_of Try.func198 (by kernel_rfl) rfl, fun W y hb hy => by
    have c1 := (h1.later hb).cell y hy
    have c2 : W.cell? ⟨C, 0, none⟩ = some (.int .i64 (q : Int)) := (h2.later hb).get 0
    have e1 := bits_or_nat (T y) q (by have := hT y hy; omega) (by omega)
    have i1 := lt_cast hy
    show Calls Try.prog 198 #[.int .i64 (y : Int), .pointer (some ⟨B, 0, none⟩), .pointer (some ⟨C, 0, none⟩)] W _
    clear h1 h2 hT hb
    go_enter Try.func198, Try.ntmps198
    go_wp2
    go_quiet (fail)
    go_wp2
    go_ret
    exact ⟨rfl, bel_drewN (Below.refl _ _) _⟩⟩
theorem fn_ct3 (w : World) (B : Nat) (T : Nat → Nat) (hT : Bd T) (hm : Mono T) (h1 : RowAt w B 77 (row 16 T)) : FnIs Try.prog (.func (.func 197) #[] #[.pointer (some ⟨B, 0, none⟩)]) w (fun q => lfp (eqO T q)) 16 :=
  ⟨197, _, rfl, enters_of Try.func197 (by kernel_rfl) rfl, fun W q hb hq => by
    have r1 := (h1.later hb).alloc (.cells #[.int .i64 (q : Int)] 3)
    have r3 := RowAt.fresh W 3 #[.int .i64 (q : Int)]
    have HF := Lib.hid (i_leastPoint _ _ _ (fn_ct31 _ B W.heap.size T q hT hq r1 r3) (eqO_bd hT hq) (eqO_mono hm q))
    show Calls Try.prog 197 #[.int .i64 (q : Int), .pointer (some ⟨B, 0, none⟩)] W _
    clear h1 hT hb r1 r3
    go_enter Try.func197, Try.ntmps197
    go_wp2_with fail
    refine HF.out.mono ?_
    rintro e w1 ⟨rfl, hb1⟩
    go_wp2_with fail
    go_ret
    exact ⟨rfl, bel_on (bel_1 _ _) hb1 (by simp)⟩⟩
theorem fn_ct4 (w : World) (A N B C : Nat) (op : UInt8) (p : Nat) (R : Nat → Nat) (v : Value) (tx : ByteArray) (T U : Nat → Nat) (hT : Bd T) (hU : Bd U) (hp : p < 16) (h0 : RowAt w A 85 #[.pointer (some ⟨N, 0, none⟩)]) (hn : RowAt w N 122 (node op p R v tx)) (h1 : RowAt w B 77 (row 16 T)) (h2 : RowAt w C 77 (row 16 U)) : FnIs Try.prog (.func (.func 200) #[] #[.pointer (some ⟨A, 0, none⟩), .pointer (some ⟨B, 0, none⟩), .pointer (some ⟨C, 0, none⟩)]) w (fun q => turn p (T q) (U q)) 16 :=
  ⟨200, _, rfl, enters_of Try.func200 (by kernel_rfl) rfl, fun W y hb hy => by
    have c0 : W.cell? ⟨A, 0, none⟩ = some (.pointer (some ⟨N, 0, none⟩)) := (h0.later hb).get 0
    have cn : W.cell? ⟨N, 1, none⟩ = some (.int .i64 (p : Int)) := (hn.later hb).get 1
    have c1 := (h1.later hb).cell y hy
    have c2 := (h2.later hb).cell y hy
    have hq := hU y hy
    have e1 := bits_and_nat p (T y) (by omega) (by have := hT y hy; omega)
    have e2 := bits_andn_nat (U y) p hq hp
    have e3 := bits_or_nat (p &&& T y) (andn (U y) p) (by have := and_lt (b := T y) hp; omega) (by have := andn_lt (b := p) hq; omega)
    have i1 := lt_cast hy
    show Calls Try.prog 200 #[.int .i64 (y : Int), .pointer (some ⟨A, 0, none⟩), .pointer (some ⟨B, 0, none⟩), .pointer (some ⟨C, 0, none⟩)] W _
    clear h0 hn h1 h2 hT hU hb
    go_enter Try.func200, Try.ntmps200
    go_wp2
    go_quiet (fail)
    go_wp2
    go_ret
    exact ⟨rfl, bel_drewN (Below.refl _ _) _⟩⟩
end Go.Proofs.Ytiaeakpgldpaiaa
