/- The drawers of arguments that are contracts. -/
import Derived.Test.YtiaeakpgldpaiaaQDrawH
import Derived.Test.YtiaeakpgldpaiaaQSpecO
import Derived.Test.YtiaeakpgldpaiaaQSpecD
namespace Go.Proofs.Ytiaeakpgldpaiaa
set_option linter.unusedSimpArgs false
set_option linter.unusedVariables false
set_option maxRecDepth 4000
open Go.RowKit

theorem s_l5Some (g P : Nat) (w : World) (hp : P + 182 ≤ 100000) (h : RdIn w g P) : Calls Try.prog 188 #[.pointer (some ⟨g, 0, none⟩)] w (TxtPost w g (P + 182) (CtS 54)) := by
  have HG0 := Lib.hid (World.grownBy.refl w (some g))
  go_enter Try.func188, Try.ntmps188
  go_wp2_with fail
  refine (s_pickIn g P 3 _ _ rfl (by omega) (by omega) (by omega) h).mono ?_
  rintro e w1 ⟨n1, hn1, rfl, h1, hg1⟩
  have H1 := Lib.hid h1; have HG1 := Lib.hid (grown_trans HG0.out hg1); clear h1 hg1
  have hl := lenD_le (d := n1 + 1) (by omega)
  have hn := numD_le (d := n1 + 1) (by omega)
  go_wp2_with fail
  refine (s_pickIn g (P + 1) 2 _ _ rfl (by omega) (by omega) (by omega) H1.out).mono ?_
  rintro e w2 ⟨n2, hn2, rfl, h2, hg2⟩
  have H2 := Lib.hid h2; have HG2 := Lib.hid (grown_trans HG1.out hg2); clear h2 hg2
  go_wp2_with fail
  refine (s_l5Draw (n1 + 1) (by omega) g (P + 1 + 1) _ _ _ (by omega) (by omega) H2.out).mono ?_
  rintro e w3 ⟨s, hs, rfl, h3, hg3⟩
  have HS := Lib.hid hs; have H3 := Lib.hid h3; have HG3 := Lib.hid (grown_trans HG2.out hg3); clear hs h3 hg3
  go_wp2_with fail
  go_ret
  exact ⟨s, ⟨HS.out.1, Nat.le_trans HS.out.2 hl⟩, rfl, H3.out.mono (by omega), HG3.out⟩
set_option maxHeartbeats 2000000 in
theorem s_l5Bad (g P : Nat) (t : ByteArray) (w : World) (hp : P + 3 ≤ 100000) (ht : CtS 54 t) (h : RdIn w g P) : Calls Try.prog 187 #[.pointer (some ⟨g, 0, none⟩), .string t] w (TxtPost w g (P + 3) Small) := by
  obtain ⟨ht1, ht2⟩ := ht
  go_enter Try.func187, Try.ntmps187
  go_wp2_with fail
  refine (s_pickIn g P 30 _ _ rfl (by omega) (by omega) (by omega) h).mono ?_
  rintro e w1 ⟨c, hc, rfl, h1, hg⟩
  have HG := Lib.hid hg; have H1 := Lib.hid h1; clear hg h1
  have hcs : c = 0 ∨ c = 1 ∨ c = 2 ∨ 3 ≤ c := by omega
  rcases hcs with h0 | h0 | h0 | h0
  · have b0 : ((c : Int) == 0) = true := by rw [h0]; rfl
    clear h0
    have hlt := H1.out.lt
    have hr := RowAt.fresh w1 9 (([⟨#[115]⟩, ⟨#[48]⟩, ⟨#[32]⟩] : List ByteArray).map Value.string).toArray
    have H4 := Lib.hid (H1.out.alloc (.cells (([⟨#[115]⟩, ⟨#[48]⟩, ⟨#[32]⟩] : List ByteArray).map Value.string).toArray 9)); have HR := Lib.hid hr
    clear hr
    go_wp2_with fail
    refine (s_of g (P + 1) w1.heap.size [⟨#[115]⟩, ⟨#[48]⟩, ⟨#[32]⟩] _ (by decide) (by decide) (by omega) H4.out (by omega) HR.out).mono ?_
    rintro e w5 ⟨v, ⟨s, hs, rfl⟩, rfl, h5, hg5⟩
    have hs1 : s.size = 1 := by
      simp only [List.mem_cons, List.not_mem_nil, or_false] at hs
      rcases hs with rfl | rfl | rfl <;> rfl
    have H5 := Lib.hid h5; have HG5 := Lib.hid (grown_trans (grown_alloc HG.out _) hg5); clear h5 hg5 hs
    go_wp2_with fail
    go_ret
    exact ⟨_, by unfold Small; rw [ByteArray.size_append]; omega, rfl, H5.out.mono (by omega), HG5.out⟩
  · have b0 : ((c : Int) == 0) = false := by rw [h0]; rfl
    have b1 : ((c : Int) == 1) = true := by rw [h0]; rfl
    clear h0
    have e0 : IntKind.i64.wrap ((t.size : Int) - 1) = ((t.size - 1 : Nat) : Int) := (IntWalk.i64_in _ ⟨by omega, by omega⟩).trans (by omega)
    go_wp2_with fail
    go_ret
    exact ⟨_, by unfold Small; rw [ByteArray.size_extract]; omega, rfl, H1.out.mono (by omega), HG.out⟩
  · have b0 : ((c : Int) == 0) = false := by rw [h0]; rfl
    have b1 : ((c : Int) == 1) = false := by rw [h0]; rfl
    have b2 : ((c : Int) == 2) = true := by rw [h0]; rfl
    clear h0
    go_wp2_with fail
    refine (s_pickIn g (P + 1) t.size _ _ rfl (by omega) (by omega) (by omega) H1.out).mono ?_
    rintro e w2 ⟨k, hk, rfl, h2, hg2⟩
    have H2 := Lib.hid h2; have HG2 := Lib.hid (grown_trans HG.out hg2); clear h2 hg2
    go_wp2_with fail
    have hw : IntKind.i64.wrap ((k : Int) + 1) = (k : Int) + 1 := IntWalk.i64_in _ ⟨by omega, by omega⟩
    refine wp_region_held_drew (S := fun w3 => True) (by kernel_rfl) (trivial) (fun hS => ?_)
    simp only [List.size_toArray, List.length_cons, List.length_nil, Nat.zero_add, Nat.reduceAdd, Array.replicate_succ, Array.replicate_zero, List.push_toArray, List.append_toArray, List.nil_append, List.cons_append]
    refine wpAnyH_take (i := 0) (v := .string t) rfl (by kernel_rfl) (by kernel_rfl) (by kernel_rfl) (fun _ _ _ h => h) (Or.inl ⟨by rfl, fun w2 h2 => by (first | rfl | go_simp)⟩) (by assumption) ?_
    simp only [Act.put, List.getElem_toArray, List.getElem_cons_zero, List.getElem_cons_succ, List.setIfInBounds_toArray, List.set_cons_zero, List.set_cons_succ]
    refine wpAnyH_take (i := 1) (v := .int .i64 (k : Int)) rfl (by kernel_rfl) (by kernel_rfl) (by kernel_rfl) (fun _ _ _ h => h) (Or.inl ⟨by rfl, fun w2 h2 => by (first | rfl | go_simp)⟩) (by assumption) ?_
    simp only [Act.put, List.getElem_toArray, List.getElem_cons_zero, List.getElem_cons_succ, List.setIfInBounds_toArray, List.set_cons_zero, List.set_cons_succ]
    refine wpAnyH_take (i := 3) (v := .pointer (some ⟨g, 0, none⟩)) rfl (by kernel_rfl) (by kernel_rfl) (by kernel_rfl) (fun _ _ _ h => h) (Or.inl ⟨by rfl, fun w2 h2 => by (first | rfl | go_simp)⟩) (by assumption) ?_
    simp only [Act.put, List.getElem_toArray, List.getElem_cons_zero, List.getElem_cons_succ, List.setIfInBounds_toArray, List.set_cons_zero, List.set_cons_succ]
    refine wpAnyH_take (i := 7) (v := .string t) rfl (by kernel_rfl) (by kernel_rfl) (by kernel_rfl) (fun _ _ _ h => h) (Or.inl ⟨by rfl, fun w2 h2 => by (first | rfl | go_simp)⟩) (by assumption) ?_
    simp only [Act.put, List.getElem_toArray, List.getElem_cons_zero, List.getElem_cons_succ, List.setIfInBounds_toArray, List.set_cons_zero, List.set_cons_succ]
    refine wpAnyH_take (i := 8) (v := .int .i64 (k : Int)) rfl (by kernel_rfl) (by kernel_rfl) (by kernel_rfl) (fun _ _ _ h => h) (Or.inl ⟨by rfl, fun w2 h2 => by (first | rfl | go_simp)⟩) (by assumption) ?_
    simp only [Act.put, List.getElem_toArray, List.getElem_cons_zero, List.getElem_cons_succ, List.setIfInBounds_toArray, List.set_cons_zero, List.set_cons_succ]
    refine wpAnyH_take (i := 9) (v := .int .i64 ((k : Int) + 1)) rfl (by kernel_rfl) (by kernel_rfl) (by kernel_rfl) (fun _ _ _ h => h) (Or.inl ⟨by rfl, fun w2 h2 => by (first | rfl | go_simp)⟩) (by assumption) ?_
    simp only [Act.put, List.getElem_toArray, List.getElem_cons_zero, List.getElem_cons_succ, List.setIfInBounds_toArray, List.set_cons_zero, List.set_cons_succ]
    refine wpAnyH_take (i := 2) (v := .string (t.extract 0 k)) rfl (by kernel_rfl) (by kernel_rfl) (by kernel_rfl) (fun _ _ _ h => h) (Or.inl ⟨by rfl, fun w2 h2 => by (go_simp; intro hc; omega)⟩) (by assumption) ?_
    simp only [Act.put, List.getElem_toArray, List.getElem_cons_zero, List.getElem_cons_succ, List.setIfInBounds_toArray, List.set_cons_zero, List.set_cons_succ]
    refine wpAnyH_take (i := 10) (v := .string (t.extract (k + 1) t.size)) rfl (by kernel_rfl) (by kernel_rfl) (by kernel_rfl) (fun _ _ _ h => h) (Or.inl ⟨by rfl, fun w2 h2 => by (go_simp; intro hc; omega)⟩) (by assumption) ?_
    simp only [Act.put, List.getElem_toArray, List.getElem_cons_zero, List.getElem_cons_succ, List.setIfInBounds_toArray, List.set_cons_zero, List.set_cons_succ]
    refine wpAnyH_ready (rs := [4]) (by kernel_rfl) (by simp) ?_
    refine AllReadyH.cons rfl (fun K hK => ?_) AllReadyH.nil
    rw [if_pos (by rfl)]
    go_simp
    refine hK _ _ trivial (fun _ => ?_)
    simp only [Act.put, List.getElem_toArray, List.getElem_cons_zero, List.getElem_cons_succ, List.setIfInBounds_toArray, List.set_cons_zero, List.set_cons_succ]
    have hr : RowAt (w2.alloc (.cells (([⟨#[122]⟩, ⟨#[48]⟩, ⟨#[59]⟩, ⟨#[65]⟩] : List ByteArray).map Value.string).toArray 9)).drew w2.heap.size 9 (([⟨#[122]⟩, ⟨#[48]⟩, ⟨#[59]⟩, ⟨#[65]⟩] : List ByteArray).map Value.string).toArray := (RowAt.fresh w2 _ _).drew
    have hgl := H2.out.lt
    have H3 := Lib.hid ((H2.out.alloc (.cells (([⟨#[122]⟩, ⟨#[48]⟩, ⟨#[59]⟩, ⟨#[65]⟩] : List ByteArray).map Value.string).toArray 9)).later (Below.refl _ _).drew)
    have HR := Lib.hid hr; clear hr
    refine wpAnyH_ready (rs := [5]) (by kernel_rfl) (by simp) ?_
    refine AllReadyH.cons rfl (fun K hK => ?_) AllReadyH.nil
    rw [if_pos (by rfl)]
    go_simp
    refine (s_of g (P + 1 + 1) w2.heap.size [⟨#[122]⟩, ⟨#[48]⟩, ⟨#[59]⟩, ⟨#[65]⟩] _ (by decide) (by decide) (by omega) H3.out (by omega) HR.out).mono ?_
    rintro e w3 ⟨v, ⟨s, hs, rfl⟩, rfl, h3, hg3⟩
    have hs1 : s.size ≤ 1 := by
      simp only [List.mem_cons, List.not_mem_nil, or_false] at hs
      rcases hs with rfl | rfl | rfl | rfl <;> decide
    have H4 := Lib.hid h3; have HG3 := Lib.hid hg3; clear h3 hg3 hs
    have z1 : (t.extract 0 k).size ≤ 54 := by rw [ByteArray.size_extract]; omega
    have z2 : (t.extract (k + 1) t.size).size ≤ 54 := by rw [ByteArray.size_extract]; omega
    have z3 : (t.extract 0 k ++ s).size ≤ 55 := by rw [ByteArray.size_append]; omega
    have z4 : (t.extract 0 k ++ s ++ t.extract (k + 1) t.size).size ≤ 109 := by rw [ByteArray.size_append]; omega
    refine hK _ _ trivial (fun _ => ?_)
    simp only [Act.put, List.getElem_toArray, List.getElem_cons_zero, List.getElem_cons_succ, List.setIfInBounds_toArray, List.set_cons_zero, List.set_cons_succ]
    refine wpAnyH_take (i := 6) (v := .string (t.extract 0 k ++ s)) rfl (by kernel_rfl) (by kernel_rfl) (by kernel_rfl) (fun _ _ _ h => h) (Or.inl ⟨by rfl, fun w2 h2 => by (go_simp; omega)⟩) (by assumption) ?_
    simp only [Act.put, List.getElem_toArray, List.getElem_cons_zero, List.getElem_cons_succ, List.setIfInBounds_toArray, List.set_cons_zero, List.set_cons_succ]
    refine wpAnyH_take (i := 11) (v := .string (t.extract 0 k ++ s ++ t.extract (k + 1) t.size)) rfl (by kernel_rfl) (by kernel_rfl) (by kernel_rfl) (fun _ _ _ h => h) (Or.inl ⟨by rfl, fun w2 h2 => by (go_simp; omega)⟩) (by assumption) ?_
    simp only [Act.put, List.getElem_toArray, List.getElem_cons_zero, List.getElem_cons_succ, List.setIfInBounds_toArray, List.set_cons_zero, List.set_cons_succ]
    refine wpAnyH_take (i := 12) (v := .string (t.extract 0 k ++ s ++ t.extract (k + 1) t.size)) rfl (by kernel_rfl) (by kernel_rfl) (by kernel_rfl) (fun _ _ _ h => h) (Or.inl ⟨by rfl, fun w2 h2 => by (first | rfl | go_simp)⟩) (by assumption) ?_
    simp only [Act.put, List.getElem_toArray, List.getElem_cons_zero, List.getElem_cons_succ, List.setIfInBounds_toArray, List.set_cons_zero, List.set_cons_succ]
    refine wpAnyH_done (by kernel_rfl) ?_ _
    go_wp2_with fail
    go_ret
    exact ⟨_, by unfold Small; omega, rfl, H4.out.mono (by omega), grown_trans (grown_below HG2.out (((Below.refl _ _).alloc (Nat.le_refl _) _).drew)) HG3.out⟩
  · have b0 : ((c : Int) == 0) = false := by rw [beq_eq_false_iff_ne]; omega
    have b1 : ((c : Int) == 1) = false := by rw [beq_eq_false_iff_ne]; omega
    have b2 : ((c : Int) == 2) = false := by rw [beq_eq_false_iff_ne]; omega
    clear h0
    go_wp2_with fail
    go_ret
    exact ⟨_, by unfold Small; omega, rfl, H1.out.mono (by omega), HG.out⟩
theorem s_l5Open (g P : Nat) (w : World) (hp : P + 185 ≤ 100000) (h : RdIn w g P) : Calls Try.prog 110 #[.pointer (some ⟨g, 0, none⟩)] w (TxtPost w g (P + 185) Small) := by
  have HG0 := Lib.hid (World.grownBy.refl w (some g))
  go_enter Try.func110, Try.ntmps110
  go_wp2_with fail
  refine (s_l5Some g P _ (by omega) h).mono ?_
  rintro e w1 ⟨s1, hs1, rfl, h1, hg1⟩
  have HS1 := Lib.hid hs1; have H1 := Lib.hid h1; have HG1 := Lib.hid (grown_trans HG0.out hg1); clear hs1 h1 hg1
  go_wp2_with fail
  refine (s_l5Bad g (P + 182) s1 _ (by omega) HS1.out H1.out).mono ?_
  rintro e w2 ⟨s2, hs2, rfl, h2, hg2⟩
  have HS2 := Lib.hid hs2; have H2 := Lib.hid h2; have HG2 := Lib.hid (grown_trans HG1.out hg2); clear hs2 h2 hg2
  go_wp2_with fail
  go_ret
  exact ⟨s2, HS2.out, rfl, H2.out, HG2.out⟩
theorem s_DrawMiddleCondition (a : Option Addr) (len cap : Nat) (w : World) (hin : ByteIn w a len cap) : Calls Try.prog 89 #[.slice a len cap] w (fun e w' => (∃ c d q, e = .returned (.tuple #[.string c, .string d, .int .i64 q])) ∧ Below w.heap.size w w') := by
  go_enter Try.func89, Try.ntmps89
  go_wp2_with fail
  refine (s_l14Open a len cap _ hin).mono ?_
  rintro e w0 ⟨rfl, h0, hb0⟩
  have H0 := Lib.hid h0; have HB0 := Lib.hid hb0; have HG0 := Lib.hid (World.grownBy.refl w0 (some w.heap.size)); clear h0 hb0 hin
  go_wp2_with fail
  refine (s_l5Open w.heap.size 0 _ (by omega) H0.out).mono ?_
  rintro e w1 ⟨s1, hs1, rfl, h1, hg1⟩
  have HS1 := Lib.hid hs1; have H1 := Lib.hid h1; have HG1 := Lib.hid (grown_trans HG0.out hg1); clear hs1 h1 hg1
  go_wp2_with fail
  refine (s_l5Open w.heap.size (0 + 185) _ (by omega) H1.out).mono ?_
  rintro e w2 ⟨s2, hs2, rfl, h2, hg2⟩
  have HS2 := Lib.hid hs2; have H2 := Lib.hid h2; have HG2 := Lib.hid (grown_trans HG1.out hg2); clear hs2 h2 hg2
  go_wp2_with fail
  refine (s_l1Some w.heap.size (0 + 185 + 185) _ (by omega) H2.out).mono ?_
  rintro e w3 ⟨z3, rfl, h3, hg3⟩
  have H3 := Lib.hid h3; have HG3 := Lib.hid (grown_trans HG2.out hg3); clear h3 hg3
  go_wp2_with fail
  go_ret3
  exact ⟨⟨s1, s2, z3, rfl⟩, drawn_below HB0.out HG3.out (Nat.le_refl _)⟩
set_option maxHeartbeats 1000000 in
theorem s_DrawWeakestSpec (a : Option Addr) (len cap : Nat) (w : World) (hin : ByteIn w a len cap) : Calls Try.prog 20 #[.slice a len cap] w (fun e w' => (∃ c, e = .returned (.string c)) ∧ Below w.heap.size w w') := by
  go_enter Try.func20, Try.ntmps20
  go_wp2_with fail
  refine (s_l14Open a len cap _ hin).mono ?_
  rintro e w0 ⟨rfl, h0, hb0⟩
  have H0 := Lib.hid h0; have HB0 := Lib.hid hb0; have HG0 := Lib.hid (World.grownBy.refl w0 (some w.heap.size)); clear h0 hb0 hin
  go_wp2_with fail
  refine (s_l9Spec w.heap.size 0 _ (by omega) H0.out).mono ?_
  rintro e w1 ⟨z1, s1, hs1, rfl, h1, hg1⟩
  have HS1 := Lib.hid hs1; have H1 := Lib.hid h1; have HG1 := Lib.hid (grown_trans HG0.out hg1); clear hs1 h1 hg1
  go_wp2_with fail
  have x1 : s1.size ≤ 1048576 := Nat.le_trans HS1.out (by omega)
  cases hok : (cvB z1 && relOk s1)
  · have HOK := Lib.hid hok; clear hok
    refine (s_CodeSpec z1 s1 _ x1).mono ?_
    rw [HOK.out]
    rintro e w' ⟨rfl, rfl⟩
    go_wp2_with fail
    refine (s_l5Open w.heap.size (0 + 12) _ (by omega) H1.out).mono ?_
    rintro e w2 ⟨s2, hs2, rfl, h2, hg2⟩
    have HS2 := Lib.hid hs2; have H2 := Lib.hid h2; have HG2 := Lib.hid (grown_trans HG1.out hg2); clear hs2 h2 hg2
    go_wp2_with fail
    go_ret
    exact ⟨⟨s2, rfl⟩, drawn_below HB0.out HG2.out (Nat.le_refl _)⟩
  · have hsz : (fCode z1.toNat s1).size ≤ 2000 := by
      have := HS1.out
      unfold Small at this
      unfold fCode
      simp only [ByteArray.size_append]
      show _ ≤ 2000
      have h1 : (⟨#[59, 33]⟩ : ByteArray).size = 2 := rfl
      have h2 : (⟨#[hexChr z1.toNat]⟩ : ByteArray).size = 1 := rfl
      have h3 : (⟨#[68]⟩ : ByteArray).size = 1 := rfl
      omega
    obtain ⟨t, ht⟩ : ∃ t, t = fCode z1.toNat s1 := ⟨_, rfl⟩
    have hq : (#[Value.string (optS (cvB z1 && relOk s1) (fCode z1.toNat s1)), .bool (cvB z1 && relOk s1)] : Array Value) = #[.string t, .bool true] := by rw [hok, ht]; rfl
    rw [← ht] at hsz
    have HQ := Lib.hid hq; clear hq hok ht
    refine (s_CodeSpec z1 s1 _ x1).mono ?_
    rw [HQ.out]
    rintro e w' ⟨rfl, rfl⟩
    go_wp2_with fail
    refine (s_pickIn w.heap.size (0 + 12) 2 _ _ rfl (by omega) (by omega) (by omega) H1.out).mono ?_
    rintro e w3 ⟨c, hc, rfl, h3, hg3⟩
    have H3 := Lib.hid h3; have HG3 := Lib.hid (grown_trans HG1.out hg3); clear h3 hg3
    by_cases h0 : c = 0
    · have b0 : ((c : Int) == 0) = true := by rw [h0]; rfl
      clear h0
      go_wp2_with fail
      refine (s_l2Some w.heap.size (0 + 12 + 1) _ (by omega) H3.out).mono ?_
      rintro e w4 ⟨s4, hs4, rfl, h4, hg4⟩
      have HS4 := Lib.hid hs4; have H4 := Lib.hid h4; have HG4 := Lib.hid (grown_trans HG3.out hg4); clear hs4 h4 hg4
      have hz4 : s4.size = 4 := HS4.out.1
      go_wp2_with fail
      go_ret
      exact ⟨⟨_, rfl⟩, drawn_below HB0.out HG4.out (Nat.le_refl _)⟩
    · have b0 : ((c : Int) == 0) = false := by rw [beq_eq_false_iff_ne]; omega
      clear h0
      go_wp2_with fail
      refine (s_l5Open w.heap.size (0 + 12 + 1) _ (by omega) H3.out).mono ?_
      rintro e w4 ⟨s4, hs4, rfl, h4, hg4⟩
      have HS4 := Lib.hid hs4; have H4 := Lib.hid h4; have HG4 := Lib.hid (grown_trans HG3.out hg4); clear hs4 h4 hg4
      go_wp2_with fail
      go_ret
      exact ⟨⟨s4, rfl⟩, drawn_below HB0.out HG4.out (Nat.le_refl _)⟩
set_option maxHeartbeats 1000000 in
theorem s_DrawIsCorrect (a : Option Addr) (len cap : Nat) (w : World) (hin : ByteIn w a len cap) : Calls Try.prog 85 #[.slice a len cap] w (fun e w' => (∃ p c q, e = .returned (.tuple #[.int .i64 p, .string c, .int .i64 q])) ∧ Below w.heap.size w w') := by
  go_enter Try.func85, Try.ntmps85
  go_wp2_with fail
  refine (s_l14Open a len cap _ hin).mono ?_
  rintro e w0 ⟨rfl, h0, hb0⟩
  have H0 := Lib.hid h0; have HB0 := Lib.hid hb0; have HG0 := Lib.hid (World.grownBy.refl w0 (some w.heap.size)); clear h0 hb0 hin
  go_wp2_with fail
  refine (s_l5Open w.heap.size 0 _ (by omega) H0.out).mono ?_
  rintro e w1 ⟨s1, hs1, rfl, h1, hg1⟩
  have HS1 := Lib.hid hs1; have H1 := Lib.hid h1; have HG1 := Lib.hid (grown_trans HG0.out hg1); clear hs1 h1 hg1
  go_wp2_with fail
  refine (s_l1Some w.heap.size (0 + 185) _ (by omega) H1.out).mono ?_
  rintro e w2 ⟨z2, rfl, h2, hg2⟩
  have H2 := Lib.hid h2; have HG2 := Lib.hid (grown_trans HG1.out hg2); clear h2 hg2
  go_wp2_with fail
  refine (s_l1Some w.heap.size (0 + 185 + 2) _ (by omega) H2.out).mono ?_
  rintro e w3 ⟨z3, rfl, h3, hg3⟩
  have H3 := Lib.hid h3; have HG3 := Lib.hid (grown_trans HG2.out hg3); clear h3 hg3
  go_wp2_with fail
  cases hc : ctOk s1
  · have HC := Lib.hid hc; clear hc
    refine (s_ContractValid s1 _).mono ?_
    rw [HC.out]
    rintro e w' ⟨rfl, rfl⟩
    go_wp2_with fail
    go_ret3
    exact ⟨⟨z3, s1, z2, rfl⟩, drawn_below HB0.out HG3.out (Nat.le_refl _)⟩
  cases hq : cvB z2
  · have HC := Lib.hid hc; have HQ := Lib.hid hq; clear hc hq
    refine (s_ContractValid s1 _).mono ?_
    rw [HC.out]
    rintro e w' ⟨rfl, rfl⟩
    go_wp2_with fail
    refine (s_ConditionValid z2 _).mono ?_
    rw [HQ.out]
    rintro e w' ⟨rfl, rfl⟩
    go_wp2_with fail
    go_ret3
    exact ⟨⟨z3, s1, z2, rfl⟩, drawn_below HB0.out HG3.out (Nat.le_refl _)⟩
  cases hp : cvB z3
  · have HC := Lib.hid hc; have HQ := Lib.hid hq; have HP := Lib.hid hp; clear hc hq hp
    refine (s_ContractValid s1 _).mono ?_
    rw [HC.out]
    rintro e w' ⟨rfl, rfl⟩
    go_wp2_with fail
    refine (s_ConditionValid z2 _).mono ?_
    rw [HQ.out]
    rintro e w' ⟨rfl, rfl⟩
    go_wp2_with fail
    refine (s_ConditionValid z3 _).mono ?_
    rw [HP.out]
    rintro e w' ⟨rfl, rfl⟩
    go_wp2_with fail
    go_ret3
    exact ⟨⟨z3, s1, z2, rfl⟩, drawn_below HB0.out HG3.out (Nat.le_refl _)⟩
  · obtain ⟨n, hn, rfl⟩ := (cvB_iff z3).1 hp
    obtain ⟨m, hm, rfl⟩ := (cvB_iff z2).1 hq
    have HC := Lib.hid hc; have HQ := Lib.hid hq; have HP := Lib.hid hp; clear hc hq hp
    refine (s_ContractValid s1 _).mono ?_
    rw [HC.out]
    rintro e w' ⟨rfl, rfl⟩
    go_wp2_with fail
    refine (s_ConditionValid m _).mono ?_
    rw [HQ.out]
    rintro e w' ⟨rfl, rfl⟩
    go_wp2_with fail
    refine (s_ConditionValid n _).mono ?_
    rw [HP.out]
    rintro e w' ⟨rfl, rfl⟩
    go_wp2_with fail
    refine (s_pickIn w.heap.size (0 + 185 + 2 + 2) 2 _ _ rfl (by omega) (by omega) (by omega) H3.out).mono ?_
    rintro e w4 ⟨c, hc, rfl, h4, hg4⟩
    have HG4 := Lib.hid (grown_trans HG3.out hg4); clear h4 hg4
    by_cases h0 : c = 0
    · have b0 : ((c : Int) == 0) = true := by rw [h0]; rfl
      have e1 := bits_and_nat n (dig (txt 16 (ctT s1)) m) (by omega) (by have := dig_lt (txt 16 (ctT s1)) m; omega)
      clear h0
      go_wp2_with fail
      refine (s_ctTrans s1 _ HC.out).mono ?_
      rintro e w5 ⟨rfl, hb5⟩
      have HG5 := Lib.hid (grown_below HG4.out hb5); clear hb5
      go_wp2_with fail
      refine (s_l3Value (txt 16 (ctT s1)) m _ (ctT_Dg s1) hm).mono ?_
      rintro e w' ⟨rfl, rfl⟩
      go_wp2_with fail
      go_ret3
      exact ⟨⟨_, s1, m, rfl⟩, drawn_below HB0.out HG5.out (Nat.le_refl _)⟩
    · have b0 : ((c : Int) == 0) = false := by rw [beq_eq_false_iff_ne]; omega
      clear h0
      go_wp2_with fail
      go_ret3
      exact ⟨⟨n, s1, m, rfl⟩, drawn_below HB0.out HG4.out (Nat.le_refl _)⟩
end Go.Proofs.Ytiaeakpgldpaiaa
