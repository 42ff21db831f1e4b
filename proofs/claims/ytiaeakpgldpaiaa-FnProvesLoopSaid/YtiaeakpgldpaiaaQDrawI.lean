/- The drawer of a loop's proof. -/
import Derived.Test.YtiaeakpgldpaiaaQDrawG
import Derived.Test.YtiaeakpgldpaiaaQSpecPl
namespace Go.Proofs.Ytiaeakpgldpaiaa
set_option linter.unusedSimpArgs false
set_option linter.unusedVariables false
set_option maxRecDepth 4000
open Go.RowKit

theorem IntsAt.less {B C : Nat} {w : World} {v : Value} {zs : List Int} (h : IntsAt B w v zs) (hC : C ≤ B) : IntsAt C w v zs := by
  obtain ⟨g, cap, cur, h1, h2, h3, h4⟩ := h
  exact ⟨g, cap, cur, h1, Nat.le_trans hC h2, h3, h4⟩
set_option maxHeartbeats 2000000 in
theorem s_DrawProvesLoop (a : Option Addr) (len cap : Nat) (w : World) (hin : ByteIn w a len cap) : Calls Try.prog 63 #[.slice a len cap] w (fun e w' => (∃ z s v rv zs q, Small s ∧ zs.length ≤ 4 ∧ e = .returned (.tuple #[.int .i64 z, .string s, .int .i64 v, rv, .int .i64 q]) ∧ IntsAt w.heap.size w' rv zs) ∧ Below w.heap.size w w') := by
  go_enter Try.func63, Try.ntmps63
  go_wp2_with fail
  refine (s_l14Open a len cap _ hin).mono ?_
  rintro e w0 ⟨rfl, h0, hb0⟩
  have H0 := Lib.hid h0; have HB0 := Lib.hid hb0; have HG0 := Lib.hid (World.grownBy.refl w0 (some w.heap.size)); clear h0 hb0 hin
  go_wp2_with fail
  refine (s_l8Case w.heap.size 0 _ (by omega) H0.out).mono ?_
  rintro e w1 ⟨z1, s1, hs1, rfl, h1, hg1⟩
  have HS1 := Lib.hid hs1; have H1 := Lib.hid h1; have HG1 := Lib.hid (grown_trans HG0.out hg1); clear hs1 h1 hg1
  go_wp2_with fail
  refine (s_l1Some w.heap.size (0 + 27) _ (by omega) H1.out).mono ?_
  rintro e w2 ⟨z2, rfl, h2, hg2⟩
  have H2 := Lib.hid h2; have HG2 := Lib.hid (grown_trans HG1.out hg2); clear h2 hg2
  go_wp2_with fail
  have x1 : s1.size ≤ 1048576 := Nat.le_trans HS1.out (by omega)
  obtain ⟨zs, hzs⟩ : ∃ zs, zs = rkList ((trOk s1 && cvB z1) && cvB z2) (fBody z1.toNat (dig s1)) (andn z2.toNat z1.toNat) := ⟨_, rfl⟩
  have hzl : zs.length ≤ 4 := by rw [hzs, rkList_len]; split <;> omega
  have HZS := Lib.hid hzs; clear hzs
  refine (s_FindProof z1 s1 z2 _ x1).mono ?_
  rw [← HZS.out]
  rintro e w3 ⟨rv, rfl, hi3, hb3⟩
  have hB : w.heap.size + 1 ≤ w2.heap.size := by have := H2.out.lt; omega
  have HI3 := Lib.hid (hi3.less hB)
  have H3 := Lib.hid (H2.out.later hb3)
  have HG3 := Lib.hid (grown_below HG2.out hb3)
  clear hi3 hb3 hB
  obtain ⟨v, hv⟩ : ∃ v, v = optI ((trOk s1 && cvB z1) && cvB z2) (fWhile z1.toNat (dig s1) z2.toNat) := ⟨_, rfl⟩
  rw [← hv]
  clear hv
  go_wp2_with fail
  refine (s_pickIn w.heap.size (0 + 27 + 2) 4 _ _ rfl (by omega) (by omega) (by omega) H3.out).mono ?_
  rintro e w4 ⟨c, hc, rfl, h4, hg4⟩
  have H4 := Lib.hid h4; have HG4 := Lib.hid (grown_trans HG3.out hg4); have HI4 := Lib.hid (HI3.out.keptR hg4 (by omega)); clear h4 hg4 HI3
  have hcs : c = 0 ∨ c = 1 ∨ c = 2 ∨ 3 ≤ c := by omega
  rcases hcs with h0 | h0 | h0 | h0
  · have b0 : ((c : Int) == 0) = true := by rw [h0]; rfl
    have b1 : ((c : Int) == 1) = false := by rw [h0]; rfl
    have b2 : ((c : Int) == 2) = false := by rw [h0]; rfl
    clear h0
    go_wp2_with fail
    refine (s_l1Some w.heap.size (0 + 27 + 2 + 1) _ (by omega) H4.out).mono ?_
    rintro e w5 ⟨z5, rfl, h5, hg5⟩
    have HG5 := Lib.hid (grown_trans HG4.out hg5); have HI5 := Lib.hid ((HI4.out.keptR hg5 (by omega)).less (Nat.le_succ _)); clear h5 hg5
    go_wp2_with fail
    (try simp only [Exit.inBlock, Exit.then]); refine bodyPost_ret (results_tmp5 rfl _ _ _) rfl ?_
    exact ⟨⟨z1, s1, z5, rv, zs, z2, HS1.out, hzl, rfl, HI5.out⟩, drawn_below HB0.out HG5.out (Nat.le_refl _)⟩
  · have b0 : ((c : Int) == 0) = false := by rw [h0]; rfl
    have b1 : ((c : Int) == 1) = true := by rw [h0]; rfl
    have b2 : ((c : Int) == 2) = false := by rw [h0]; rfl
    clear h0
    go_wp2_with fail
    refine (s_pickIn w.heap.size (0 + 27 + 2 + 1) 4 _ _ rfl (by omega) (by omega) (by omega) H4.out).mono ?_
    rintro e w5 ⟨n5, hn5, rfl, h5, hg5⟩
    have H5 := Lib.hid h5; have HG5 := Lib.hid (grown_trans HG4.out hg5); clear h5 hg5
    go_wp2_with fail
    refine (s_pickIn w.heap.size (0 + 27 + 2 + 1 + 1) 4 _ _ rfl (by omega) (by omega) (by omega) H5.out).mono ?_
    rintro e w6 ⟨n6, hn6, rfl, h6, hg6⟩
    have H6 := Lib.hid h6; have HG6 := Lib.hid (grown_trans HG5.out hg6); clear h6 hg6
    go_wp2_with fail
    refine (s_pickIn w.heap.size (0 + 27 + 2 + 1 + 1 + 1) 4 _ _ rfl (by omega) (by omega) (by omega) H6.out).mono ?_
    rintro e w7 ⟨n7, hn7, rfl, h7, hg7⟩
    have H7 := Lib.hid h7; have HG7 := Lib.hid (grown_trans HG6.out hg7); clear h7 hg7
    go_wp2_with fail
    refine (s_pickIn w.heap.size (0 + 27 + 2 + 1 + 1 + 1 + 1) 4 _ _ rfl (by omega) (by omega) (by omega) H7.out).mono ?_
    rintro e w8 ⟨n8, hn8, rfl, h8, hg8⟩
    have HG8 := Lib.hid (grown_trans HG7.out hg8); clear h8 hg8
    have hsz := HG8.out.size
    have hr := RowAt.fresh w8 3 (([(n5 : Int), n6, n7, (n8 : Int) - 1] : List Int).map (Value.int .i64)).toArray
    have hi9 := IntsAt.of_lit (B := w.heap.size) (zs := [(n5 : Int), n6, n7, (n8 : Int) - 1]) (Nat.le_trans HB0.out.size hsz) hr (by unfold maxLen; simp)
    have HI9 := Lib.hid hi9
    clear hr hi9 hsz
    go_wp2_with fail
    (try simp only [Exit.inBlock, Exit.then]); refine bodyPost_ret (results_tmp5 rfl _ _ _) rfl ?_
    exact ⟨⟨z1, s1, v, _, [(n5 : Int), n6, n7, (n8 : Int) - 1], z2, HS1.out, Nat.le_refl 4, rfl, HI9.out⟩, drawn_below HB0.out (grown_alloc HG8.out _) (Nat.le_refl _)⟩
  · have b0 : ((c : Int) == 0) = false := by rw [h0]; rfl
    have b1 : ((c : Int) == 1) = false := by rw [h0]; rfl
    have b2 : ((c : Int) == 2) = true := by rw [h0]; rfl
    clear h0
    go_wp2_with fail
    refine (s_pickIn w.heap.size (0 + 27 + 2 + 1) 8 _ _ rfl (by omega) (by omega) (by omega) H4.out).mono ?_
    rintro e w5 ⟨c5, hc5, rfl, h5, hg5⟩
    have HG5 := Lib.hid (grown_trans HG4.out hg5); have HI5 := Lib.hid ((HI4.out.keptR hg5 (by omega)).less (Nat.le_succ _)); clear h5 hg5
    by_cases h0 : c5 = 0
    · have b5 : ((c5 : Int) == 0) = true := by rw [h0]; rfl
      clear h0
      have hsz := HG5.out.size
      have hr := RowAt.fresh w5 3 (([0, 1, 2] : List Int).map (Value.int .i64)).toArray
      have hi6 := IntsAt.of_lit (B := w.heap.size) (zs := [0, 1, 2]) (Nat.le_trans HB0.out.size hsz) hr (by unfold maxLen; simp)
      have HI6 := Lib.hid hi6
      clear hr hi6 hsz
      go_wp2_with fail
      (try simp only [Exit.inBlock, Exit.then]); refine bodyPost_ret (results_tmp5 rfl _ _ _) rfl ?_
      exact ⟨⟨z1, s1, v, _, [0, 1, 2], z2, HS1.out, by decide, rfl, HI6.out⟩, drawn_below HB0.out (grown_alloc HG5.out _) (Nat.le_refl _)⟩
    · have b5 : ((c5 : Int) == 0) = false := by rw [beq_eq_false_iff_ne]; omega
      clear h0
      go_wp2_with fail
      (try simp only [Exit.inBlock, Exit.then]); refine bodyPost_ret (results_tmp5 rfl _ _ _) rfl ?_
      exact ⟨⟨z1, s1, v, rv, zs, z2, HS1.out, hzl, rfl, HI5.out⟩, drawn_below HB0.out HG5.out (Nat.le_refl _)⟩
  · have b0 : ((c : Int) == 0) = false := by rw [beq_eq_false_iff_ne]; omega
    have b1 : ((c : Int) == 1) = false := by rw [beq_eq_false_iff_ne]; omega
    have b2 : ((c : Int) == 2) = false := by rw [beq_eq_false_iff_ne]; omega
    clear h0
    go_wp2_with fail
    (try simp only [Exit.inBlock, Exit.then]); refine bodyPost_ret (results_tmp5 rfl _ _ _) rfl ?_
    exact ⟨⟨z1, s1, v, rv, zs, z2, HS1.out, hzl, rfl, (HI4.out.less (Nat.le_succ _))⟩, drawn_below HB0.out HG4.out (Nat.le_refl _)⟩
end Go.Proofs.Ytiaeakpgldpaiaa
