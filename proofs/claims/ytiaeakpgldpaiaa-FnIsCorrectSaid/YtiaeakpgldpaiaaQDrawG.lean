/- The drawers of specifications and of invariants. -/
import Derived.Test.YtiaeakpgldpaiaaQJ4
import Derived.Test.YtiaeakpgldpaiaaQSpecE
import Derived.Test.YtiaeakpgldpaiaaQJ2
namespace Go.Proofs.Ytiaeakpgldpaiaa
set_option linter.unusedSimpArgs false
set_option linter.unusedVariables false
set_option maxRecDepth 4000
open Go.RowKit

set_option maxHeartbeats 1000000 in
theorem s_l2Bad (g P : Nat) (t : ByteArray) (w : World) (hp : P + 1 ≤ 100000) (ht : Dg 4 t) (h : RdIn w g P) : Calls Try.prog 238 #[.pointer (some ⟨g, 0, none⟩), .string t] w (TxtPost w g (P + 1) Small) := by
  have hsz : t.size = 4 := ht.1
  clear ht
  go_enter Try.func238, Try.ntmps238
  go_wp2_with fail
  refine (s_pickIn g P 30 _ _ rfl (by omega) (by omega) (by omega) h).mono ?_
  rintro e w1 ⟨c, hc, rfl, h1, hg⟩
  have HG := Lib.hid hg; have H1 := Lib.hid h1; clear hg h1
  have hcs : c = 0 ∨ c = 1 ∨ c = 2 ∨ 3 ≤ c := by omega
  rcases hcs with h0 | h0 | h0 | h0
  · have b0 : ((c : Int) == 0) = true := by rw [h0]; rfl
    clear h0
    go_wp2_with fail
    go_ret
    exact ⟨_, by unfold Small; rw [ByteArray.size_append, hsz]; decide, rfl, H1.out, HG.out⟩
  · have b0 : ((c : Int) == 0) = false := by rw [h0]; rfl
    have b1 : ((c : Int) == 1) = true := by rw [h0]; rfl
    clear h0
    go_wp2_with fail
    go_ret
    exact ⟨_, by unfold Small; rw [ByteArray.size_extract]; omega, rfl, H1.out, HG.out⟩
  · have b0 : ((c : Int) == 0) = false := by rw [h0]; rfl
    have b1 : ((c : Int) == 1) = false := by rw [h0]; rfl
    have b2 : ((c : Int) == 2) = true := by rw [h0]; rfl
    clear h0
    go_wp2_with fail
    go_ret
    exact ⟨_, by unfold Small; rw [ByteArray.size_append, ByteArray.size_extract]; show 1 + _ ≤ _; omega, rfl, H1.out, HG.out⟩
  · have b0 : ((c : Int) == 0) = false := by rw [beq_eq_false_iff_ne]; omega
    have b1 : ((c : Int) == 1) = false := by rw [beq_eq_false_iff_ne]; omega
    have b2 : ((c : Int) == 2) = false := by rw [beq_eq_false_iff_ne]; omega
    clear h0
    go_wp2_with fail
    go_ret
    exact ⟨_, by unfold Small; omega, rfl, H1.out, HG.out⟩
theorem s_l2Open (g P : Nat) (w : World) (hp : P + 10 ≤ 100000) (h : RdIn w g P) : Calls Try.prog 186 #[.pointer (some ⟨g, 0, none⟩)] w (TxtPost w g (P + 10) Small) := by
  have HG0 := Lib.hid (World.grownBy.refl w (some g))
  go_enter Try.func186, Try.ntmps186
  go_wp2_with fail
  refine (s_l2Some g P _ (by omega) h).mono ?_
  rintro e w1 ⟨s1, hs1, rfl, h1, hg1⟩
  have HS1 := Lib.hid hs1; have H1 := Lib.hid h1; have HG1 := Lib.hid (grown_trans HG0.out hg1); clear hs1 h1 hg1
  go_wp2_with fail
  refine (s_l2Bad g (P + 9) s1 _ (by omega) HS1.out H1.out).mono ?_
  rintro e w2 ⟨s2, hs2, rfl, h2, hg2⟩
  have HS2 := Lib.hid hs2; have H2 := Lib.hid h2; have HG2 := Lib.hid (grown_trans HG1.out hg2); clear hs2 h2 hg2
  go_wp2_with fail
  go_ret
  exact ⟨s2, HS2.out, rfl, H2.out, HG2.out⟩
/-- A number and a text. -/
def SpPost (w : World) (g P : Nat) (e : Ending) (w' : World) : Prop := ∃ z s, Small s ∧ e = .returned (.tuple #[.int .i64 z, .string s]) ∧ RdIn w' g P ∧ w.grownBy w' (some g)
theorem s_l9Spec (g P : Nat) (w : World) (hp : P + 12 ≤ 100000) (h : RdIn w g P) : Calls Try.prog 107 #[.pointer (some ⟨g, 0, none⟩)] w (SpPost w g (P + 12)) := by
  have HG0 := Lib.hid (World.grownBy.refl w (some g))
  go_enter Try.func107, Try.ntmps107
  go_wp2_with fail
  refine (s_l1Some g P _ (by omega) h).mono ?_
  rintro e w1 ⟨z1, rfl, h1, hg1⟩
  have H1 := Lib.hid h1; have HG1 := Lib.hid (grown_trans HG0.out hg1); clear h1 hg1
  go_wp2_with fail
  refine (s_l2Open g (P + 2) _ (by omega) H1.out).mono ?_
  rintro e w2 ⟨s2, hs2, rfl, h2, hg2⟩
  have HS2 := Lib.hid hs2; have H2 := Lib.hid h2; have HG2 := Lib.hid (grown_trans HG1.out hg2); clear hs2 h2 hg2
  go_wp2_with fail
  go_ret2
  exact ⟨z1, s2, HS2.out, rfl, H2.out, HG2.out⟩
theorem s_l2Or (r q : ByteArray) (w : World) (h : Dg 4 r) (hq : Dg 4 q) : Calls Try.prog 177 #[.string r, .string q] w fun e w' => e = .returned (.string (txt 4 (fun s => dig r s ||| dig q s))) ∧ w = w' := by
  go_enter Try.func177, Try.ntmps177
  go_wp2
  go_loop [5, 6] (fun o i => ∃ k : Nat, k ≤ 4 ∧ i = .int .i64 k ∧ o = .string (txt k (fun s => dig r s ||| dig q s))) (fun _ i => 4 - (intOf i).toNat)
  case atStart => exact ⟨0, by omega, rfl, rfl⟩
  case round =>
    obtain ⟨k, hk, rfl, rfl⟩ := hrel
    by_cases hlt : k < 4
    · have ht := txt_snoc k (fun s => dig r s ||| dig q s)
      have HT := Lib.hid ht; clear ht
      have hz : (txt k (fun s => dig r s ||| dig q s)).size ≤ 4 := by rw [txt_size]; exact hk
      have e1 := bits_or_nat (dig r k) (dig q k) (by have := dig_lt r k; omega) (by have := dig_lt q k; omega)
      go_wp2_with (first | (go_at_call 99; refine (s_l2To _ _ _ (by assumption) hlt).mono ?_; rintro e w' ⟨rfl, rfl⟩) | (go_at_call 100; refine (s_l2Digit _ _ (or_lt (dig_lt _ _) (dig_lt _ _))).mono ?_; rintro e w' ⟨rfl, rfl⟩))
      go_round
      case rel => exact ⟨k + 1, by omega, by go_num, by rw [← HT.out]⟩
      case measure => simp [intOf]; omega
    · obtain rfl : k = 4 := by omega
      go_wp2
      go_ret
      exact ⟨rfl, rfl⟩
def Sp2Post (w : World) (g P : Nat) (e : Ending) (w' : World) : Prop := ∃ z s y t, (Small s ∧ Small t) ∧ e = .returned (.tuple #[.int .i64 z, .string s, .int .i64 y, .string t]) ∧ RdIn w' g P ∧ w.grownBy w' (some g)
set_option maxHeartbeats 1000000 in
theorem s_l9Pair (g P : Nat) (w : World) (hp : P + 25 ≤ 100000) (h : RdIn w g P) : Calls Try.prog 93 #[.pointer (some ⟨g, 0, none⟩)] w (Sp2Post w g (P + 25)) := by
  have HG0 := Lib.hid (World.grownBy.refl w (some g))
  go_enter Try.func93, Try.ntmps93
  go_wp2_with fail
  refine (s_l9Spec g P _ (by omega) h).mono ?_
  rintro e w1 ⟨z1, s1, hs1, rfl, h1, hg1⟩
  have HS1 := Lib.hid hs1; have H1 := Lib.hid h1; have HG1 := Lib.hid (grown_trans HG0.out hg1); clear hs1 h1 hg1
  go_wp2_with fail
  refine (s_l9Spec g (P + 12) _ (by omega) H1.out).mono ?_
  rintro e w2 ⟨z2, s2, hs2, rfl, h2, hg2⟩
  have HS2 := Lib.hid hs2; have H2 := Lib.hid h2; have HG2 := Lib.hid (grown_trans HG1.out hg2); clear hs2 h2 hg2
  go_wp2_with fail
  refine (s_pickIn g (P + 12 + 12) 3 _ _ rfl (by omega) (by omega) (by omega) H2.out).mono ?_
  rintro e w3 ⟨c, hc, rfl, h3, hg3⟩
  have H3 := Lib.hid h3; have HG3 := Lib.hid (grown_trans HG2.out hg3)
  have x1 : s1.size ≤ 1048576 := Nat.le_trans HS1.out (by omega)
  have x2 : s2.size ≤ 1048576 := Nat.le_trans HS2.out (by omega)
  clear h3 hg3
  by_cases h0 : c = 0
  · have b0 : ((c : Int) == 0) = true := by rw [h0]; rfl
    clear h0
    go_wp2_with fail
    cases o1 : (cvB z1 && relOk s1)
    · have O1 := Lib.hid o1; clear o1
      refine (s_l9Ready z1 s1 _ x1).mono ?_
      rw [O1.out]
      rintro e w' ⟨rfl, rfl⟩
      go_wp2_with fail
      (try simp only [Exit.inBlock, Exit.then]); refine bodyPost_ret (results_tmp4 rfl _ _ _) rfl ?_
      exact ⟨z1, s1, z2, s2, ⟨HS1.out, HS2.out⟩, rfl, H3.out, HG3.out⟩
    · cases o2 : (cvB z2 && relOk s2)
      · have O1 := Lib.hid o1; have O2 := Lib.hid o2; clear o1 o2
        refine (s_l9Ready z1 s1 _ x1).mono ?_
        rw [O1.out]
        rintro e w' ⟨rfl, rfl⟩
        go_wp2_with fail
        refine (s_l9Ready z2 s2 _ x2).mono ?_
        rw [O2.out]
        rintro e w' ⟨rfl, rfl⟩
        go_wp2_with fail
        (try simp only [Exit.inBlock, Exit.then]); refine bodyPost_ret (results_tmp4 rfl _ _ _) rfl ?_
        exact ⟨z1, s1, z2, s2, ⟨HS1.out, HS2.out⟩, rfl, H3.out, HG3.out⟩
      · have O1 := Lib.hid o1; have O2 := Lib.hid o2
        rw [Bool.and_eq_true] at o1 o2
        obtain ⟨n, hn, rfl⟩ := (cvB_iff z1).1 o1.1
        obtain ⟨m, hm, rfl⟩ := (cvB_iff z2).1 o2.1
        have d1 := Dg.rel o1.2
        have d2 := Dg.rel o2.2
        have e1 := bits_or_nat n m (by omega) (by omega)
        have D1 := Lib.hid d1; have D2 := Lib.hid d2
        clear o1 o2 d1 d2
        refine (s_l9Ready n s1 _ x1).mono ?_
        rw [O1.out]
        rintro e w' ⟨rfl, rfl⟩
        go_wp2_with fail
        refine (s_l9Ready m s2 _ x2).mono ?_
        rw [O2.out]
        rintro e w' ⟨rfl, rfl⟩
        go_wp2_with fail
        refine (s_l2Or s1 s2 _ D1.out D2.out).mono ?_
        rintro e w' ⟨rfl, rfl⟩
        go_wp2_with fail
        (try simp only [Exit.inBlock, Exit.then]); refine bodyPost_ret (results_tmp4 rfl _ _ _) rfl ?_
        exact ⟨_, s1, _, _, ⟨HS1.out, by unfold Small; rw [txt_size]; omega⟩, rfl, H3.out, HG3.out⟩
  · have b0 : ((c : Int) == 0) = false := by rw [beq_eq_false_iff_ne]; omega
    clear h0
    go_wp2_with fail
    (try simp only [Exit.inBlock, Exit.then]); refine bodyPost_ret (results_tmp4 rfl _ _ _) rfl ?_
    exact ⟨z1, s1, z2, s2, ⟨HS1.out, HS2.out⟩, rfl, H3.out, HG3.out⟩
theorem s_DrawSpecSequence (a : Option Addr) (len cap : Nat) (w : World) (hin : ByteIn w a len cap) : Calls Try.prog 27 #[.slice a len cap] w (fun e w' => (∃ z s y t, (Small s ∧ Small t) ∧ e = .returned (.tuple #[.int .i64 z, .string s, .int .i64 y, .string t])) ∧ Below w.heap.size w w') := by
  go_enter Try.func27, Try.ntmps27
  go_wp2_with fail
  refine (s_l14Open a len cap _ hin).mono ?_
  rintro e w0 ⟨rfl, h0, hb0⟩
  have H0 := Lib.hid h0; have HB0 := Lib.hid hb0; have HG0 := Lib.hid (World.grownBy.refl w0 (some w.heap.size)); clear h0 hb0 hin
  go_wp2_with fail
  refine (s_l9Pair w.heap.size 0 _ (by omega) H0.out).mono ?_
  rintro e w1 ⟨z, s, y, t, hs, rfl, h1, hg1⟩
  have HS := Lib.hid hs; have HG1 := Lib.hid (grown_trans HG0.out hg1); clear hs h1 hg1
  go_wp2_with fail
  (try simp only [Exit.inBlock, Exit.then]); refine bodyPost_ret (results_tmp4 rfl _ _ _) rfl ?_
  exact ⟨⟨z, s, y, t, HS.out, rfl⟩, drawn_below HB0.out HG1.out (Nat.le_refl _)⟩
theorem s_DrawSpecMeet (a : Option Addr) (len cap : Nat) (w : World) (hin : ByteIn w a len cap) : Calls Try.prog 14 #[.slice a len cap] w (fun e w' => (∃ z s y t, (Small s ∧ Small t) ∧ e = .returned (.tuple #[.int .i64 z, .string s, .int .i64 y, .string t])) ∧ Below w.heap.size w w') := by
  go_enter Try.func14, Try.ntmps14
  go_wp2_with fail
  refine (s_l14Open a len cap _ hin).mono ?_
  rintro e w0 ⟨rfl, h0, hb0⟩
  have H0 := Lib.hid h0; have HB0 := Lib.hid hb0; have HG0 := Lib.hid (World.grownBy.refl w0 (some w.heap.size)); clear h0 hb0 hin
  go_wp2_with fail
  refine (s_l9Pair w.heap.size 0 _ (by omega) H0.out).mono ?_
  rintro e w1 ⟨z, s, y, t, hs, rfl, h1, hg1⟩
  have HS := Lib.hid hs; have HG1 := Lib.hid (grown_trans HG0.out hg1); clear hs h1 hg1
  go_wp2_with fail
  (try simp only [Exit.inBlock, Exit.then]); refine bodyPost_ret (results_tmp4 rfl _ _ _) rfl ?_
  exact ⟨⟨z, s, y, t, HS.out, rfl⟩, drawn_below HB0.out HG1.out (Nat.le_refl _)⟩
theorem s_DrawSpecWeaker (a : Option Addr) (len cap : Nat) (w : World) (hin : ByteIn w a len cap) : Calls Try.prog 24 #[.slice a len cap] w (fun e w' => (∃ z s y t, (Small s ∧ Small t) ∧ e = .returned (.tuple #[.int .i64 z, .string s, .int .i64 y, .string t])) ∧ Below w.heap.size w w') := by
  go_enter Try.func24, Try.ntmps24
  go_wp2_with fail
  refine (s_l14Open a len cap _ hin).mono ?_
  rintro e w0 ⟨rfl, h0, hb0⟩
  have H0 := Lib.hid h0; have HB0 := Lib.hid hb0; have HG0 := Lib.hid (World.grownBy.refl w0 (some w.heap.size)); clear h0 hb0 hin
  go_wp2_with fail
  refine (s_l9Pair w.heap.size 0 _ (by omega) H0.out).mono ?_
  rintro e w1 ⟨z, s, y, t, hs, rfl, h1, hg1⟩
  have HS := Lib.hid hs; have HG1 := Lib.hid (grown_trans HG0.out hg1); clear hs h1 hg1
  go_wp2_with fail
  (try simp only [Exit.inBlock, Exit.then]); refine bodyPost_ret (results_tmp4 rfl _ _ _) rfl ?_
  exact ⟨⟨z, s, y, t, HS.out, rfl⟩, drawn_below HB0.out HG1.out (Nat.le_refl _)⟩
theorem s_DrawCodeFunction (a : Option Addr) (len cap : Nat) (w : World) (hin : ByteIn w a len cap) : Calls Try.prog 77 #[.slice a len cap] w (fun e w' => (∃ z s, Small s ∧ e = .returned (.tuple #[.int .i64 z, .string s])) ∧ Below w.heap.size w w') := by
  go_enter Try.func77, Try.ntmps77
  go_wp2_with fail
  refine (s_l14Open a len cap _ hin).mono ?_
  rintro e w0 ⟨rfl, h0, hb0⟩
  have H0 := Lib.hid h0; have HB0 := Lib.hid hb0; have HG0 := Lib.hid (World.grownBy.refl w0 (some w.heap.size)); clear h0 hb0 hin
  go_wp2_with fail
  refine (s_l9Spec w.heap.size 0 _ (by omega) H0.out).mono ?_
  rintro e w1 ⟨z1, s1, hs1, rfl, h1, hg1⟩
  have HS1 := Lib.hid hs1; have H1 := Lib.hid h1; have HG1 := Lib.hid (grown_trans HG0.out hg1); clear hs1 h1 hg1
  go_wp2_with fail
  go_ret2
  exact ⟨⟨z1, s1, HS1.out, rfl⟩, drawn_below HB0.out HG1.out (Nat.le_refl _)⟩
theorem s_DrawKeepsInvariant (a : Option Addr) (len cap : Nat) (w : World) (hin : ByteIn w a len cap) : Calls Try.prog 52 #[.slice a len cap] w (fun e w' => (∃ z s q, Small s ∧ e = .returned (.tuple #[.int .i64 z, .string s, .int .i64 q])) ∧ Below w.heap.size w w') := by
  go_enter Try.func52, Try.ntmps52
  go_wp2_with fail
  refine (s_l14Open a len cap _ hin).mono ?_
  rintro e w0 ⟨rfl, h0, hb0⟩
  have H0 := Lib.hid h0; have HB0 := Lib.hid hb0; have HG0 := Lib.hid (World.grownBy.refl w0 (some w.heap.size)); clear h0 hb0 hin
  go_wp2_with fail
  refine (s_l8Case w.heap.size 0 _ (by omega) H0.out).mono ?_
  rintro e w1 ⟨z1, s1, hs1, rfl, h1, hg1⟩
  have HS1 := Lib.hid hs1; have H1 := Lib.hid h1; have HG1 := Lib.hid (grown_trans HG0.out hg1); clear hs1 h1 hg1
  go_wp2_with fail
  refine (s_l1Some w.heap.size (0 + 27) _ (by omega) H1.out).mono ?_
  rintro e w2 ⟨z2, rfl, h2, hg2⟩
  have H2 := Lib.hid h2; have HG2 := Lib.hid (grown_trans HG1.out hg2); clear h2 hg2
  go_wp2_with fail
  have x1 : s1.size ≤ 1048576 := Nat.le_trans HS1.out (by omega)
  cases hok : (trOk s1 && cvB z1)
  · have HOK := Lib.hid hok; clear hok
    refine (s_l7Ready s1 z1 _ x1).mono ?_
    rw [HOK.out]
    rintro e w' ⟨rfl, rfl⟩
    go_wp2_with fail
    go_ret3
    exact ⟨⟨z1, s1, z2, HS1.out, rfl⟩, drawn_below HB0.out HG2.out (Nat.le_refl _)⟩
  · cases hq : cvB z2
    · have HOK := Lib.hid hok; have HQ := Lib.hid hq; clear hok hq
      refine (s_l7Ready s1 z1 _ x1).mono ?_
      rw [HOK.out]
      rintro e w' ⟨rfl, rfl⟩
      go_wp2_with fail
      refine (s_ConditionValid z2 _).mono ?_
      rw [HQ.out]
      rintro e w' ⟨rfl, rfl⟩
      go_wp2_with fail
      go_ret3
      exact ⟨⟨z1, s1, z2, HS1.out, rfl⟩, drawn_below HB0.out HG2.out (Nat.le_refl _)⟩
    · have HOK := Lib.hid hok; have HQ := Lib.hid hq; clear hok hq
      refine (s_l7Ready s1 z1 _ x1).mono ?_
      rw [HOK.out]
      rintro e w' ⟨rfl, rfl⟩
      go_wp2_with fail
      refine (s_ConditionValid z2 _).mono ?_
      rw [HQ.out]
      rintro e w' ⟨rfl, rfl⟩
      go_wp2_with fail
      refine (s_pickIn w.heap.size (0 + 27 + 2) 2 _ _ rfl (by omega) (by omega) (by omega) H2.out).mono ?_
      rintro e w3 ⟨c, hc, rfl, h3, hg3⟩
      have HG3 := Lib.hid (grown_trans HG2.out hg3); clear h3 hg3
      by_cases h0 : c = 0
      · have b0 : ((c : Int) == 0) = true := by rw [h0]; rfl
        clear h0
        go_wp2_with fail
        refine (s_WeakestInvariant z1 s1 z2 _ x1).mono ?_
        rintro e w' ⟨rfl, rfl⟩
        go_wp2_with fail
        go_ret3
        exact ⟨⟨z1, s1, _, HS1.out, rfl⟩, drawn_below HB0.out HG3.out (Nat.le_refl _)⟩
      · have b0 : ((c : Int) == 0) = false := by rw [beq_eq_false_iff_ne]; omega
        clear h0
        go_wp2_with fail
        go_ret3
        exact ⟨⟨z1, s1, z2, HS1.out, rfl⟩, drawn_below HB0.out HG3.out (Nat.le_refl _)⟩
end Go.Proofs.Ytiaeakpgldpaiaa
