/- The drawer of contracts. -/
import Derived.Test.YtiaeakpgldpaiaaQDrawG
namespace Go.Proofs.Ytiaeakpgldpaiaa
set_option linter.unusedSimpArgs false
set_option linter.unusedVariables false
set_option maxRecDepth 4000
open Go.RowKit

/-- A text that is not empty and not longer than n. -/
def CtS (n : Nat) (s : ByteArray) : Prop := 1 ≤ s.size ∧ s.size ≤ n
/-- How long a drawn contract may be, and how many draws it takes. -/
def lenD : Nat → Nat
  | 0 => 5
  | d + 1 => 2 * lenD d + 2
def numD : Nat → Nat
  | 0 => 12
  | d + 1 => 2 * numD d + 12
theorem lenD_ge : ∀ d, 5 ≤ lenD d
  | 0 => Nat.le_refl _
  | d + 1 => by have := lenD_ge d; unfold lenD; omega
theorem numD_ge : ∀ d, 12 ≤ numD d
  | 0 => Nat.le_refl _
  | d + 1 => by have := numD_ge d; unfold numD; omega
theorem lenD_le {d : Nat} (h : d ≤ 3) : lenD d ≤ 54 := by
  have key : ∀ d, d ≤ 3 → lenD d ≤ 54 := by decide
  exact key d h
theorem numD_le {d : Nat} (h : d ≤ 3) : numD d ≤ 180 := by
  have key : ∀ d, d ≤ 3 → numD d ≤ 180 := by decide
  exact key d h
theorem size_one (b : UInt8) : (⟨#[b]⟩ : ByteArray).size = 1 := rfl
/-- Without depth. -/
theorem s_l5Draw0 (g P : Nat) (b : Bool) (w : World) (hp : P + 12 ≤ 100000) (h : RdIn w g P) : Calls Try.prog 239 #[.pointer (some ⟨g, 0, none⟩), .int .i64 0, .bool b] w (TxtPost w g (P + 12) (CtS 5)) := by
  have HG0 := Lib.hid (World.grownBy.refl w (some g))
  go_enter Try.func239, Try.ntmps239
  go_wp2_with fail
  refine (s_pickIn g P 16 _ _ rfl (by omega) (by omega) (by omega) h).mono ?_
  rintro e w1 ⟨n1, hn1, rfl, h1, hg1⟩
  have H1 := Lib.hid h1; have HG1 := Lib.hid (grown_trans HG0.out hg1); clear h1 hg1
  go_wp2_with fail
  refine (s_pickIn g (P + 1) 16 _ _ rfl (by omega) (by omega) (by omega) H1.out).mono ?_
  rintro e w2 ⟨n2, hn2, rfl, h2, hg2⟩
  have H2 := Lib.hid h2; have HG2 := Lib.hid (grown_trans HG1.out hg2); clear h2 hg2
  go_wp2_with fail
  have hzp := size_one (hexChr n2)
  refine (s_l2Digit n2 _ hn2).mono ?_
  rintro e w' ⟨rfl, rfl⟩
  go_wp2_with fail
  refine (s_pickIn g (P + 1 + 1) 8 _ _ rfl (by omega) (by omega) (by omega) H2.out).mono ?_
  rintro e w3 ⟨n3, hn3, rfl, h3, hg3⟩
  have H3 := Lib.hid h3; have HG3 := Lib.hid (grown_trans HG2.out hg3); clear h3 hg3
  have hcs : n3 = 0 ∨ n3 = 1 ∨ n3 = 2 ∨ n3 = 3 ∨ n3 = 4 ∨ 5 ≤ n3 := by omega
  rcases hcs with h0 | h0 | h0 | h0 | h0 | h0
  · have c0 : ((n3 : Int) == 0) = true := by rw [h0]; rfl
    clear h0
    have hlt := H3.out.lt
    have hr := RowAt.fresh w3 9 (([⟨#[115]⟩, ⟨#[97]⟩, ⟨#[109]⟩, ⟨#[115]⟩] : List ByteArray).map Value.string).toArray
    have H4 := Lib.hid (H3.out.alloc (.cells (([⟨#[115]⟩, ⟨#[97]⟩, ⟨#[109]⟩, ⟨#[115]⟩] : List ByteArray).map Value.string).toArray 9)); have HR := Lib.hid hr
    clear hr
    go_wp2_with fail
    refine (s_of g (P + 1 + 1 + 1) w3.heap.size [⟨#[115]⟩, ⟨#[97]⟩, ⟨#[109]⟩, ⟨#[115]⟩] _ (by decide) (by decide) (by omega) H4.out (by omega) HR.out).mono ?_
    rintro e w5 ⟨v, ⟨s, hs, rfl⟩, rfl, h5, hg5⟩
    have hs1 : s.size = 1 := by
      simp only [List.mem_cons, List.not_mem_nil, or_false] at hs
      rcases hs with rfl | rfl | rfl | rfl <;> rfl
    have H5 := Lib.hid h5; have HG5 := Lib.hid (grown_trans (grown_alloc HG3.out _) hg5); clear h5 hg5 hs
    go_wp2_with fail
    go_ret
    exact ⟨s, ⟨by omega, by omega⟩, rfl, H5.out.mono (by omega), HG5.out⟩
  · have c0 : ((n3 : Int) == 0) = false := by rw [h0]; rfl
    have c1 : ((n3 : Int) == 1) = true := by rw [h0]; rfl
    clear h0
    go_wp2_with fail
    go_ret
    exact ⟨_, ⟨by rw [ByteArray.size_append, size_one]; omega, by rw [ByteArray.size_append, size_one]; omega⟩, rfl, H3.out.mono (by omega), HG3.out⟩
  · have c0 : ((n3 : Int) == 0) = false := by rw [h0]; rfl
    have c1 : ((n3 : Int) == 1) = false := by rw [h0]; rfl
    have c2 : ((n3 : Int) == 2) = true := by rw [h0]; rfl
    clear h0
    go_wp2_with fail
    go_ret
    exact ⟨_, ⟨by rw [ByteArray.size_append, size_one]; omega, by rw [ByteArray.size_append, size_one]; omega⟩, rfl, H3.out.mono (by omega), HG3.out⟩
  · have c0 : ((n3 : Int) == 0) = false := by rw [h0]; rfl
    have c1 : ((n3 : Int) == 1) = false := by rw [h0]; rfl
    have c2 : ((n3 : Int) == 2) = false := by rw [h0]; rfl
    have c3 : ((n3 : Int) == 3) = true := by rw [h0]; rfl
    clear h0
    go_wp2_with fail
    refine (s_l2Some g (P + 1 + 1 + 1) _ (by omega) H3.out).mono ?_
    rintro e w5 ⟨s5, hs5, rfl, h5, hg5⟩
    have HS5 := Lib.hid hs5; have H5 := Lib.hid h5; have HG5 := Lib.hid (grown_trans HG3.out hg5); clear hs5 h5 hg5
    have hz5 : s5.size = 4 := HS5.out.1
    go_wp2_with fail
    go_ret
    exact ⟨_, ⟨by rw [ByteArray.size_append, size_one]; omega, by rw [ByteArray.size_append, size_one]; omega⟩, rfl, H5.out.mono (by omega), HG5.out⟩
  · have c0 : ((n3 : Int) == 0) = false := by rw [h0]; rfl
    have c1 : ((n3 : Int) == 1) = false := by rw [h0]; rfl
    have c2 : ((n3 : Int) == 2) = false := by rw [h0]; rfl
    have c3 : ((n3 : Int) == 3) = false := by rw [h0]; rfl
    have c4 : ((n3 : Int) == 4) = true := by rw [h0]; rfl
    clear h0
    go_wp2_with fail
    refine (s_l2Some g (P + 1 + 1 + 1) _ (by omega) H3.out).mono ?_
    rintro e w5 ⟨s5, hs5, rfl, h5, hg5⟩
    have HS5 := Lib.hid hs5; have H5 := Lib.hid h5; have HG5 := Lib.hid (grown_trans HG3.out hg5); clear hs5 h5 hg5
    have hz5 : s5.size = 4 := HS5.out.1
    go_wp2_with fail
    go_ret
    exact ⟨_, ⟨by rw [ByteArray.size_append, size_one]; omega, by rw [ByteArray.size_append, size_one]; omega⟩, rfl, H5.out.mono (by omega), HG5.out⟩
  · have c0 : ((n3 : Int) == 0) = false := by rw [beq_eq_false_iff_ne]; omega
    have c1 : ((n3 : Int) == 1) = false := by rw [beq_eq_false_iff_ne]; omega
    have c2 : ((n3 : Int) == 2) = false := by rw [beq_eq_false_iff_ne]; omega
    have c3 : ((n3 : Int) == 3) = false := by rw [beq_eq_false_iff_ne]; omega
    have c4 : ((n3 : Int) == 4) = false := by rw [beq_eq_false_iff_ne]; omega
    clear h0
    go_wp2_with fail
    refine (s_l2Some g (P + 1 + 1 + 1) _ (by omega) H3.out).mono ?_
    rintro e w5 ⟨s5, hs5, rfl, h5, hg5⟩
    have HS5 := Lib.hid hs5; have H5 := Lib.hid h5; have HG5 := Lib.hid (grown_trans HG3.out hg5); clear hs5 h5 hg5
    have hz5 : s5.size = 4 := HS5.out.1
    go_wp2_with fail
    go_ret
    exact ⟨_, ⟨by rw [ByteArray.size_append, size_one]; omega, by rw [ByteArray.size_append, size_one]; omega⟩, rfl, H5.out.mono (by omega), HG5.out⟩
set_option maxHeartbeats 8000000 in
/-- With a depth, of what is drawn with one less. -/
theorem s_l5DrawS (d : Nat) (hd : d < 3) (ih : ∀ (g P : Nat) (b : Bool) (z : Int) (w : World), z = (d : Int) → P + numD d ≤ 100000 → RdIn w g P → Calls Try.prog 239 #[.pointer (some ⟨g, 0, none⟩), .int .i64 z, .bool b] w (TxtPost w g (P + numD d) (CtS (lenD d))))
    (g P : Nat) (b : Bool) (z : Int) (w : World) (hz : z = ((d + 1 : Nat) : Int)) (hp : P + numD (d + 1) ≤ 100000) (h : RdIn w g P) : Calls Try.prog 239 #[.pointer (some ⟨g, 0, none⟩), .int .i64 z, .bool b] w (TxtPost w g (P + numD (d + 1)) (CtS (lenD (d + 1)))) := by
  have HG0 := Lib.hid (World.grownBy.refl w (some g))
  have IH := Lib.hid ih; clear ih
  have hl := lenD_le (d := d) (by omega)
  have hl1 := lenD_ge (d + 1)
  have hn1 := numD_ge (d + 1)
  have hp2 : P + (2 * numD d + 12) ≤ 100000 := hp
  have hz1 : 1 ≤ z := by omega
  have hz3 : z ≤ 3 := by omega
  have HZ := Lib.hid (show z - 1 = (d : Int) by omega)
  clear hz hp
  have b0 : decide (z ≤ 0) = false := decide_eq_false (by omega)
  have e0 : IntKind.i64.wrap (z - 1) = z - 1 := IntWalk.i64_in _ ⟨by omega, by omega⟩
  go_enter Try.func239, Try.ntmps239
  go_wp2_with fail
  refine (s_pickIn g P 16 _ _ rfl (by omega) (by omega) (by omega) h).mono ?_
  rintro e w1 ⟨n1, hn1, rfl, h1, hg1⟩
  have H1 := Lib.hid h1; have HG1 := Lib.hid (grown_trans HG0.out hg1); clear h1 hg1
  go_wp2_with fail
  refine (s_pickIn g (P + 1) 16 _ _ rfl (by omega) (by omega) (by omega) H1.out).mono ?_
  rintro e w2 ⟨n2, hn2, rfl, h2, hg2⟩
  have H2 := Lib.hid h2; have HG2 := Lib.hid (grown_trans HG1.out hg2); clear h2 hg2
  go_wp2_with fail
  have hzp := size_one (hexChr n2)
  refine (s_l2Digit n2 _ hn2).mono ?_
  rintro e w' ⟨rfl, rfl⟩
  by_cases k3 : n1 < 3
  · have b3 : decide ((n1 : Int) < 3) = true := decide_eq_true (by omega)
    clear k3
    go_wp2_with fail
    refine (s_pickIn g (P + 1 + 1) 8 _ _ rfl (by omega) (by omega) (by omega) H2.out).mono ?_
    rintro e w3 ⟨n3, hn3, rfl, h3, hg3⟩
    have H3 := Lib.hid h3; have HG3 := Lib.hid (grown_trans HG2.out hg3); clear h3 hg3
    have hcs : n3 = 0 ∨ n3 = 1 ∨ n3 = 2 ∨ n3 = 3 ∨ n3 = 4 ∨ 5 ≤ n3 := by omega
    rcases hcs with h0 | h0 | h0 | h0 | h0 | h0
    · have c0 : ((n3 : Int) == 0) = true := by rw [h0]; rfl
      clear h0
      have hlt := H3.out.lt
      have hr := RowAt.fresh w3 9 (([⟨#[115]⟩, ⟨#[97]⟩, ⟨#[109]⟩, ⟨#[115]⟩] : List ByteArray).map Value.string).toArray
      have H4 := Lib.hid (H3.out.alloc (.cells (([⟨#[115]⟩, ⟨#[97]⟩, ⟨#[109]⟩, ⟨#[115]⟩] : List ByteArray).map Value.string).toArray 9)); have HR := Lib.hid hr
      clear hr
      go_wp2_with fail
      refine (s_of g (P + 1 + 1 + 1) w3.heap.size [⟨#[115]⟩, ⟨#[97]⟩, ⟨#[109]⟩, ⟨#[115]⟩] _ (by decide) (by decide) (by omega) H4.out (by omega) HR.out).mono ?_
      rintro e w5 ⟨v, ⟨s, hs, rfl⟩, rfl, h5, hg5⟩
      have hs1 : s.size = 1 := by
        simp only [List.mem_cons, List.not_mem_nil, or_false] at hs
        rcases hs with rfl | rfl | rfl | rfl <;> rfl
      have H5 := Lib.hid h5; have HG5 := Lib.hid (grown_trans (grown_alloc HG3.out _) hg5); clear h5 hg5 hs
      go_wp2_with fail
      go_ret
      exact ⟨s, ⟨by omega, by omega⟩, rfl, H5.out.mono (by omega), HG5.out⟩
    · have c0 : ((n3 : Int) == 0) = false := by rw [h0]; rfl
      have c1 : ((n3 : Int) == 1) = true := by rw [h0]; rfl
      clear h0
      go_wp2_with fail
      go_ret
      exact ⟨_, ⟨by rw [ByteArray.size_append, size_one]; omega, by rw [ByteArray.size_append, size_one]; omega⟩, rfl, H3.out.mono (by omega), HG3.out⟩
    · have c0 : ((n3 : Int) == 0) = false := by rw [h0]; rfl
      have c1 : ((n3 : Int) == 1) = false := by rw [h0]; rfl
      have c2 : ((n3 : Int) == 2) = true := by rw [h0]; rfl
      clear h0
      go_wp2_with fail
      go_ret
      exact ⟨_, ⟨by rw [ByteArray.size_append, size_one]; omega, by rw [ByteArray.size_append, size_one]; omega⟩, rfl, H3.out.mono (by omega), HG3.out⟩
    · have c0 : ((n3 : Int) == 0) = false := by rw [h0]; rfl
      have c1 : ((n3 : Int) == 1) = false := by rw [h0]; rfl
      have c2 : ((n3 : Int) == 2) = false := by rw [h0]; rfl
      have c3 : ((n3 : Int) == 3) = true := by rw [h0]; rfl
      clear h0
      go_wp2_with fail
      refine (s_l2Some g (P + 1 + 1 + 1) _ (by omega) H3.out).mono ?_
      rintro e w5 ⟨s5, hs5, rfl, h5, hg5⟩
      have HS5 := Lib.hid hs5; have H5 := Lib.hid h5; have HG5 := Lib.hid (grown_trans HG3.out hg5); clear hs5 h5 hg5
      have hz5 : s5.size = 4 := HS5.out.1
      go_wp2_with fail
      go_ret
      exact ⟨_, ⟨by rw [ByteArray.size_append, size_one]; omega, by rw [ByteArray.size_append, size_one]; omega⟩, rfl, H5.out.mono (by omega), HG5.out⟩
    · have c0 : ((n3 : Int) == 0) = false := by rw [h0]; rfl
      have c1 : ((n3 : Int) == 1) = false := by rw [h0]; rfl
      have c2 : ((n3 : Int) == 2) = false := by rw [h0]; rfl
      have c3 : ((n3 : Int) == 3) = false := by rw [h0]; rfl
      have c4 : ((n3 : Int) == 4) = true := by rw [h0]; rfl
      clear h0
      go_wp2_with fail
      refine (s_l2Some g (P + 1 + 1 + 1) _ (by omega) H3.out).mono ?_
      rintro e w5 ⟨s5, hs5, rfl, h5, hg5⟩
      have HS5 := Lib.hid hs5; have H5 := Lib.hid h5; have HG5 := Lib.hid (grown_trans HG3.out hg5); clear hs5 h5 hg5
      have hz5 : s5.size = 4 := HS5.out.1
      go_wp2_with fail
      go_ret
      exact ⟨_, ⟨by rw [ByteArray.size_append, size_one]; omega, by rw [ByteArray.size_append, size_one]; omega⟩, rfl, H5.out.mono (by omega), HG5.out⟩
    · have c0 : ((n3 : Int) == 0) = false := by rw [beq_eq_false_iff_ne]; omega
      have c1 : ((n3 : Int) == 1) = false := by rw [beq_eq_false_iff_ne]; omega
      have c2 : ((n3 : Int) == 2) = false := by rw [beq_eq_false_iff_ne]; omega
      have c3 : ((n3 : Int) == 3) = false := by rw [beq_eq_false_iff_ne]; omega
      have c4 : ((n3 : Int) == 4) = false := by rw [beq_eq_false_iff_ne]; omega
      clear h0
      go_wp2_with fail
      refine (s_l2Some g (P + 1 + 1 + 1) _ (by omega) H3.out).mono ?_
      rintro e w5 ⟨s5, hs5, rfl, h5, hg5⟩
      have HS5 := Lib.hid hs5; have H5 := Lib.hid h5; have HG5 := Lib.hid (grown_trans HG3.out hg5); clear hs5 h5 hg5
      have hz5 : s5.size = 4 := HS5.out.1
      go_wp2_with fail
      go_ret
      exact ⟨_, ⟨by rw [ByteArray.size_append, size_one]; omega, by rw [ByteArray.size_append, size_one]; omega⟩, rfl, H5.out.mono (by omega), HG5.out⟩
  have b3 : decide ((n1 : Int) < 3) = false := decide_eq_false (by omega)
  by_cases k7 : n1 < 7
  · have b7 : decide ((n1 : Int) < 7) = true := decide_eq_true (by omega)
    clear k3 k7
    go_wp2_with fail
    refine (IH.out g (P + 1 + 1) b (z - 1) _ HZ.out (by omega) H2.out).mono ?_
    rintro e w3 ⟨s3, hs3, rfl, h3, hg3⟩
    have HS3 := Lib.hid hs3; have H3 := Lib.hid h3; have HG3 := Lib.hid (grown_trans HG2.out hg3); clear hs3 h3 hg3
    have y3 : s3.size ≤ 54 := by have := HS3.out.2; omega
    have x3 := HS3.out.2
    go_wp2_with fail
    refine (IH.out g (P + 1 + 1 + numD d) b (z - 1) _ HZ.out (by omega) H3.out).mono ?_
    rintro e w4 ⟨s4, hs4, rfl, h4, hg4⟩
    have HS4 := Lib.hid hs4; have H4 := Lib.hid h4; have HG4 := Lib.hid (grown_trans HG3.out hg4); clear hs4 h4 hg4
    have y4 : s4.size ≤ 54 := by have := HS4.out.2; omega
    have x4 := HS4.out.2
    go_wp2_with fail
    go_ret
    exact ⟨_, ⟨by simp only [ByteArray.size_append, size_one]; omega, by simp only [ByteArray.size_append, size_one]; show _ ≤ 2 * lenD d + 2; omega⟩, rfl, H4.out.mono (by show _ ≤ P + (2 * numD d + 12); omega), HG4.out⟩
  have b7 : decide ((n1 : Int) < 7) = false := decide_eq_false (by omega)
  by_cases k9 : n1 < 9
  · have b9 : decide ((n1 : Int) < 9) = true := decide_eq_true (by omega)
    clear k3 k7 k9
    go_wp2_with fail
    refine (IH.out g (P + 1 + 1) b (z - 1) _ HZ.out (by omega) H2.out).mono ?_
    rintro e w3 ⟨s3, hs3, rfl, h3, hg3⟩
    have HS3 := Lib.hid hs3; have H3 := Lib.hid h3; have HG3 := Lib.hid (grown_trans HG2.out hg3); clear hs3 h3 hg3
    have y3 : s3.size ≤ 54 := by have := HS3.out.2; omega
    have x3 := HS3.out.2
    go_wp2_with fail
    refine (IH.out g (P + 1 + 1 + numD d) b (z - 1) _ HZ.out (by omega) H3.out).mono ?_
    rintro e w4 ⟨s4, hs4, rfl, h4, hg4⟩
    have HS4 := Lib.hid hs4; have H4 := Lib.hid h4; have HG4 := Lib.hid (grown_trans HG3.out hg4); clear hs4 h4 hg4
    have y4 : s4.size ≤ 54 := by have := HS4.out.2; omega
    have x4 := HS4.out.2
    go_wp2_with fail
    go_ret
    exact ⟨_, ⟨by simp only [ByteArray.size_append, size_one]; omega, by simp only [ByteArray.size_append, size_one]; show _ ≤ 2 * lenD d + 2; omega⟩, rfl, H4.out.mono (by show _ ≤ P + (2 * numD d + 12); omega), HG4.out⟩
  have b9 : decide ((n1 : Int) < 9) = false := decide_eq_false (by omega)
  by_cases k11 : n1 < 11
  · have b11 : decide ((n1 : Int) < 11) = true := decide_eq_true (by omega)
    clear k3 k7 k9 k11
    go_wp2_with fail
    refine (IH.out g (P + 1 + 1) b (z - 1) _ HZ.out (by omega) H2.out).mono ?_
    rintro e w3 ⟨s3, hs3, rfl, h3, hg3⟩
    have HS3 := Lib.hid hs3; have H3 := Lib.hid h3; have HG3 := Lib.hid (grown_trans HG2.out hg3); clear hs3 h3 hg3
    have y3 : s3.size ≤ 54 := by have := HS3.out.2; omega
    have x3 := HS3.out.2
    go_wp2_with fail
    refine (IH.out g (P + 1 + 1 + numD d) b (z - 1) _ HZ.out (by omega) H3.out).mono ?_
    rintro e w4 ⟨s4, hs4, rfl, h4, hg4⟩
    have HS4 := Lib.hid hs4; have H4 := Lib.hid h4; have HG4 := Lib.hid (grown_trans HG3.out hg4); clear hs4 h4 hg4
    have y4 : s4.size ≤ 54 := by have := HS4.out.2; omega
    have x4 := HS4.out.2
    go_wp2_with fail
    go_ret
    exact ⟨_, ⟨by simp only [ByteArray.size_append, size_one]; omega, by simp only [ByteArray.size_append, size_one]; show _ ≤ 2 * lenD d + 2; omega⟩, rfl, H4.out.mono (by show _ ≤ P + (2 * numD d + 12); omega), HG4.out⟩
  have b11 : decide ((n1 : Int) < 11) = false := decide_eq_false (by omega)
  by_cases k13 : n1 < 13
  · have b13 : decide ((n1 : Int) < 13) = true := decide_eq_true (by omega)
    clear k3 k7 k9 k11 k13
    go_wp2_with fail
    refine (IH.out g (P + 1 + 1) b (z - 1) _ HZ.out (by omega) H2.out).mono ?_
    rintro e w3 ⟨s3, hs3, rfl, h3, hg3⟩
    have HS3 := Lib.hid hs3; have H3 := Lib.hid h3; have HG3 := Lib.hid (grown_trans HG2.out hg3); clear hs3 h3 hg3
    have y3 : s3.size ≤ 54 := by have := HS3.out.2; omega
    have x3 := HS3.out.2
    go_wp2_with fail
    refine (IH.out g (P + 1 + 1 + numD d) b (z - 1) _ HZ.out (by omega) H3.out).mono ?_
    rintro e w4 ⟨s4, hs4, rfl, h4, hg4⟩
    have HS4 := Lib.hid hs4; have H4 := Lib.hid h4; have HG4 := Lib.hid (grown_trans HG3.out hg4); clear hs4 h4 hg4
    have y4 : s4.size ≤ 54 := by have := HS4.out.2; omega
    have x4 := HS4.out.2
    go_wp2_with fail
    go_ret
    exact ⟨_, ⟨by simp only [ByteArray.size_append, size_one]; omega, by simp only [ByteArray.size_append, size_one]; show _ ≤ 2 * lenD d + 2; omega⟩, rfl, H4.out.mono (by show _ ≤ P + (2 * numD d + 12); omega), HG4.out⟩
  have b13 : decide ((n1 : Int) < 13) = false := decide_eq_false (by omega)
  cases b
  · clear k3 k7 k9 k11 k13
    go_wp2_with fail
    refine (IH.out g (P + 1 + 1) false (z - 1) _ HZ.out (by omega) H2.out).mono ?_
    rintro e w3 ⟨s3, hs3, rfl, h3, hg3⟩
    have HS3 := Lib.hid hs3; have H3 := Lib.hid h3; have HG3 := Lib.hid (grown_trans HG2.out hg3); clear hs3 h3 hg3
    have y3 : s3.size ≤ 54 := by have := HS3.out.2; omega
    have x3 := HS3.out.2
    go_wp2_with fail
    refine (IH.out g (P + 1 + 1 + numD d) false (z - 1) _ HZ.out (by omega) H3.out).mono ?_
    rintro e w4 ⟨s4, hs4, rfl, h4, hg4⟩
    have HS4 := Lib.hid hs4; have H4 := Lib.hid h4; have HG4 := Lib.hid (grown_trans HG3.out hg4); clear hs4 h4 hg4
    have y4 : s4.size ≤ 54 := by have := HS4.out.2; omega
    have x4 := HS4.out.2
    go_wp2_with fail
    go_ret
    exact ⟨_, ⟨by simp only [ByteArray.size_append, size_one]; omega, by simp only [ByteArray.size_append, size_one]; show _ ≤ 2 * lenD d + 2; omega⟩, rfl, H4.out.mono (by show _ ≤ P + (2 * numD d + 12); omega), HG4.out⟩
  by_cases k14 : n1 < 14
  · have b14 : decide ((n1 : Int) < 14) = true := decide_eq_true (by omega)
    clear k3 k7 k9 k11 k13 k14
    go_wp2_with fail
    refine (IH.out g (P + 1 + 1) true (z - 1) _ HZ.out (by omega) H2.out).mono ?_
    rintro e w3 ⟨s3, hs3, rfl, h3, hg3⟩
    have HS3 := Lib.hid hs3; have H3 := Lib.hid h3; have HG3 := Lib.hid (grown_trans HG2.out hg3); clear hs3 h3 hg3
    have y3 : s3.size ≤ 54 := by have := HS3.out.2; omega
    have x3 := HS3.out.2
    go_wp2_with fail
    go_ret
    exact ⟨_, ⟨by simp only [ByteArray.size_append, size_one]; omega, by simp only [ByteArray.size_append, size_one]; show _ ≤ 2 * lenD d + 2; omega⟩, rfl, H3.out.mono (by show _ ≤ P + (2 * numD d + 12); omega), HG3.out⟩
  · have b14 : decide ((n1 : Int) < 14) = false := decide_eq_false (by omega)
    clear k3 k7 k9 k11 k13 k14
    have hlt := H2.out.lt
    have hr := RowAt.fresh w2 9 (([⟨#[42]⟩, ⟨#[43]⟩] : List ByteArray).map Value.string).toArray
    have H4 := Lib.hid (H2.out.alloc (.cells (([⟨#[42]⟩, ⟨#[43]⟩] : List ByteArray).map Value.string).toArray 9)); have HR := Lib.hid hr
    clear hr
    go_wp2_with fail
    refine (s_of g (P + 1 + 1) w2.heap.size [⟨#[42]⟩, ⟨#[43]⟩] _ (by decide) (by decide) (by omega) H4.out (by omega) HR.out).mono ?_
    rintro e w5 ⟨v, ⟨s, hs, rfl⟩, rfl, h5, hg5⟩
    have hs1 : s.size = 1 := by
      simp only [List.mem_cons, List.not_mem_nil, or_false] at hs
      rcases hs with rfl | rfl <;> rfl
    have H5 := Lib.hid h5; have HG5 := Lib.hid (grown_trans (grown_alloc HG2.out _) hg5); clear h5 hg5 hs
    go_wp2_with fail
    refine (IH.out g (P + 1 + 1 + 1) true (z - 1) _ HZ.out (by omega) H5.out).mono ?_
    rintro e w6 ⟨s6, hs6, rfl, h6, hg6⟩
    have HS6 := Lib.hid hs6; have H6 := Lib.hid h6; have HG6 := Lib.hid (grown_trans HG5.out hg6); clear hs6 h6 hg6
    have y6 : s6.size ≤ 54 := by have := HS6.out.2; omega
    have x6 := HS6.out.2
    go_wp2_with fail
    go_ret
    exact ⟨_, ⟨by rw [ByteArray.size_append]; omega, by rw [ByteArray.size_append]; show _ ≤ 2 * lenD d + 2; omega⟩, rfl, H6.out.mono (by show _ ≤ P + (2 * numD d + 12); omega), HG6.out⟩
theorem s_l5Draw : ∀ (d : Nat), d ≤ 3 → ∀ (g P : Nat) (b : Bool) (z : Int) (w : World), z = (d : Int) → P + numD d ≤ 100000 → RdIn w g P → Calls Try.prog 239 #[.pointer (some ⟨g, 0, none⟩), .int .i64 z, .bool b] w (TxtPost w g (P + numD d) (CtS (lenD d)))
  | 0, _, g, P, b, z, w, hz, hp, h => by subst hz; exact s_l5Draw0 g P b w hp h
  | d + 1, hd, g, P, b, z, w, hz, hp, h => s_l5DrawS d (by omega) (s_l5Draw d (by omega)) g P b z w hz hp h
end Go.Proofs.Ytiaeakpgldpaiaa
