/- The drawers of arguments. -/
import Derived.Test.YtiaeakpgldpaiaaDrawE
namespace Go.Proofs.Ytiaeakpgldpaiaa
set_option linter.unusedSimpArgs false
set_option linter.unusedVariables false
set_option maxRecDepth 4000
open Go.RowKit

theorem results_tmp4 {fn : Func} {t u v x : Tmp} (h : fn.results = #[.tmp t, .tmp u, .tmp v, .tmp x]) (tmps : Array Value) (P : Program) (w : World) :
    (results fn tmps).run P w = .ok (.tuple #[tmps.getD t undef, tmps.getD u undef, tmps.getD v undef, tmps.getD x undef]) w := by
  simp [results, h]
theorem results_tmp5 {fn : Func} {t u v x y : Tmp} (h : fn.results = #[.tmp t, .tmp u, .tmp v, .tmp x, .tmp y]) (tmps : Array Value) (P : Program) (w : World) :
    (results fn tmps).run P w = .ok (.tuple #[tmps.getD t undef, tmps.getD u undef, tmps.getD v undef, tmps.getD x undef, tmps.getD y undef]) w := by
  simp [results, h]
/-- Bytes that came in. -/
def ByteIn (w : World) (a : Option Addr) (len cap : Nat) : Prop :=
  len ≤ cap ∧ cap ≤ maxLen ∧ (len = 0 ∨ ∃ b off, a = some ⟨b, off, none⟩ ∧ b < w.heap.size ∧ ∀ i, i < len → ∃ z : Nat, z < 256 ∧ w.cell? ⟨b, off + i, none⟩ = some (.int .u8 (z : Int)))
theorem wf_u8_out {n : Int} (h : (Lit.int .u8 n).wf = true) : 0 ≤ n ∧ n ≤ 255 := by
  simp [Lit.wf, IntKind.min, IntKind.max, IntKind.signed, IntKind.bits] at h
  omega
theorem ByteIn.of_row {w : World} {a : Option Addr} {len cap : Nat} {zs : List Int} (h : IsRow .u8 w a len cap zs) : ByteIn w a len cap := by
  obtain ⟨h1, h2, h3, h4⟩ := h.row
  refine ⟨h2, h3, ?_⟩
  rcases h4 with h4 | ⟨b, off, h5, h6, h7⟩
  · exact .inl h4
  · refine .inr ⟨b, off, h5, h6, fun i hi => ?_⟩
    have hc := h7 i hi
    rcases h with ⟨_, hl, _, _⟩ | ⟨x, _, h8, h9, h10, _, hwf⟩
    · omega
    · have hi' : i < zs.length := by omega
      have hg : (zs.take len).getD i 0 = zs[i] := by simp [List.getD, List.getElem?_take, hi, hi']
      obtain ⟨k1, k2⟩ := wf_u8_out (hwf zs[i] (List.getElem_mem hi'))
      refine ⟨zs[i].toNat, by omega, ?_⟩
      rw [hc, hg, Int.toNat_of_nonneg k1]
theorem s_l14Open (a : Option Addr) (len cap : Nat) (w : World) (hin : ByteIn w a len cap) : Calls Try.prog 94 #[.slice a len cap] w (fun e w' => e = .returned (.pointer (some ⟨w.heap.size, 0, none⟩)) ∧ RdIn w' w.heap.size 0 ∧ Below w.heap.size w w') := by
  obtain ⟨h1, h2, h3⟩ := hin
  have hml : cap ≤ 9223372036854775807 := by unfold maxLen at h2; omega
  have hrd : ∀ l c, l ≤ len → l ≤ 2000 → l ≤ c → c ≤ maxLen → RdIn (w.alloc (.cells #[.slice a l c, .int .i64 0] 111)) w.heap.size 0 := fun l c hl hl2 hlc hc => by
    refine ⟨0, Nat.le_refl _, a, l, c, RowAt.fresh w _ _, hl2, hlc, hc, ?_⟩
    rcases h3 with h3 | ⟨b, off, h5, h6, h7⟩
    · exact .inl (by omega)
    · refine .inr ⟨b, off, h5, h6, fun i hi => ?_⟩
      obtain ⟨z, hz, hc⟩ := h7 i (by omega)
      exact ⟨z, hz, (((Below.refl w.heap.size w).alloc (Nat.le_refl _) _).cell h6).trans hc⟩
  have hb : ∀ l c, Below w.heap.size w (w.alloc (.cells #[.slice a l c, .int .i64 0] 111)) := fun l c => (Below.refl _ _).alloc (Nat.le_refl _) _
  have HRD := Lib.hid hrd; have HB := Lib.hid hb; clear hrd hb h3
  by_cases hlt : 2000 < len
  · have hd : decide ((2000 : Int) < (len : Int)) = true := by simp; omega
    go_enter Try.func94, Try.ntmps94
    go_wp2_with fail
    go_ret
    exact ⟨rfl, HRD.out _ _ (by omega) (by omega) (by omega) (by omega), HB.out _ _⟩
  · have hd : decide ((2000 : Int) < (len : Int)) = false := by simp; omega
    go_enter Try.func94, Try.ntmps94
    go_wp2_with fail
    go_ret
    exact ⟨rfl, HRD.out _ _ (by omega) (by omega) (by omega) (by omega), HB.out _ _⟩
theorem drawn_below {w w0 w1 : World} {g : Nat} (hb : Below w.heap.size w w0) (hg : w0.grownBy w1 (some g)) (hgw : w.heap.size ≤ g) : Below w.heap.size w w1 :=
  hb.grown hg hb.size fun k hk => by cases hk; exact hgw
/-- A number and a text. -/
def CasePost (w : World) (g P : Nat) (e : Ending) (w' : World) : Prop := ∃ z s, Small s ∧ e = .returned (.tuple #[.int .i64 z, .string s]) ∧ RdIn w' g P ∧ w.grownBy w' (some g)
theorem small_dg {s : ByteArray} (h : Dg 4 s) : True := trivial
set_option maxHeartbeats 2000000 in
theorem s_l8Case (g P : Nat) (w : World) (hp : P + 27 ≤ 100000) (h : RdIn w g P) : Calls Try.prog 142 #[.pointer (some ⟨g, 0, none⟩)] w (CasePost w g (P + 27)) := by
  go_enter Try.func142, Try.ntmps142
  go_wp2_with fail
  refine (s_l1Some g P _ (by omega) h).mono ?_
  rintro e w1 ⟨z, rfl, h1, hg⟩
  have HG1 := Lib.hid hg; have H1 := Lib.hid h1; clear hg h1 h
  go_wp2_with fail
  refine (s_pickIn g (P + 2) 5 _ _ rfl (by omega) (by omega) (by omega) H1.out).mono ?_
  rintro e w2 ⟨c, hc, rfl, h2, hg2⟩
  have H2 := Lib.hid h2; have HG2 := Lib.hid (grown_trans HG1.out hg2)
  have hcs : c = 0 ∨ c = 1 ∨ 2 ≤ c := by omega
  have hlt := h2.lt
  clear h2 hg2
  rcases hcs with h0 | h0 | h0
  · have b0 : ((c : Int) == 0) = true := by rw [h0]; rfl
    have b1 : ((c : Int) == 1) = false := by rw [h0]; rfl
    have hr := RowAt.fresh w2 9 (([⟨#[50, 52, 56, 49]⟩, ⟨#[50, 52, 56, 56]⟩, ⟨#[49, 49, 50, 52]⟩, ⟨#[51, 54, 56, 56]⟩, ⟨#[102, 48, 48, 48]⟩] : List ByteArray).map Value.string).toArray
    have H3 := Lib.hid (H2.out.alloc (.cells (([⟨#[50, 52, 56, 49]⟩, ⟨#[50, 52, 56, 56]⟩, ⟨#[49, 49, 50, 52]⟩, ⟨#[51, 54, 56, 56]⟩, ⟨#[102, 48, 48, 48]⟩] : List ByteArray).map Value.string).toArray 9)); have HR := Lib.hid hr
    clear h0 hr
    go_wp2_with fail
    refine (s_of g (P + 2 + 1) w2.heap.size [⟨#[50, 52, 56, 49]⟩, ⟨#[50, 52, 56, 56]⟩, ⟨#[49, 49, 50, 52]⟩, ⟨#[51, 54, 56, 56]⟩, ⟨#[102, 48, 48, 48]⟩] _ (by decide) (by decide) (by omega) H3.out (by omega) HR.out).mono ?_
    rintro e w3 ⟨v, ⟨s, hs, rfl⟩, rfl, h3, hg3⟩
    have hs1 : Dg 4 s := by
      simp only [List.mem_cons, List.not_mem_nil, or_false] at hs
      rcases hs with rfl | rfl | rfl | rfl | rfl <;> exact ⟨rfl, by decide⟩
    have H4 := Lib.hid h3; have HG4 := Lib.hid (grown_trans (grown_alloc HG2.out _) hg3); have HS1 := Lib.hid hs1; clear h3 hg3 hs hs1
    go_wp2_with fail
    refine (s_l3Angel s _ HS1.out).mono ?_
    rintro e w' ⟨rfl, rfl⟩
    go_wp2_with fail
    refine (s_l3Bad g (P + 2 + 1 + 1) _ _ (by omega) (Dg.txt (fun i _ => fDia_lt _ _)) H4.out).mono ?_
    rintro e w5 ⟨s5, hs5, rfl, h5, hg5⟩
    have HS5 := Lib.hid hs5; have H5 := Lib.hid h5; have HG5 := Lib.hid (grown_trans HG4.out hg5); clear hs5 h5 hg5
    go_wp2_with fail
    go_ret2
    exact ⟨z, s5, HS5.out, rfl, H5.out.mono (by omega), HG5.out⟩
  · have b0 : ((c : Int) == 0) = false := by rw [h0]; rfl
    have b1 : ((c : Int) == 1) = true := by rw [h0]; rfl
    have hr := RowAt.fresh w2 9 (([⟨#[50, 52, 56, 56]⟩, ⟨#[54, 99, 56, 56]⟩, ⟨#[49, 49, 50, 52]⟩, ⟨#[56, 56, 56, 56]⟩] : List ByteArray).map Value.string).toArray
    have H3 := Lib.hid (H2.out.alloc (.cells (([⟨#[50, 52, 56, 56]⟩, ⟨#[54, 99, 56, 56]⟩, ⟨#[49, 49, 50, 52]⟩, ⟨#[56, 56, 56, 56]⟩] : List ByteArray).map Value.string).toArray 9)); have HR := Lib.hid hr
    clear h0 hr
    go_wp2_with fail
    refine (s_of g (P + 2 + 1) w2.heap.size [⟨#[50, 52, 56, 56]⟩, ⟨#[54, 99, 56, 56]⟩, ⟨#[49, 49, 50, 52]⟩, ⟨#[56, 56, 56, 56]⟩] _ (by decide) (by decide) (by omega) H3.out (by omega) HR.out).mono ?_
    rintro e w3 ⟨v, ⟨s, hs, rfl⟩, rfl, h3, hg3⟩
    have hs1 : Dg 4 s := by
      simp only [List.mem_cons, List.not_mem_nil, or_false] at hs
      rcases hs with rfl | rfl | rfl | rfl <;> exact ⟨rfl, by decide⟩
    have H4 := Lib.hid h3; have HG4 := Lib.hid (grown_trans (grown_alloc HG2.out _) hg3); have HS1 := Lib.hid hs1; clear h3 hg3 hs hs1
    go_wp2_with fail
    refine (s_l3Angel s _ HS1.out).mono ?_
    rintro e w' ⟨rfl, rfl⟩
    go_wp2_with fail
    refine (s_l3Dual _ _ (Dg.txt (fun i _ => fDia_lt _ _))).mono ?_
    rintro e w' ⟨rfl, rfl⟩
    go_wp2_with fail
    refine (s_l3Bad g (P + 2 + 1 + 1) _ _ (by omega) (Dg.txt (fun i _ => andn_lt (by omega))) H4.out).mono ?_
    rintro e w5 ⟨s5, hs5, rfl, h5, hg5⟩
    have HS5 := Lib.hid hs5; have H5 := Lib.hid h5; have HG5 := Lib.hid (grown_trans HG4.out hg5); clear hs5 h5 hg5
    go_wp2_with fail
    go_ret2
    exact ⟨z, s5, HS5.out, rfl, H5.out.mono (by omega), HG5.out⟩
  · have b0 : ((c : Int) == 0) = false := by rw [beq_eq_false_iff_ne]; omega
    have b1 : ((c : Int) == 1) = false := by rw [beq_eq_false_iff_ne]; omega
    clear h0
    go_wp2_with fail
    refine (s_l4Open g (P + 2 + 1) _ (by omega) H2.out).mono ?_
    rintro e w5 ⟨s5, hs5, rfl, h5, hg5⟩
    have HS5 := Lib.hid hs5; have H5 := Lib.hid h5; have HG5 := Lib.hid (grown_trans HG2.out hg5); clear hs5 h5 hg5
    go_wp2_with fail
    go_ret2
    exact ⟨z, s5, HS5.out, rfl, H5.out.mono (by omega), HG5.out⟩
theorem s_DrawAngelStar (a : Option Addr) (len cap : Nat) (w : World) (hin : ByteIn w a len cap) : Calls Try.prog 33 #[.slice a len cap] w (fun e w' => (∃ s, Small s ∧ e = .returned (.string s)) ∧ Below w.heap.size w w') := by
  go_enter Try.func33, Try.ntmps33
  go_wp2_with fail
  refine (s_l14Open a len cap _ hin).mono ?_
  rintro e w0 ⟨rfl, h0, hb0⟩
  have H0 := Lib.hid h0; have HB0 := Lib.hid hb0; have HG0 := Lib.hid (World.grownBy.refl w0 (some w.heap.size)); clear h0 hb0 hin
  go_wp2_with fail
  refine (s_l4Open w.heap.size 0 _ (by omega) H0.out).mono ?_
  rintro e w1 ⟨s1, hs1, rfl, h1, hg1⟩
  have HS1 := Lib.hid hs1; have H1 := Lib.hid h1; have HG1 := Lib.hid (grown_trans HG0.out hg1); clear hs1 h1 hg1
  go_wp2_with fail
  go_ret
  exact ⟨⟨s1, HS1.out, rfl⟩, drawn_below HB0.out HG1.out (Nat.le_refl _)⟩
theorem s_DrawDemonOmega (a : Option Addr) (len cap : Nat) (w : World) (hin : ByteIn w a len cap) : Calls Try.prog 43 #[.slice a len cap] w (fun e w' => (∃ s, Small s ∧ e = .returned (.string s)) ∧ Below w.heap.size w w') := by
  go_enter Try.func43, Try.ntmps43
  go_wp2_with fail
  refine (s_l14Open a len cap _ hin).mono ?_
  rintro e w0 ⟨rfl, h0, hb0⟩
  have H0 := Lib.hid h0; have HB0 := Lib.hid hb0; have HG0 := Lib.hid (World.grownBy.refl w0 (some w.heap.size)); clear h0 hb0 hin
  go_wp2_with fail
  refine (s_l4Open w.heap.size 0 _ (by omega) H0.out).mono ?_
  rintro e w1 ⟨s1, hs1, rfl, h1, hg1⟩
  have HS1 := Lib.hid hs1; have H1 := Lib.hid h1; have HG1 := Lib.hid (grown_trans HG0.out hg1); clear hs1 h1 hg1
  go_wp2_with fail
  go_ret
  exact ⟨⟨s1, HS1.out, rfl⟩, drawn_below HB0.out HG1.out (Nat.le_refl _)⟩
theorem s_DrawWhileTrans (a : Option Addr) (len cap : Nat) (w : World) (hin : ByteIn w a len cap) : Calls Try.prog 71 #[.slice a len cap] w (fun e w' => (∃ z s, Small s ∧ e = .returned (.tuple #[.int .i64 z, .string s])) ∧ Below w.heap.size w w') := by
  go_enter Try.func71, Try.ntmps71
  go_wp2_with fail
  refine (s_l14Open a len cap _ hin).mono ?_
  rintro e w0 ⟨rfl, h0, hb0⟩
  have H0 := Lib.hid h0; have HB0 := Lib.hid hb0; have HG0 := Lib.hid (World.grownBy.refl w0 (some w.heap.size)); clear h0 hb0 hin
  go_wp2_with fail
  refine (s_l8Case w.heap.size 0 _ (by omega) H0.out).mono ?_
  rintro e w1 ⟨z1, s1, hs1, rfl, h1, hg1⟩
  have HS1 := Lib.hid hs1; have H1 := Lib.hid h1; have HG1 := Lib.hid (grown_trans HG0.out hg1); clear hs1 h1 hg1
  go_wp2_with fail
  go_ret2
  exact ⟨⟨z1, s1, HS1.out, rfl⟩, drawn_below HB0.out HG1.out (Nat.le_refl _)⟩
theorem s_DrawWeakestInvariant (a : Option Addr) (len cap : Nat) (w : World) (hin : ByteIn w a len cap) : Calls Try.prog 154 #[.slice a len cap] w (fun e w' => (∃ z s q, Small s ∧ e = .returned (.tuple #[.int .i64 z, .string s, .int .i64 q])) ∧ Below w.heap.size w w') := by
  go_enter Try.func154, Try.ntmps154
  go_wp2_with fail
  refine (s_l14Open a len cap _ hin).mono ?_
  rintro e w0 ⟨rfl, h0, hb0⟩
  have H0 := Lib.hid h0; have HB0 := Lib.hid hb0; have HG0 := Lib.hid (World.grownBy.refl w0 (some w.heap.size)); clear h0 hb0 hin
  go_wp2_with fail
  refine (s_l8Case w.heap.size 0 _ (by omega) H0.out).mono ?_
  rintro e w1 ⟨z1, s1, hs1, rfl, h1, hg1⟩
  have HS1 := Lib.hid hs1; have H1 := Lib.hid h1; have HG1 := Lib.hid (grown_trans HG0.out hg1); clear hs1 h1 hg1
  go_wp2_with fail
  refine (s_l1Some w.heap.size (0 + 27) _ (by omega) H1.out).mono ?_
  rintro e w2 ⟨z2, rfl, h2, hg2⟩
  have H2 := Lib.hid h2; have HG2 := Lib.hid (grown_trans HG1.out hg2); clear h2 hg2
  go_wp2_with fail
  go_ret3
  exact ⟨⟨z1, s1, z2, HS1.out, rfl⟩, drawn_below HB0.out HG2.out (Nat.le_refl _)⟩
theorem s_DrawFindProof (a : Option Addr) (len cap : Nat) (w : World) (hin : ByteIn w a len cap) : Calls Try.prog 66 #[.slice a len cap] w (fun e w' => (∃ z s q, Small s ∧ e = .returned (.tuple #[.int .i64 z, .string s, .int .i64 q])) ∧ Below w.heap.size w w') := by
  go_enter Try.func66, Try.ntmps66
  go_wp2_with fail
  refine (s_DrawWeakestInvariant a len cap _ hin).mono ?_
  rintro e w0 ⟨⟨z, s, q, hs, rfl⟩, hb⟩
  go_wp2_with fail
  go_ret3
  exact ⟨⟨z, s, q, hs, rfl⟩, hb⟩
end Go.Proofs.Ytiaeakpgldpaiaa
