/- Draws of numbers, of texts from a list, of relations and transformers. -/
import Derived.Test.YtiaeakpgldpaiaaDrawA
import Derived.Test.YtiaeakpgldpaiaaSpecG
namespace Go.Proofs.Ytiaeakpgldpaiaa
set_option linter.unusedSimpArgs false
set_option linter.unusedVariables false
set_option maxRecDepth 4000
open Go.RowKit

/-- The drawer after at most P draws. -/
def RdIn (w : World) (g P : Nat) : Prop := ∃ p, p ≤ P ∧ RdAt w g p
theorem RdIn.mono {w : World} {g P Q : Nat} (h : RdIn w g P) (hq : P ≤ Q) : RdIn w g Q := by obtain ⟨p, h1, h2⟩ := h; exact ⟨p, by omega, h2⟩
theorem RdIn.later {w w' : World} {g P : Nat} (h : RdIn w g P) (hb : Below w.heap.size w w') : RdIn w' g P := by obtain ⟨p, h1, h2⟩ := h; exact ⟨p, h1, h2.later hb⟩
theorem RdIn.lt {w : World} {g P : Nat} (h : RdIn w g P) : g < w.heap.size := by obtain ⟨p, h1, h2⟩ := h; exact h2.lt
theorem RdIn.alloc {w : World} {g P : Nat} (h : RdIn w g P) (o : Obj) : RdIn (w.alloc o) g P := h.later ((Below.refl _ _).alloc (Nat.le_refl _) _)
/-- A number below n. -/
def NumPost (w : World) (g P n : Nat) (e : Ending) (w' : World) : Prop := ∃ k : Nat, k < n ∧ e = .returned (.int .i64 (k : Int)) ∧ RdIn w' g (P + 1) ∧ w.grownBy w' (some g)
theorem s_pickIn (g P n : Nat) (z : Int) (w : World) (hz : z = (n : Int)) (hn : 1 ≤ n) (hn2 : n ≤ 100000) (hp : P ≤ 100000) (h : RdIn w g P) : Calls Try.prog 108 #[.pointer (some ⟨g, 0, none⟩), .int .i64 z] w (NumPost w g P n) := by
  obtain ⟨p, h1, h2⟩ := h
  exact (s_pick g p n z w hz hn hn2 (by omega) h2).mono fun e w' ⟨k, hk, he, hr, hg⟩ => ⟨k, hk, he, ⟨p + 1, by omega, hr⟩, hg⟩
/-- A number of a list. -/
def OfPost (w : World) (g P : Nat) (A : Value → Prop) (e : Ending) (w' : World) : Prop := ∃ v, A v ∧ e = .returned v ∧ RdIn w' g (P + 1) ∧ w.grownBy w' (some g)
theorem s_num (g P b : Nat) (zs : List Int) (w : World) (hn : 1 ≤ zs.length) (hn2 : zs.length ≤ 1000) (hp : P ≤ 100000) (h : RdIn w g P) (hb : b ≠ g) (hr : RowAt w b 3 (zs.map (Value.int .i64)).toArray) : Calls Try.prog 218 #[.pointer (some ⟨g, 0, none⟩), .slice (some ⟨b, 0, none⟩) zs.length zs.length] w (OfPost w g P (fun v => ∃ z, z ∈ zs ∧ v = .int .i64 z)) := by
  go_enter Try.func218, Try.ntmps218
  go_wp2_with fail
  refine (s_pickIn g P zs.length _ _ rfl hn (by omega) hp h).mono ?_
  rintro e w1 ⟨k, hk, rfl, h1, hg⟩
  have hz : zs[k]? = some zs[k] := List.getElem?_eq_getElem hk
  have c1 : w1.cell? ⟨b, k, none⟩ = some (.int .i64 zs[k]) := ((hr.grownR hg (fun e => hb (by injection e with e; exact e.symm))).get k).trans (by simp [hz])
  have i1 := lt_cast hk
  have H1 := Lib.hid h1; have HG := Lib.hid hg; clear h1 hg hz
  go_wp2_with fail
  go_ret
  exact ⟨_, ⟨zs[k], List.getElem_mem hk, rfl⟩, rfl, H1.out, HG.out⟩
theorem s_of (g P b : Nat) (ts : List ByteArray) (w : World) (hn : 1 ≤ ts.length) (hn2 : ts.length ≤ 1000) (hp : P ≤ 100000) (h : RdIn w g P) (hb : b ≠ g) (hr : RowAt w b 9 (ts.map Value.string).toArray) : Calls Try.prog 216 #[.pointer (some ⟨g, 0, none⟩), .slice (some ⟨b, 0, none⟩) ts.length ts.length] w (OfPost w g P (fun v => ∃ t, t ∈ ts ∧ v = .string t)) := by
  go_enter Try.func216, Try.ntmps216
  go_wp2_with fail
  refine (s_pickIn g P ts.length _ _ rfl hn (by omega) hp h).mono ?_
  rintro e w1 ⟨k, hk, rfl, h1, hg⟩
  have hz : ts[k]? = some ts[k] := List.getElem?_eq_getElem hk
  have c1 : w1.cell? ⟨b, k, none⟩ = some (.string ts[k]) := ((hr.grownR hg (fun e => hb (by injection e with e; exact e.symm))).get k).trans (by simp [hz])
  have i1 := lt_cast hk
  have H1 := Lib.hid h1; have HG := Lib.hid hg; clear h1 hg hz
  go_wp2_with fail
  go_ret
  exact ⟨_, ⟨ts[k], List.getElem_mem hk, rfl⟩, rfl, H1.out, HG.out⟩
/-- Some number; some text of a kind. -/
def IntPost (w : World) (g P : Nat) (e : Ending) (w' : World) : Prop := ∃ z : Int, e = .returned (.int .i64 z) ∧ RdIn w' g P ∧ w.grownBy w' (some g)
def TxtPost (w : World) (g P : Nat) (A : ByteArray → Prop) (e : Ending) (w' : World) : Prop := ∃ s, A s ∧ e = .returned (.string s) ∧ RdIn w' g P ∧ w.grownBy w' (some g)
theorem s_l1Some (g P : Nat) (w : World) (hp : P + 2 ≤ 100000) (h : RdIn w g P) : Calls Try.prog 143 #[.pointer (some ⟨g, 0, none⟩)] w (IntPost w g (P + 2)) := by
  go_enter Try.func143, Try.ntmps143
  go_wp2_with fail
  refine (s_pickIn g P 24 _ _ rfl (by omega) (by omega) (by omega) h).mono ?_
  rintro e w1 ⟨k, hk, rfl, h1, hg⟩
  have HG := Lib.hid hg; clear hg
  by_cases h0 : k = 0
  · have b0 : ((k : Int) == 0) = true := by simp [h0]
    have hr := RowAt.fresh w1 3 (([-1, 16, 9223372036854775807] : List Int).map (Value.int .i64)).toArray
    have hlt := h1.lt
    have H1 := Lib.hid (h1.alloc (.cells (([-1, 16, 9223372036854775807] : List Int).map (Value.int .i64)).toArray 3)); have HR := Lib.hid hr
    clear h0 hr h1
    go_wp2_with fail
    refine (s_num g (P + 1) w1.heap.size [-1, 16, 9223372036854775807] _ (by decide) (by decide) (by omega) H1.out (by omega) HR.out).mono ?_
    rintro e w2 ⟨v, ⟨z, _, rfl⟩, rfl, h2, hg2⟩
    have H2 := Lib.hid h2; have HG2 := Lib.hid hg2; clear h2 hg2
    go_wp2_with fail
    go_ret
    exact ⟨_, rfl, H2.out, grown_trans (grown_alloc HG.out _) HG2.out⟩
  · have b0 : ((k : Int) == 0) = false := by rw [beq_eq_false_iff_ne]; omega
    have H1 := Lib.hid h1; clear h0 h1
    go_wp2_with fail
    refine (s_pickIn g (P + 1) 16 _ _ rfl (by omega) (by omega) (by omega) H1.out).mono ?_
    rintro e w2 ⟨j, hj, rfl, h2, hg2⟩
    have H2 := Lib.hid h2; have HG2 := Lib.hid hg2; clear h2 hg2
    go_wp2_with fail
    go_ret
    exact ⟨_, rfl, H2.out, grown_trans HG.out HG2.out⟩
theorem hexChr_dig (s : ByteArray) (n : Nat) (k : Nat) (h : Dg k s) (hn : n < 16) : Dg (k + 1) (s ++ (⟨#[hexChr n]⟩ : ByteArray)) := by
  have e : s ++ (⟨#[hexChr n]⟩ : ByteArray) = txt (k + 1) (fun i => if i < k then dig s i else n) := by
    rw [← txt_snoc k (fun i => if i < k then dig s i else n)]
    congr 1
    · rw [txt_congr (n := k) (F := fun i => if i < k then dig s i else n) (G := dig s) fun i hi => by rw [if_pos hi], txt_of s k h.1 h.2]
    · rw [if_neg (Nat.lt_irrefl k)]
  rw [e]
  exact Dg.txt fun i _ => by split; exact dig_lt _ _; exact hn
theorem Dg_nil : Dg 0 ⟨#[]⟩ := ⟨rfl, rfl⟩
theorem Dg_size {k : Nat} {s : ByteArray} (h : Dg k s) : s.size = k := h.1
set_option maxHeartbeats 2000000 in
theorem s_l2Some (g P : Nat) (w : World) (hp : P + 9 ≤ 100000) (h : RdIn w g P) : Calls Try.prog 109 #[.pointer (some ⟨g, 0, none⟩)] w (TxtPost w g (P + 9) (Dg 4)) := by
  go_enter Try.func109, Try.ntmps109
  go_wp2_with fail
  refine (s_pickIn g P 4 _ _ rfl (by omega) (by omega) (by omega) h).mono ?_
  rintro e w1 ⟨c, hc, rfl, h1, hg⟩
  have HG := Lib.hid hg; have H1 := Lib.hid h1; clear hg h1
  have hcs : c = 0 ∨ c = 1 ∨ (c ≠ 0 ∧ c ≠ 1) := by omega
  rcases hcs with h0 | h0 | h0
  · have b0 : ((c : Int) == 0) = true := by simp [h0]
    have b1 : ((c : Int) == 1) = false := by simp [h0]
    clear h0
    go_wp2_with fail
    go_loopw [3, 5] (fun o i wr => ∃ (k : Nat) (s : ByteArray), k ≤ 4 ∧ i = .int .i64 k ∧ o = .string s ∧ Hid (Dg k s) ∧ Hid (RdIn wr g (P + 1 + 2 * k)) ∧ Hid (w.grownBy wr (some g))) (fun _ i _ => 4 - (intOf i).toNat)
    case atStart => exact ⟨0, ⟨#[]⟩, by omega, rfl, rfl, Lib.hid Dg_nil, H1, HG⟩
    case round =>
      obtain ⟨k, s, hk, rfl, rfl, HD, HRD, HGR⟩ := hrel
      by_cases hlt : k < 4
      · have hsz : s.size ≤ 4 := by have := Dg_size HD.out; omega
        go_wp2_with fail
        refine (s_pickIn g (P + 1 + 2 * k) 16 _ _ rfl (by omega) (by omega) (by omega) HRD.out).mono ?_
        rintro e w2 ⟨n, hn, rfl, h2, hg2⟩
        have H2 := Lib.hid h2
        have HG2 := Lib.hid (grown_trans HGR.out hg2)
        clear h2 hg2
        go_wp2_with fail
        refine (s_pickIn g (P + 1 + 2 * k + 1) 4 _ _ rfl (by omega) (by omega) (by omega) H2.out).mono ?_
        rintro e w3 ⟨m, hm, rfl, h3, hg3⟩
        have H3 := Lib.hid h3
        have HG3 := Lib.hid (grown_trans HG2.out hg3)
        clear h3 hg3
        have hw := wrap_one (t := m) (by omega)
        have ho := one_lt hm
        have HD' := Lib.hid (hexChr_dig s (one m) k HD.out ho)
        go_wp2_with fail
        refine (s_l2Digit _ _ ho).mono ?_
        rintro e w' ⟨rfl, rfl⟩
        go_wp2_with fail
        go_roundw
        case rel => exact ⟨k + 1, _, by omega, by go_num, rfl, HD', Lib.hid (H3.out.mono (by omega)), HG3⟩
        case measure => simp [intOf]; omega
      · obtain rfl : k = 4 := by omega
        go_wp2_with fail
        go_ret
        exact ⟨s, HD.out, rfl, HRD.out.mono (by omega), HGR.out⟩
  · have b0 : ((c : Int) == 0) = false := by simp [h0]
    have b1 : ((c : Int) == 1) = true := by simp [h0]
    clear h0
    go_wp2_with fail
    go_loopw [3, 5] (fun o i wr => ∃ (k : Nat) (s : ByteArray), k ≤ 4 ∧ i = .int .i64 k ∧ o = .string s ∧ Hid (Dg k s) ∧ Hid (RdIn wr g (P + 1 + 2 * k)) ∧ Hid (w.grownBy wr (some g))) (fun _ i _ => 4 - (intOf i).toNat)
    case atStart => exact ⟨0, ⟨#[]⟩, by omega, rfl, rfl, Lib.hid Dg_nil, H1, HG⟩
    case round =>
      obtain ⟨k, s, hk, rfl, rfl, HD, HRD, HGR⟩ := hrel
      by_cases hlt : k < 4
      · have hsz : s.size ≤ 4 := by have := Dg_size HD.out; omega
        go_wp2_with fail
        refine (s_pickIn g (P + 1 + 2 * k) 16 _ _ rfl (by omega) (by omega) (by omega) HRD.out).mono ?_
        rintro e w2 ⟨n, hn, rfl, h2, hg2⟩
        have H2 := Lib.hid h2
        have HG2 := Lib.hid (grown_trans HGR.out hg2)
        clear h2 hg2
        go_wp2_with fail
        refine (s_pickIn g (P + 1 + 2 * k + 1) 16 _ _ rfl (by omega) (by omega) (by omega) H2.out).mono ?_
        rintro e w3 ⟨m, hm, rfl, h3, hg3⟩
        have H3 := Lib.hid h3
        have HG3 := Lib.hid (grown_trans HG2.out hg3)
        clear h3 hg3
        have e1 := bits_and_nat n m (by omega) (by omega)
        have ho : n &&& m < 16 := and_lt hn
        have HD' := Lib.hid (hexChr_dig s (n &&& m) k HD.out ho)
        go_wp2_with fail
        refine (s_l2Digit _ _ ho).mono ?_
        rintro e w' ⟨rfl, rfl⟩
        go_wp2_with fail
        go_roundw
        case rel => exact ⟨k + 1, _, by omega, by go_num, rfl, HD', Lib.hid (H3.out.mono (by omega)), HG3⟩
        case measure => simp [intOf]; omega
      · obtain rfl : k = 4 := by omega
        go_wp2_with fail
        go_ret
        exact ⟨s, HD.out, rfl, HRD.out.mono (by omega), HGR.out⟩
  · have b0 : ((c : Int) == 0) = false := by rw [beq_eq_false_iff_ne]; omega
    have b1 : ((c : Int) == 1) = false := by rw [beq_eq_false_iff_ne]; omega
    clear h0
    go_wp2_with fail
    go_loopw [3, 5] (fun o i wr => ∃ (k : Nat) (s : ByteArray), k ≤ 4 ∧ i = .int .i64 k ∧ o = .string s ∧ Hid (Dg k s) ∧ Hid (RdIn wr g (P + 1 + 2 * k)) ∧ Hid (w.grownBy wr (some g))) (fun _ i _ => 4 - (intOf i).toNat)
    case atStart => exact ⟨0, ⟨#[]⟩, by omega, rfl, rfl, Lib.hid Dg_nil, H1, HG⟩
    case round =>
      obtain ⟨k, s, hk, rfl, rfl, HD, HRD, HGR⟩ := hrel
      by_cases hlt : k < 4
      · have hsz : s.size ≤ 4 := by have := Dg_size HD.out; omega
        go_wp2_with fail
        refine (s_pickIn g (P + 1 + 2 * k) 16 _ _ rfl (by omega) (by omega) (by omega) HRD.out).mono ?_
        rintro e w2 ⟨n, hn, rfl, h2, hg2⟩
        have H2 := Lib.hid h2
        have HG2 := Lib.hid (grown_trans HGR.out hg2)
        clear h2 hg2
        have H3 := H2
        have HG3 := HG2
        have HD' := Lib.hid (hexChr_dig s n k HD.out hn)
        go_wp2_with fail
        refine (s_l2Digit _ _ hn).mono ?_
        rintro e w' ⟨rfl, rfl⟩
        go_wp2_with fail
        go_roundw
        case rel => exact ⟨k + 1, _, by omega, by go_num, rfl, HD', Lib.hid (H3.out.mono (by omega)), HG3⟩
        case measure => simp [intOf]; omega
      · obtain rfl : k = 4 := by omega
        go_wp2_with fail
        go_ret
        exact ⟨s, HD.out, rfl, HRD.out.mono (by omega), HGR.out⟩
end Go.Proofs.Ytiaeakpgldpaiaa
