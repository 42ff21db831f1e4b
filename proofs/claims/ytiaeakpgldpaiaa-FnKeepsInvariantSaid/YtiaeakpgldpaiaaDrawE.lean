/- Draws of texts that are sometimes no transformers. -/
import Derived.Test.YtiaeakpgldpaiaaDrawD
namespace Go.Proofs.Ytiaeakpgldpaiaa
set_option linter.unusedSimpArgs false
set_option linter.unusedVariables false
set_option maxRecDepth 4000
open Go.RowKit

/-- A text of no great size. -/
def Small (s : ByteArray) : Prop := s.size ≤ 1000
set_option maxHeartbeats 2000000 in
theorem s_l3Bad (g P : Nat) (t : ByteArray) (w : World) (hp : P + 3 ≤ 100000) (ht : Dg 16 t) (h : RdIn w g P) : Calls Try.prog 206 #[.pointer (some ⟨g, 0, none⟩), .string t] w (TxtPost w g (P + 3) Small) := by
  have hsz : t.size = 16 := ht.1
  clear ht
  go_enter Try.func206, Try.ntmps206
  go_wp2_with fail
  refine (s_pickIn g P 40 _ _ rfl (by omega) (by omega) (by omega) h).mono ?_
  rintro e w1 ⟨c, hc, rfl, h1, hg⟩
  have HG := Lib.hid hg; have H1 := Lib.hid h1; clear hg h1
  have hcs : c = 0 ∨ c = 1 ∨ c = 2 ∨ 3 ≤ c := by omega
  rcases hcs with h0 | h0 | h0 | h0
  · have b0 : ((c : Int) == 0) = true := by rw [h0]; rfl
    clear h0
    go_wp2_with fail
    go_ret
    exact ⟨_, by unfold Small; rw [ByteArray.size_append, hsz]; decide, rfl, H1.out.mono (by omega), HG.out⟩
  · have b0 : ((c : Int) == 0) = false := by rw [h0]; rfl
    have b1 : ((c : Int) == 1) = true := by rw [h0]; rfl
    clear h0
    go_wp2_with fail
    go_ret
    exact ⟨_, by unfold Small; rw [ByteArray.size_extract]; omega, rfl, H1.out.mono (by omega), HG.out⟩
  · have b0 : ((c : Int) == 0) = false := by rw [h0]; rfl
    have b1 : ((c : Int) == 1) = false := by rw [h0]; rfl
    have b2 : ((c : Int) == 2) = true := by rw [h0]; rfl
    clear h0
    go_wp2_with fail
    refine (s_pickIn g (P + 1) 16 _ _ rfl (by omega) (by omega) (by omega) H1.out).mono ?_
    rintro e w2 ⟨k, hk, rfl, h2, hg2⟩
    have H2 := Lib.hid h2; have HG2 := Lib.hid (grown_trans HG.out hg2); clear h2 hg2
    go_wp2_with fail
    have hw : IntKind.i64.wrap ((k : Int) + 1) = (k : Int) + 1 := IntWalk.i64_in _ ⟨by omega, by omega⟩
    refine wp_region_held_drew (S := fun w3 => True) (by kernel_rfl) (trivial) (fun hS => ?_)
    simp only [List.size_toArray, List.length_cons, List.length_nil, Nat.zero_add, Nat.reduceAdd, Array.replicate_succ, Array.replicate_zero, List.push_toArray, List.append_toArray, List.nil_append, List.cons_append]
    refine wpAnyH_take (i := 0) (v := .string t) rfl (by kernel_rfl) (by kernel_rfl) (by kernel_rfl) (fun _ _ _ h => h) (Or.inl ⟨by rfl, fun w2 h2 => by (first | rfl | go_simp)⟩) (by assumption) ?_
    simp only [Act.put, List.getElem_toArray, List.getElem_cons_zero, List.getElem_cons_succ, List.setIfInBounds_toArray, List.set_cons_zero, List.set_cons_succ]
    refine wpAnyH_take (i := 1) (v := .int .i64 (k : Int)) rfl (by kernel_rfl) (by kernel_rfl) (by kernel_rfl) (fun _ _ _ h => h) (Or.inl ⟨by rfl, fun w2 h2 => by (first | rfl | go_simp)⟩) (by assumption) ?_
    simp only [Act.put, List.getElem_toArray, List.getElem_cons_zero, List.getElem_cons_succ, List.setIfInBounds_toArray, List.set_cons_zero, List.set_cons_succ]
    refine wpAnyH_take (i := 3) (v := .pointer (some ⟨g, 0, none⟩)) rfl (by kernel_rfl) (by kernel_rfl) (by kernel_rfl) (fun _ _ _ h => h) (Or.inl ⟨by rfl, fun w2 h2 => by (first | rfl | go_simp)⟩) (by assumption) ?_
    simp only [Act.put, List.getElem_toArray, List.getElem_cons_zero, List.getElem_cons_succ, List.setIfInBounds_toArray, List.set_cons_zero, List.set_cons_succ]
    refine wpAnyH_take (i := 7) (v := .string t) rfl (by kernel_rfl) (by kernel_rfl) (by kernel_rfl) (fun _ _ _ h => h) (Or.inl ⟨by rfl, fun w2 h2 => by (first | rfl | go_simp)⟩) (by assumption) ?_
    simp only [Act.put, List.getElem_toArray, List.getElem_cons_zero, List.getElem_cons_succ, List.setIfInBounds_toArray, List.set_cons_zero, List.set_cons_succ]
    refine wpAnyH_take (i := 8) (v := .int .i64 (k : Int)) rfl (by kernel_rfl) (by kernel_rfl) (by kernel_rfl) (fun _ _ _ h => h) (Or.inl ⟨by rfl, fun w2 h2 => by (first | rfl | go_simp)⟩) (by assumption) ?_
    simp only [Act.put, List.getElem_toArray, List.getElem_cons_zero, List.getElem_cons_succ, List.setIfInBounds_toArray, List.set_cons_zero, List.set_cons_succ]
    refine wpAnyH_take (i := 9) (v := .int .i64 ((k : Int) + 1)) rfl (by kernel_rfl) (by kernel_rfl) (by kernel_rfl) (fun _ _ _ h => h) (Or.inl ⟨by rfl, fun w2 h2 => by (first | rfl | go_simp)⟩) (by assumption) ?_
    simp only [Act.put, List.getElem_toArray, List.getElem_cons_zero, List.getElem_cons_succ, List.setIfInBounds_toArray, List.set_cons_zero, List.set_cons_succ]
    refine wpAnyH_take (i := 2) (v := .string (t.extract 0 k)) rfl (by kernel_rfl) (by kernel_rfl) (by kernel_rfl) (fun _ _ _ h => h) (Or.inl ⟨by rfl, fun w2 h2 => by (go_simp; intro hc; omega)⟩) (by assumption) ?_
    simp only [Act.put, List.getElem_toArray, List.getElem_cons_zero, List.getElem_cons_succ, List.setIfInBounds_toArray, List.set_cons_zero, List.set_cons_succ]
    refine wpAnyH_take (i := 10) (v := .string (t.extract (k + 1) 16)) rfl (by kernel_rfl) (by kernel_rfl) (by kernel_rfl) (fun _ _ _ h => h) (Or.inl ⟨by rfl, fun w2 h2 => by (go_simp; intro hc; have := hc (by omega); omega)⟩) (by assumption) ?_
    simp only [Act.put, List.getElem_toArray, List.getElem_cons_zero, List.getElem_cons_succ, List.setIfInBounds_toArray, List.set_cons_zero, List.set_cons_succ]
    refine wpAnyH_ready (rs := [4]) (by kernel_rfl) (by simp) ?_
    refine AllReadyH.cons rfl (fun K hK => ?_) AllReadyH.nil
    rw [if_pos (by rfl)]
    go_simp
    refine hK _ _ trivial (fun _ => ?_)
    simp only [Act.put, List.getElem_toArray, List.getElem_cons_zero, List.getElem_cons_succ, List.setIfInBounds_toArray, List.set_cons_zero, List.set_cons_succ]
    have hr : RowAt (w2.alloc (.cells (([⟨#[48]⟩, ⟨#[102]⟩, ⟨#[103]⟩, ⟨#[53]⟩] : List ByteArray).map Value.string).toArray 9)).drew w2.heap.size 9 (([⟨#[48]⟩, ⟨#[102]⟩, ⟨#[103]⟩, ⟨#[53]⟩] : List ByteArray).map Value.string).toArray := (RowAt.fresh w2 _ _).drew
    have hgl := H2.out.lt
    have H3 := Lib.hid ((H2.out.alloc (.cells (([⟨#[48]⟩, ⟨#[102]⟩, ⟨#[103]⟩, ⟨#[53]⟩] : List ByteArray).map Value.string).toArray 9)).later (Below.refl _ _).drew)
    have HR := Lib.hid hr; clear hr
    refine wpAnyH_ready (rs := [5]) (by kernel_rfl) (by simp) ?_
    refine AllReadyH.cons rfl (fun K hK => ?_) AllReadyH.nil
    rw [if_pos (by rfl)]
    go_simp
    refine (s_of g (P + 1 + 1) w2.heap.size [⟨#[48]⟩, ⟨#[102]⟩, ⟨#[103]⟩, ⟨#[53]⟩] _ (by decide) (by decide) (by omega) H3.out (by omega) HR.out).mono ?_
    rintro e w3 ⟨v, ⟨s, hs, rfl⟩, rfl, h3, hg3⟩
    have hs1 : s.size ≤ 1 := by
      simp only [List.mem_cons, List.not_mem_nil, or_false] at hs
      rcases hs with rfl | rfl | rfl | rfl <;> decide
    have H4 := Lib.hid h3; have HG3 := Lib.hid hg3; clear h3 hg3 hs
    have z1 : (t.extract 0 k).size ≤ 16 := by rw [ByteArray.size_extract]; omega
    have z2 : (t.extract (k + 1) 16).size ≤ 16 := by rw [ByteArray.size_extract]; omega
    have z3 : (t.extract 0 k ++ s).size ≤ 17 := by rw [ByteArray.size_append]; omega
    have z4 : (t.extract 0 k ++ s ++ t.extract (k + 1) 16).size ≤ 33 := by rw [ByteArray.size_append]; omega
    refine hK _ _ trivial (fun _ => ?_)
    simp only [Act.put, List.getElem_toArray, List.getElem_cons_zero, List.getElem_cons_succ, List.setIfInBounds_toArray, List.set_cons_zero, List.set_cons_succ]
    refine wpAnyH_take (i := 6) (v := .string (t.extract 0 k ++ s)) rfl (by kernel_rfl) (by kernel_rfl) (by kernel_rfl) (fun _ _ _ h => h) (Or.inl ⟨by rfl, fun w2 h2 => by (go_simp; omega)⟩) (by assumption) ?_
    simp only [Act.put, List.getElem_toArray, List.getElem_cons_zero, List.getElem_cons_succ, List.setIfInBounds_toArray, List.set_cons_zero, List.set_cons_succ]
    refine wpAnyH_take (i := 11) (v := .string (t.extract 0 k ++ s ++ t.extract (k + 1) 16)) rfl (by kernel_rfl) (by kernel_rfl) (by kernel_rfl) (fun _ _ _ h => h) (Or.inl ⟨by rfl, fun w2 h2 => by (go_simp; omega)⟩) (by assumption) ?_
    simp only [Act.put, List.getElem_toArray, List.getElem_cons_zero, List.getElem_cons_succ, List.setIfInBounds_toArray, List.set_cons_zero, List.set_cons_succ]
    refine wpAnyH_take (i := 12) (v := .string (t.extract 0 k ++ s ++ t.extract (k + 1) 16)) rfl (by kernel_rfl) (by kernel_rfl) (by kernel_rfl) (fun _ _ _ h => h) (Or.inl ⟨by rfl, fun w2 h2 => by (first | rfl | go_simp)⟩) (by assumption) ?_
    simp only [Act.put, List.getElem_toArray, List.getElem_cons_zero, List.getElem_cons_succ, List.setIfInBounds_toArray, List.set_cons_zero, List.set_cons_succ]
    refine wpAnyH_done (by kernel_rfl) ?_ _
    go_wp2_with fail
    go_ret
    exact ⟨_, by unfold Small; omega, rfl, H4.out.mono (by omega), grown_trans (grown_below HG2.out (((Below.refl _ _).alloc (Nat.le_refl _) _).drew)) HG3.out⟩
  · have b0 : ((c : Int) == 0) = false := by rw [beq_eq_false_iff_ne]; omega
    have b1 : ((c : Int) == 1) = false := by rw [beq_eq_false_iff_ne]; omega
    have b2 : ((c : Int) == 2) = false := by rw [beq_eq_false_iff_ne]; omega
    clear h0
    go_wp2_with fail
    go_ret
    exact ⟨_, by unfold Small; omega, rfl, H1.out.mono (by omega), HG.out⟩
set_option maxHeartbeats 2000000 in
theorem s_l4Some (g P : Nat) (w : World) (hp : P + 21 ≤ 100000) (h : RdIn w g P) : Calls Try.prog 207 #[.pointer (some ⟨g, 0, none⟩)] w (TxtPost w g (P + 21) (Dg 16)) := by
  go_enter Try.func207, Try.ntmps207
  go_wp2_with fail
  refine (s_pickIn g P 5 _ _ rfl (by omega) (by omega) (by omega) h).mono ?_
  rintro e w1 ⟨c, hc, rfl, h1, hg⟩
  have HG := Lib.hid hg; have H1 := Lib.hid h1; clear hg h1
  have hcs : c = 0 ∨ c = 1 ∨ c = 2 ∨ 3 ≤ c := by omega
  rcases hcs with h0 | h0 | h0 | h0
  · have b0 : ((c : Int) == 0) = true := by rw [h0]; rfl
    clear h0
    go_wp2_with fail
    refine (s_pickIn g (P + 1) 16 _ _ rfl (by omega) (by omega) (by omega) H1.out).mono ?_
    rintro e w2 ⟨k, hk, rfl, h2, hg2⟩
    have H2 := Lib.hid h2; have HG2 := Lib.hid (grown_trans HG.out hg2); clear h2 hg2
    go_wp2_with fail
    refine (s_l2Some g (P + 1 + 1) _ (by omega) H2.out).mono ?_
    rintro e w3 ⟨q, hq, rfl, h3, hg3⟩
    have HQ := Lib.hid hq; have H3 := Lib.hid h3; have HG3 := Lib.hid (grown_trans HG2.out hg3); clear hq h3 hg3
    go_wp2_with fail
    refine (s_l4Spec k q _ hk HQ.out).mono ?_
    rintro e w' ⟨rfl, rfl⟩
    go_wp2_with fail
    go_ret
    exact ⟨_, Dg.txt (fun i _ => fSpec_lt hk i), rfl, H3.out.mono (by omega), HG3.out⟩
  · have b0 : ((c : Int) == 0) = false := by rw [h0]; rfl
    have b1 : ((c : Int) == 1) = true := by rw [h0]; rfl
    clear h0
    go_wp2_with fail
    refine (s_pickIn g (P + 1) 16 _ _ rfl (by omega) (by omega) (by omega) H1.out).mono ?_
    rintro e w2 ⟨k, hk, rfl, h2, hg2⟩
    have H2 := Lib.hid h2; have HG2 := Lib.hid (grown_trans HG.out hg2); clear h2 hg2
    go_wp2_with fail
    refine (s_l2Some g (P + 1 + 1) _ (by omega) H2.out).mono ?_
    rintro e w3 ⟨q, hq, rfl, h3, hg3⟩
    have HQ := Lib.hid hq; have H3 := Lib.hid h3; have HG3 := Lib.hid (grown_trans HG2.out hg3); clear hq h3 hg3
    go_wp2_with fail
    refine (s_l4Spec k q _ hk HQ.out).mono ?_
    rintro e w' ⟨rfl, rfl⟩
    go_wp2_with fail
    refine (s_l3Dual _ _ (Dg.txt (fun i _ => fSpec_lt hk i))).mono ?_
    rintro e w' ⟨rfl, rfl⟩
    go_wp2_with fail
    go_ret
    exact ⟨_, Dg.txt (fun i _ => andn_lt (by omega)), rfl, H3.out.mono (by omega), HG3.out⟩
  · have b0 : ((c : Int) == 0) = false := by rw [h0]; rfl
    have b1 : ((c : Int) == 1) = false := by rw [h0]; rfl
    have b2 : ((c : Int) == 2) = true := by rw [h0]; rfl
    clear h0
    go_wp2_with fail
    go_loopw [3, 4] (fun o i wr => ∃ (k : Nat) (s : ByteArray), k ≤ 4 ∧ i = .int .i64 k ∧ o = .string s ∧ Hid (Dg k s) ∧ Hid (RdIn wr g (P + 1 + k)) ∧ Hid (w.grownBy wr (some g))) (fun _ i _ => 4 - (intOf i).toNat)
    case atStart => exact ⟨0, ⟨#[]⟩, by omega, rfl, rfl, Lib.hid Dg_nil, H1, HG⟩
    case round =>
      obtain ⟨k, s, hk, rfl, rfl, HD, HRD, HGR⟩ := hrel
      by_cases hlt : k < 4
      · have hsz : s.size ≤ 4 := by have := Dg_size HD.out; omega
        go_wp2_with fail
        refine (s_pickIn g (P + 1 + k) 4 _ _ rfl (by omega) (by omega) (by omega) HRD.out).mono ?_
        rintro e w2 ⟨n, hn, rfl, h2, hg2⟩
        have H2 := Lib.hid h2
        have HG2 := Lib.hid (grown_trans HGR.out hg2)
        clear h2 hg2
        have hw := wrap_one (t := n) (by omega)
        have ho := one_lt hn
        have HD' := Lib.hid (hexChr_dig s (one n) k HD.out ho)
        go_wp2_with fail
        refine (s_l2Digit _ _ ho).mono ?_
        rintro e w' ⟨rfl, rfl⟩
        go_wp2_with fail
        go_roundw
        case rel => exact ⟨k + 1, _, by omega, by go_num, rfl, HD', Lib.hid (H2.out.mono (by omega)), HG2⟩
        case measure => simp [intOf]; omega
      · obtain rfl : k = 4 := by omega
        go_wp2_with fail
        refine (s_l3Angel s _ HD.out).mono ?_
        rintro e w' ⟨rfl, rfl⟩
        go_wp2_with fail
        go_ret
        exact ⟨_, Dg.txt (fun i _ => fDia_lt _ _), rfl, HRD.out.mono (by omega), HGR.out⟩
  · have b0 : ((c : Int) == 0) = false := by rw [beq_eq_false_iff_ne]; omega
    have b1 : ((c : Int) == 1) = false := by rw [beq_eq_false_iff_ne]; omega
    have b2 : ((c : Int) == 2) = false := by rw [beq_eq_false_iff_ne]; omega
    clear h0
    go_wp2_with fail
    refine (s_l3Some g (P + 1) _ (by omega) H1.out).mono ?_
    rintro e w2 ⟨s, hs, rfl, h2, hg2⟩
    have HS := Lib.hid hs; have H2 := Lib.hid h2; have HG2 := Lib.hid (grown_trans HG.out hg2); clear hs h2 hg2
    go_wp2_with fail
    go_ret
    exact ⟨s, HS.out, rfl, H2.out.mono (by omega), HG2.out⟩
theorem s_l4Open (g P : Nat) (w : World) (hp : P + 24 ≤ 100000) (h : RdIn w g P) : Calls Try.prog 128 #[.pointer (some ⟨g, 0, none⟩)] w (TxtPost w g (P + 24) Small) := by
  go_enter Try.func128, Try.ntmps128
  go_wp2_with fail
  refine (s_l4Some g P _ (by omega) h).mono ?_
  rintro e w1 ⟨s, hs, rfl, h1, hg⟩
  have HS := Lib.hid hs; have HG := Lib.hid hg; have H1 := Lib.hid h1; clear hs hg h1
  go_wp2_with fail
  refine (s_l3Bad g (P + 21) s _ (by omega) HS.out H1.out).mono ?_
  rintro e w2 ⟨t, ht, rfl, h2, hg2⟩
  have HT := Lib.hid ht; have H2 := Lib.hid h2; have HG2 := Lib.hid (grown_trans HG.out hg2); clear ht h2 hg2
  go_wp2_with fail
  go_ret
  exact ⟨t, HT.out, rfl, H2.out.mono (by omega), HG2.out⟩
end Go.Proofs.Ytiaeakpgldpaiaa
