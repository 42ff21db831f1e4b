/- Draws of transformers. -/
import Derived.Test.YtiaeakpgldpaiaaDrawC
namespace Go.Proofs.Ytiaeakpgldpaiaa
set_option linter.unusedSimpArgs false
set_option linter.unusedVariables false
set_option maxRecDepth 4000
open Go.RowKit

theorem grown_own {a b c : World} {r row : Option Nat} (h : a.grownBy b r) (k : b.grownBy c row) (hr : ∀ j, row = some j → a.heap.size ≤ j) : a.grownBy c r :=
  ⟨k.os.trans h.os, k.tape.trans h.tape, k.output.trans h.output, Nat.le_trans h.size k.size, fun i hi hne => (k.block i (Nat.lt_of_lt_of_le hi h.size) (fun e => by have := hr i e.symm; omega)).trans (h.block i hi hne)⟩
theorem RdAt.kept {w w' : World} {g p : Nat} {row : Option Nat} (h : RdAt w g p) (hg : w.grownBy w' row) (hne : ∀ j, row = some j → g < j) : RdAt w' g p := by
  obtain ⟨a, len, cap, hr, h1, h2, h3, h4⟩ := h
  refine ⟨a, len, cap, hr.grownR hg (fun e => by have := hne _ e; omega), h1, h2, h3, ?_⟩
  rcases h4 with h4 | ⟨b, off, h5, h6, h7⟩
  · exact .inl h4
  · refine .inr ⟨b, off, h5, h6, fun i hi => ?_⟩
    obtain ⟨z, hz, hc⟩ := h7 i hi
    exact ⟨z, hz, hg.cell hc (fun e => by have h9 : g < b := hne _ e.symm; omega)⟩
theorem RdIn.kept {w w' : World} {g P : Nat} {row : Option Nat} (h : RdIn w g P) (hg : w.grownBy w' row) (hne : ∀ j, row = some j → g < j) : RdIn w' g P := by
  obtain ⟨p, h1, h2⟩ := h
  exact ⟨p, h1, h2.kept hg hne⟩
theorem IntsAt.keptR {B g : Nat} {w w' : World} {v : Value} {zs : List Int} (h : IntsAt B w v zs) (hg : w.grownBy w' (some g)) (hgB : g < B) : IntsAt B w' v zs :=
  h.kept hg fun g' hg' => by
    obtain ⟨g2, h2, h3, _⟩ := h.block
    rw [hg'] at h2
    cases h2
    omega
set_option maxHeartbeats 2000000 in
theorem s_l3Some (g P : Nat) (w : World) (hp : P + 20 ≤ 100000) (h : RdIn w g P) : Calls Try.prog 244 #[.pointer (some ⟨g, 0, none⟩)] w (TxtPost w g (P + 20) (Dg 16)) := by
  go_enter Try.func244, Try.ntmps244
  go_wp2_with fail
  refine (s_pickIn g P 6 _ _ rfl (by omega) (by omega) (by omega) h).mono ?_
  rintro e w1 ⟨c, hc, rfl, h1, hg⟩
  have hcs : c = 0 ∨ c = 1 ∨ c = 2 ∨ c = 3 ∨ 4 ≤ c := by omega
  rcases hcs with h0 | h0 | h0 | h0 | h0
  · have b0 : ((c : Int) == 0) = true := by rw [h0]; rfl
    have b1 : ((c : Int) == 1) = false := by rw [h0]; rfl
    have b2 : ((c : Int) == 2) = false := by rw [h0]; rfl
    have b3 : ((c : Int) == 3) = false := by rw [h0]; rfl
    have HG := Lib.hid hg; have H1 := Lib.hid h1; clear hg h1 h0
    go_wp2_with fail
    refine (s_l2Some g (P + 1) _ (by omega) H1.out).mono ?_
    rintro e w2 ⟨r, hr, rfl, h2, hg2⟩
    have HR := Lib.hid hr; have H2 := Lib.hid h2; have HG2 := Lib.hid (grown_trans HG.out hg2); clear hr h2 hg2
    go_wp2_with fail
    refine (s_l3Angel r _ HR.out).mono ?_
    rintro e w' ⟨rfl, rfl⟩
    go_wp2_with fail
    go_ret
    exact ⟨_, Dg.txt (fun i _ => fDia_lt _ _), rfl, H2.out.mono (by omega), HG2.out⟩
  · have b0 : ((c : Int) == 0) = false := by rw [h0]; rfl
    have b1 : ((c : Int) == 1) = true := by rw [h0]; rfl
    have b2 : ((c : Int) == 2) = false := by rw [h0]; rfl
    have b3 : ((c : Int) == 3) = false := by rw [h0]; rfl
    have HG := Lib.hid hg; have H1 := Lib.hid h1; clear hg h1 h0
    go_wp2_with fail
    refine (s_l2Some g (P + 1) _ (by omega) H1.out).mono ?_
    rintro e w2 ⟨r, hr, rfl, h2, hg2⟩
    have HR := Lib.hid hr; have H2 := Lib.hid h2; have HG2 := Lib.hid (grown_trans HG.out hg2); clear hr h2 hg2
    go_wp2_with fail
    refine (s_l3Angel r _ HR.out).mono ?_
    rintro e w' ⟨rfl, rfl⟩
    go_wp2_with fail
    refine (s_l3Dual _ _ (Dg.txt (fun i _ => fDia_lt _ _))).mono ?_
    rintro e w' ⟨rfl, rfl⟩
    go_wp2_with fail
    go_ret
    exact ⟨_, Dg.txt (fun i _ => andn_lt (by omega)), rfl, H2.out.mono (by omega), HG2.out⟩
  · have b0 : ((c : Int) == 0) = false := by rw [h0]; rfl
    have b1 : ((c : Int) == 1) = false := by rw [h0]; rfl
    have b2 : ((c : Int) == 2) = true := by rw [h0]; rfl
    have b3 : ((c : Int) == 3) = false := by rw [h0]; rfl
    have HG := Lib.hid hg; have H1 := Lib.hid h1; clear hg h1 h0
    go_wp2_with fail
    refine (s_l2Some g (P + 1) _ (by omega) H1.out).mono ?_
    rintro e w2 ⟨r, hr, rfl, h2, hg2⟩
    have HR := Lib.hid hr; have H2 := Lib.hid h2; have HG2 := Lib.hid (grown_trans HG.out hg2); clear hr h2 hg2
    go_wp2_with fail
    refine (s_l3Angel r _ HR.out).mono ?_
    rintro e w' ⟨rfl, rfl⟩
    go_wp2_with fail
    refine (s_l2Some g (P + 1 + 9) _ (by omega) H2.out).mono ?_
    rintro e w3 ⟨q, hq, rfl, h3, hg3⟩
    have HQ := Lib.hid hq; have H3 := Lib.hid h3; have HG3 := Lib.hid (grown_trans HG2.out hg3); clear hq h3 hg3
    go_wp2_with fail
    refine (s_l3Angel q _ HQ.out).mono ?_
    rintro e w' ⟨rfl, rfl⟩
    go_wp2_with fail
    refine (s_l3Dual _ _ (Dg.txt (fun i _ => fDia_lt _ _))).mono ?_
    rintro e w' ⟨rfl, rfl⟩
    go_wp2_with fail
    refine (s_l3Then _ _ _ (Dg.txt (fun i _ => fDia_lt _ _)) (Dg.txt (fun i _ => andn_lt (by omega)))).mono ?_
    rintro e w' ⟨rfl, rfl⟩
    go_wp2_with fail
    go_ret
    exact ⟨_, Dg.txt (fun i _ => dig_lt _ _), rfl, H3.out.mono (by omega), HG3.out⟩
  · have b0 : ((c : Int) == 0) = false := by rw [h0]; rfl
    have b1 : ((c : Int) == 1) = false := by rw [h0]; rfl
    have b2 : ((c : Int) == 2) = false := by rw [h0]; rfl
    have b3 : ((c : Int) == 3) = true := by rw [h0]; rfl
    have HG := Lib.hid hg; have H1 := Lib.hid h1; clear hg h1 h0
    go_wp2_with fail
    refine (s_pickIn g (P + 1) 16 _ _ rfl (by omega) (by omega) (by omega) H1.out).mono ?_
    rintro e w2 ⟨r, hr, rfl, h2, hg2⟩
    have H2 := Lib.hid h2; have HG2 := Lib.hid (grown_trans HG.out hg2); clear h2 hg2
    go_wp2_with fail
    refine (s_l3Assert r _ hr).mono ?_
    rintro e w' ⟨rfl, rfl⟩
    go_wp2_with fail
    refine (s_l2Some g (P + 1 + 1) _ (by omega) H2.out).mono ?_
    rintro e w3 ⟨q, hq, rfl, h3, hg3⟩
    have HQ := Lib.hid hq; have H3 := Lib.hid h3; have HG3 := Lib.hid (grown_trans HG2.out hg3); clear hq h3 hg3
    go_wp2_with fail
    refine (s_l3Angel q _ HQ.out).mono ?_
    rintro e w' ⟨rfl, rfl⟩
    go_wp2_with fail
    refine (s_l3Dual _ _ (Dg.txt (fun i _ => fDia_lt _ _))).mono ?_
    rintro e w' ⟨rfl, rfl⟩
    go_wp2_with fail
    refine (s_l3Then _ _ _ (Dg.txt (fun i _ => and_lt hr)) (Dg.txt (fun i _ => andn_lt (by omega)))).mono ?_
    rintro e w' ⟨rfl, rfl⟩
    go_wp2_with fail
    go_ret
    exact ⟨_, Dg.txt (fun i _ => dig_lt _ _), rfl, H3.out.mono (by omega), HG3.out⟩
  · have b0 : ((c : Int) == 0) = false := by rw [beq_eq_false_iff_ne]; omega
    have b1 : ((c : Int) == 1) = false := by rw [beq_eq_false_iff_ne]; omega
    have b2 : ((c : Int) == 2) = false := by rw [beq_eq_false_iff_ne]; omega
    have b3 : ((c : Int) == 3) = false := by rw [beq_eq_false_iff_ne]; omega
    have hgw := h1.lt
    have hgs := h.lt
    have hsz1 := hg.size
    have hr0 : RowAt (w1.alloc (.cells #[] 3)) w1.heap.size 3 #[] := RowAt.fresh w1 3 #[]
    have hi0 := IntsAt.of_lit (B := w.heap.size) (zs := []) hsz1 hr0 (by unfold maxLen; simp)
    obtain ⟨i0, hi, hz0, hz1, hz2⟩ := info_parts infoInt
    have HI := Lib.hid hi; have HZ0 := Lib.hid hz0; have HZ1 := Lib.hid hz1; have HZ2 := Lib.hid hz2
    have HI0 := Lib.hid hi0
    have HG := Lib.hid (grown_alloc hg (.cells #[] 3)); have H1 := Lib.hid (h1.alloc (.cells #[] 3))
    clear hg h1 hr0 hi0 hi hz0 hz1 hz2 h hgw h0
    go_wp2_with fail
    go_loopw [3, 4] (fun v i wr => ∃ (k : Nat) (zs : List Int), k ≤ 4 ∧ i = .int .i64 k ∧ Hid (zs.length = k ∧ Fams zs) ∧ Hid (IntsAt w.heap.size wr v zs) ∧ Hid (RdIn wr g (P + 1 + 4 * k)) ∧ Hid (w.grownBy wr (some g))) (fun _ i _ => 4 - (intOf i).toNat)
    case atStart => exact ⟨0, [], by omega, rfl, Lib.hid ⟨rfl, fun z hz => by simp at hz⟩, HI0, H1, HG⟩
    case round =>
      obtain ⟨k, zs, hk, rfl, HZ, HV, HRD, HGR⟩ := hrel
      by_cases hlt : k < 4
      · have hd : decide ((k : Int) < 4) = true := by simp; omega
        go_wp2_with fail
        refine (s_pickIn g (P + 1 + 4 * k) 4 _ _ rfl (by omega) (by omega) (by omega) HRD.out).mono ?_
        rintro e w2 ⟨n, hn, rfl, h2, hg2⟩
        have H2 := Lib.hid h2
        have HG2 := Lib.hid (grown_trans HGR.out hg2)
        have HV2 := Lib.hid (HV.out.keptR hg2 hgs)
        clear h2 hg2 HV HRD HGR
        go_wp2_with fail
        clear hd
        go_loopw [5, 6] (fun o i wr => ∃ j m : Nat, j ≤ 3 ∧ i = .int .i64 j ∧ m < 65536 ∧ o = .int .i64 m ∧ Hid (IntsAt w.heap.size wr _ zs) ∧ Hid (RdIn wr g (P + 1 + 4 * k + 1 + (3 - j))) ∧ Hid (w.grownBy wr (some g))) (fun _ i _ => (intOf i).toNat)
        case atStart => exact ⟨n, 0, by omega, rfl, by omega, rfl, HV2, Lib.hid (H2.out.mono (by omega)), HG2⟩
        case round =>
          obtain ⟨j, m, hj, rfl, hm, rfl, HV3, H3, HG3⟩ := hrel
          by_cases hlj : 0 < j
          · have hd2 : decide ((0 : Int) < (j : Int)) = true := by simp; omega
            go_wp2_with fail
            refine (s_pickIn g (P + 1 + 4 * k + 1 + (3 - j)) 16 _ _ rfl (by omega) (by omega) (by omega) H3.out).mono ?_
            rintro e w4 ⟨q, hq, rfl, h4, hg4⟩
            have H4 := Lib.hid h4
            have HG4 := Lib.hid (grown_trans HG3.out hg4)
            have HV4 := Lib.hid (HV3.out.keptR hg4 hgs)
            clear h4 hg4 hd2
            have e2 := wrap_one hq
            have e3 := bits_or_nat m (one q) hm (one_lt16 hq)
            have ho := or16_lt hm (one_lt16 hq)
            go_wp2_with fail
            go_roundw
            case rel => exact ⟨j - 1, _, by omega, by go_num, ho, rfl, HV4, Lib.hid (H4.out.mono (by omega)), HG4⟩
            case measure => simp [intOf]; omega
          · obtain rfl : j = 0 := by omega
            have hown := HV3.out.owns
            rw [HZ.out.1] at hown
            have hsz := HG3.out.size
            go_wp2_with (at_builtin; refine wpList_append_lies _ rfl _ _ _ rfl w.heap.size 3 i0 (.int .i64 0) 1 8 Try.underlying50 HI.out HZ0.out HZ1.out HZ2.out rfl (by decide) _ _ _ rfl (hown.alloc _) ⟨wr.heap.size, 0, none⟩ 1 1 [.int .i64 (m : Int)] rfl rfl (World.news_of_block (heap_alloc_new wr _)) ?c2 (by decide) ?c3 ?c4 ?c5 _ rfl ?_)
            case c2 => simp [Value.oneCell']
            case c3 => unfold maxLen; omega
            case c4 => omega
            case c5 => first | omega | (simp; omega)
            intro g' cap w5 hown1 hgrow hlies hglt
            have hlt' := fun j hj => ((hown.alloc (.cells #[.int .i64 (m : Int)] 3)).lt j hj).1
            have hgr : w.grownBy w5 (some g) := grown_own (grown_alloc HG3.out (.cells #[.int .i64 (m : Int)] 3)) hgrow (fun j hj => hlt' j hj)
            have hrd : RdIn w5 g (P + 1 + 4 * k + 1 + 3) := ((H3.out.alloc (.cells #[.int .i64 (m : Int)] 3)).mono (by omega)).kept hgrow (fun j hj => Nat.lt_of_lt_of_le hgs (hlt' j hj))
            have hown2 := IntsAt.of_owns (zs := zs ++ [(m : Int)]) (n := k + 1) (g := g') (cap := cap) (B := w.heap.size) (w := w5) (by simp [HZ.out.1]) (by rw [List.map_append]; exact hown1)
            have hz' : (zs ++ [(m : Int)]).length = k + 1 ∧ Fams (zs ++ [(m : Int)]) := ⟨by simp [HZ.out.1], fun z hz => by
              rcases List.mem_append.1 hz with hz | hz
              · exact HZ.out.2 z hz
              · simp at hz; exact ⟨m, hm, hz⟩⟩
            have HGR5 := Lib.hid hgr; have HRD5 := Lib.hid hrd; have HO5 := Lib.hid hown2; have HZ5 := Lib.hid hz'
            clear hgr hrd hown2 hz' hown1 hgrow hlies hown
            go_wp2_with fail
            go_roundw
            case rel => exact ⟨k + 1, _, by omega, by go_num, HZ5, HO5, Lib.hid (HRD5.out.mono (by omega)), HGR5⟩
            case measure => simp [intOf]; omega
      · obtain rfl : k = 4 := by omega
        go_wp2_with fail
        refine (s_TransOf w.heap.size _ zs _ HZ.out.1 HZ.out.2 HV.out).mono ?_
        rintro e w' ⟨⟨s, hs, rfl⟩, rfl⟩
        have HS := Lib.hid hs; clear hs
        go_wp2_with fail
        go_ret
        exact ⟨s, HS.out, rfl, HRD.out.mono (by omega), HGR.out⟩
end Go.Proofs.Ytiaeakpgldpaiaa
