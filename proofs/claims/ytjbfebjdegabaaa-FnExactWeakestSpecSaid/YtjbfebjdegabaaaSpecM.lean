/- The reference's transformers of contracts of two parts, and of all. -/
import Derived.Test.YtjbfebjdegabaaaSpecL
namespace Go.Proofs.Ytjbfebjdegabaaa
set_option linter.unusedSimpArgs false
set_option linter.unusedVariables false
set_option maxRecDepth 4000
open Go.RowKit

set_option maxHeartbeats 4000000 in
theorem s_l5Trans_bin (op : UInt8) (p : Nat) (x y : Ct) (ihx : (∀ (s : ByteArray) (w : World), Reads s x → Calls Try.prog 91 #[.string s] w fun e w' => e = .returned (.string (txt 16 x.tr)) ∧ Below w.heap.size w w')) (ihy : (∀ (s : ByteArray) (w : World), Reads s y → Calls Try.prog 91 #[.string s] w fun e w' => e = .returned (.string (txt 16 y.tr)) ∧ Below w.heap.size w w')) (s : ByteArray) (w : World) (hR : Reads s (.bin op p x y)) : Calls Try.prog 91 #[.string s] w fun e w' => e = .returned (.string (txt 16 ((Ct.bin op p x y).tr))) ∧ Below w.heap.size w w' := by
  have hs := hR.1
  have h0 := hR.pos
  have hwf := hR.wf
  obtain ⟨n, m, hop, hl, hu, hbn, hd, hp, hlt1, hlt2, hrx, hry, hRx, hRy⟩ := hR.bin
  have hwx : x.wf := by obtain ⟨_, _, _, _, _, _, h, _⟩ := hwf; exact h
  have hwy : y.wf := by obtain ⟨_, _, _, _, _, _, _, h⟩ := hwf; exact h
  have hparts := s_l5Parts s (1 + n) [s.extract (1 + n) m, s.extract m s.size] w hs h0 (by rw [hop]; exact hdN_bin hbn) ⟨m, x, hrx, rfl, s.size, y, hry, rfl, rfl⟩ (by simp)
  have hdx : Dg 16 (txt 16 x.tr) := Dg.txt fun i hi => Ct.tr_lt hwx i hi
  have hdy : Dg 16 (txt 16 y.tr) := Dg.txt fun i hi => Ct.tr_lt hwy i hi
  have hp16 : p < 16 := by rw [hp]; exact digF_lt _ _ _ _
  have htx := fun q (hq : q < 16) => txt_dig 16 x.tr q hq (Ct.tr_lt hwx q hq)
  have hty := fun q (hq : q < 16) => txt_dig 16 y.tr q hq (Ct.tr_lt hwy q hq)
  have HP := Lib.hid hparts; have IHX := Lib.hid ihx; have IHY := Lib.hid ihy; have HRX := Lib.hid hRx; have HRY := Lib.hid hRy; have HDX := Lib.hid hdx; have HDY := Lib.hid hdy; have HTX := Lib.hid htx; have HTY := Lib.hid hty; have HWX := Lib.hid hwx; have HWY := Lib.hid hwy
  clear hparts ihx ihy hRx hRy hR hwf hwx hwy hdx hdy hrx hry htx hty
  rcases letters op with (h | h | h) | (h | h) | (h | h) | (h | h | h) | h | h | (h | h) | h
  case inr.inr.inr.inr.inr.inr.inr => rw [noLetter_bin h] at hbn; cases hbn
  case inr.inr.inr.inl.inl =>
    subst h
    have hv : ((s[0]'h0).toNat : Int) = 59 := by rw [byt_get s 0 h0, hop]; rfl
    have hn : n = 0 := by cases hbn; rfl
    subst hn
    have hfin : txt 16 (fun q => dig (txt 16 x.tr) (dig (txt 16 y.tr) q)) = txt 16 (Ct.bin 59 p x y).tr := txt_congr fun q hq => by rw [tr_seq, HTY.out q hq, HTX.out _ (Ct.tr_lt HWY.out q hq)]
    have HFIN := Lib.hid hfin
    clear hfin hop hl hu hbn hd hp
    go_enter Try.func91, Try.ntmps91
    go_wp2_with fail
    refine HP.out.mono ?_
    rintro e w1 ⟨v, rfl, hst, hb⟩
    obtain ⟨g, cap, cur, rfl, hrow, hcur⟩ := StrsAt.row hst (by simp)
    have q0 := hcur 0 _ rfl
    have q1 := hcur 1 _ rfl
    have hr1 := hrow.drew
    have hbd := hb.drew
    have HQ0 := Lib.hid q0; have HQ1 := Lib.hid q1
    clear q0 q1 hst hcur hrow hb
    go_wp2_with fail
    refine wp_region_held_drew (S := fun w3 => RowAt w3 g 9 cur ∧ Below w.heap.size w w3) (by kernel_rfl) (⟨hr1, hbd⟩) (fun hS => ?_)
    simp only [List.size_toArray, List.length_cons, List.length_nil, Nat.zero_add, Nat.reduceAdd, Array.replicate_succ, Array.replicate_zero, List.push_toArray, List.append_toArray, List.nil_append, List.cons_append]
    refine wpAnyH_take (i := 0) (v := .slice (some ⟨g, 0, none⟩) 2 cap) rfl (by kernel_rfl) (by kernel_rfl) (by kernel_rfl) (fun _ _ _ h => h) (Or.inl ⟨by rfl, fun w2 h2 => by (first | rfl | go_simp)⟩) (by assumption) ?_
    simp only [Act.put, List.getElem_toArray, List.getElem_cons_zero, List.getElem_cons_succ, List.setIfInBounds_toArray, List.set_cons_zero, List.set_cons_succ]
    refine wpAnyH_take (i := 1) (v := .pointer (some ⟨g, 0, none⟩)) rfl (by kernel_rfl) (by kernel_rfl) (by kernel_rfl) (fun _ _ _ h => h) (Or.inl ⟨by rfl, fun w2 h2 => by (first | rfl | go_simp)⟩) (by assumption) ?_
    simp only [Act.put, List.getElem_toArray, List.getElem_cons_zero, List.getElem_cons_succ, List.setIfInBounds_toArray, List.set_cons_zero, List.set_cons_succ]
    refine wpAnyH_take (i := 2) (v := .string (s.extract (1 + 0) m)) rfl (by kernel_rfl) (by kernel_rfl) (by kernel_rfl) (fun _ _ _ h => h) (Or.inl ⟨by rfl, fun w6 h6 => by have c := (h6.1.get 0).trans HQ0.out; (first | rfl | go_simp)⟩) (by assumption) ?_
    simp only [Act.put, List.getElem_toArray, List.getElem_cons_zero, List.getElem_cons_succ, List.setIfInBounds_toArray, List.set_cons_zero, List.set_cons_succ]
    refine wpAnyH_take (i := 4) (v := .slice (some ⟨g, 0, none⟩) 2 cap) rfl (by kernel_rfl) (by kernel_rfl) (by kernel_rfl) (fun _ _ _ h => h) (Or.inl ⟨by rfl, fun w2 h2 => by (first | rfl | go_simp)⟩) (by assumption) ?_
    simp only [Act.put, List.getElem_toArray, List.getElem_cons_zero, List.getElem_cons_succ, List.setIfInBounds_toArray, List.set_cons_zero, List.set_cons_succ]
    refine wpAnyH_take (i := 5) (v := .pointer (some ⟨g, 1, none⟩)) rfl (by kernel_rfl) (by kernel_rfl) (by kernel_rfl) (fun _ _ _ h => h) (Or.inl ⟨by rfl, fun w2 h2 => by (first | rfl | go_simp)⟩) (by assumption) ?_
    simp only [Act.put, List.getElem_toArray, List.getElem_cons_zero, List.getElem_cons_succ, List.setIfInBounds_toArray, List.set_cons_zero, List.set_cons_succ]
    refine wpAnyH_take (i := 6) (v := .string (s.extract m s.size)) rfl (by kernel_rfl) (by kernel_rfl) (by kernel_rfl) (fun _ _ _ h => h) (Or.inl ⟨by rfl, fun w6 h6 => by have c := (h6.1.get 1).trans HQ1.out; (first | rfl | go_simp)⟩) (by assumption) ?_
    simp only [Act.put, List.getElem_toArray, List.getElem_cons_zero, List.getElem_cons_succ, List.setIfInBounds_toArray, List.set_cons_zero, List.set_cons_succ]
    refine wpAnyH_ready (rs := [3]) (by kernel_rfl) (by simp) ?_
    refine AllReadyH.cons rfl (fun K hK => ?_) AllReadyH.nil
    rw [if_pos (by rfl)]
    go_simp
    refine (IHX.out _ _ HRX.out).mono ?_
    rintro e w4 ⟨rfl, hb4⟩
    refine hK.out _ _ ⟨hS.1.later hb4, bel_on' hS.2 hb4⟩ (fun hS => ?_)
    simp only [Act.put, List.getElem_toArray, List.getElem_cons_zero, List.getElem_cons_succ, List.setIfInBounds_toArray, List.set_cons_zero, List.set_cons_succ]
    refine wpAnyH_ready (rs := [7]) (by kernel_rfl) (by simp) ?_
    refine AllReadyH.cons rfl (fun K hK => ?_) AllReadyH.nil
    rw [if_pos (by rfl)]
    go_simp
    refine (IHY.out _ _ HRY.out).mono ?_
    rintro e w5 ⟨rfl, hb5⟩
    have hB5 := bel_on' hS.2 hb5
    refine hK.out _ _ ⟨hS.1.later hb5, hB5⟩ (fun hS => ?_)
    simp only [Act.put, List.getElem_toArray, List.getElem_cons_zero, List.getElem_cons_succ, List.setIfInBounds_toArray, List.set_cons_zero, List.set_cons_succ]
    refine wpAnyH_ready (rs := [8]) (by kernel_rfl) (by simp) ?_
    refine AllReadyH.cons rfl (fun K hK => ?_) AllReadyH.nil
    rw [if_pos (by rfl)]
    go_simp
    refine (s_l3Then _ _ _ HDX.out HDY.out).mono ?_
    rw [HFIN.out]
    rintro e w6 ⟨rfl, rfl⟩
    refine hK.out _ _ hS (fun hS => ?_)
    simp only [Act.put, List.getElem_toArray, List.getElem_cons_zero, List.getElem_cons_succ, List.setIfInBounds_toArray, List.set_cons_zero, List.set_cons_succ]
    refine wpAnyH_take (i := 9) (v := .string (txt 16 (Ct.bin 59 p x y).tr)) rfl (by kernel_rfl) (by kernel_rfl) (by kernel_rfl) (fun _ _ _ h => h) (Or.inl ⟨by rfl, fun w2 h2 => by (first | rfl | go_simp)⟩) (by assumption) ?_
    simp only [Act.put, List.getElem_toArray, List.getElem_cons_zero, List.getElem_cons_succ, List.setIfInBounds_toArray, List.set_cons_zero, List.set_cons_succ]
    refine wpAnyH_done (by kernel_rfl) ?_ _
    go_wp2_with fail
    go_ret
    exact ⟨rfl, hB5⟩
  case inr.inr.inr.inl.inr.inl =>
    subst h
    have hv : ((s[0]'h0).toNat : Int) = 38 := by rw [byt_get s 0 h0, hop]; rfl
    have hn : n = 0 := by cases hbn; rfl
    subst hn
    have hfin : txt 16 (fun q => dig (txt 16 x.tr) q &&& dig (txt 16 y.tr) q) = txt 16 (Ct.bin 38 p x y).tr := txt_congr fun q hq => by rw [tr_and, HTY.out q hq, HTX.out q hq]
    have HFIN := Lib.hid hfin
    clear hfin hop hl hu hbn hd hp
    go_enter Try.func91, Try.ntmps91
    go_wp2_with fail
    refine HP.out.mono ?_
    rintro e w1 ⟨v, rfl, hst, hb⟩
    obtain ⟨g, cap, cur, rfl, hrow, hcur⟩ := StrsAt.row hst (by simp)
    have q0 := hcur 0 _ rfl
    have q1 := hcur 1 _ rfl
    have hr1 := hrow.drew
    have hbd := hb.drew
    have HQ0 := Lib.hid q0; have HQ1 := Lib.hid q1
    clear q0 q1 hst hcur hrow hb
    go_wp2_with fail
    refine wp_region_held_drew (S := fun w3 => RowAt w3 g 9 cur ∧ Below w.heap.size w w3) (by kernel_rfl) (⟨hr1, hbd⟩) (fun hS => ?_)
    simp only [List.size_toArray, List.length_cons, List.length_nil, Nat.zero_add, Nat.reduceAdd, Array.replicate_succ, Array.replicate_zero, List.push_toArray, List.append_toArray, List.nil_append, List.cons_append]
    refine wpAnyH_take (i := 0) (v := .slice (some ⟨g, 0, none⟩) 2 cap) rfl (by kernel_rfl) (by kernel_rfl) (by kernel_rfl) (fun _ _ _ h => h) (Or.inl ⟨by rfl, fun w2 h2 => by (first | rfl | go_simp)⟩) (by assumption) ?_
    simp only [Act.put, List.getElem_toArray, List.getElem_cons_zero, List.getElem_cons_succ, List.setIfInBounds_toArray, List.set_cons_zero, List.set_cons_succ]
    refine wpAnyH_take (i := 1) (v := .pointer (some ⟨g, 0, none⟩)) rfl (by kernel_rfl) (by kernel_rfl) (by kernel_rfl) (fun _ _ _ h => h) (Or.inl ⟨by rfl, fun w2 h2 => by (first | rfl | go_simp)⟩) (by assumption) ?_
    simp only [Act.put, List.getElem_toArray, List.getElem_cons_zero, List.getElem_cons_succ, List.setIfInBounds_toArray, List.set_cons_zero, List.set_cons_succ]
    refine wpAnyH_take (i := 2) (v := .string (s.extract (1 + 0) m)) rfl (by kernel_rfl) (by kernel_rfl) (by kernel_rfl) (fun _ _ _ h => h) (Or.inl ⟨by rfl, fun w6 h6 => by have c := (h6.1.get 0).trans HQ0.out; (first | rfl | go_simp)⟩) (by assumption) ?_
    simp only [Act.put, List.getElem_toArray, List.getElem_cons_zero, List.getElem_cons_succ, List.setIfInBounds_toArray, List.set_cons_zero, List.set_cons_succ]
    refine wpAnyH_take (i := 4) (v := .slice (some ⟨g, 0, none⟩) 2 cap) rfl (by kernel_rfl) (by kernel_rfl) (by kernel_rfl) (fun _ _ _ h => h) (Or.inl ⟨by rfl, fun w2 h2 => by (first | rfl | go_simp)⟩) (by assumption) ?_
    simp only [Act.put, List.getElem_toArray, List.getElem_cons_zero, List.getElem_cons_succ, List.setIfInBounds_toArray, List.set_cons_zero, List.set_cons_succ]
    refine wpAnyH_take (i := 5) (v := .pointer (some ⟨g, 1, none⟩)) rfl (by kernel_rfl) (by kernel_rfl) (by kernel_rfl) (fun _ _ _ h => h) (Or.inl ⟨by rfl, fun w2 h2 => by (first | rfl | go_simp)⟩) (by assumption) ?_
    simp only [Act.put, List.getElem_toArray, List.getElem_cons_zero, List.getElem_cons_succ, List.setIfInBounds_toArray, List.set_cons_zero, List.set_cons_succ]
    refine wpAnyH_take (i := 6) (v := .string (s.extract m s.size)) rfl (by kernel_rfl) (by kernel_rfl) (by kernel_rfl) (fun _ _ _ h => h) (Or.inl ⟨by rfl, fun w6 h6 => by have c := (h6.1.get 1).trans HQ1.out; (first | rfl | go_simp)⟩) (by assumption) ?_
    simp only [Act.put, List.getElem_toArray, List.getElem_cons_zero, List.getElem_cons_succ, List.setIfInBounds_toArray, List.set_cons_zero, List.set_cons_succ]
    refine wpAnyH_ready (rs := [3]) (by kernel_rfl) (by simp) ?_
    refine AllReadyH.cons rfl (fun K hK => ?_) AllReadyH.nil
    rw [if_pos (by rfl)]
    go_simp
    refine (IHX.out _ _ HRX.out).mono ?_
    rintro e w4 ⟨rfl, hb4⟩
    refine hK.out _ _ ⟨hS.1.later hb4, bel_on' hS.2 hb4⟩ (fun hS => ?_)
    simp only [Act.put, List.getElem_toArray, List.getElem_cons_zero, List.getElem_cons_succ, List.setIfInBounds_toArray, List.set_cons_zero, List.set_cons_succ]
    refine wpAnyH_ready (rs := [7]) (by kernel_rfl) (by simp) ?_
    refine AllReadyH.cons rfl (fun K hK => ?_) AllReadyH.nil
    rw [if_pos (by rfl)]
    go_simp
    refine (IHY.out _ _ HRY.out).mono ?_
    rintro e w5 ⟨rfl, hb5⟩
    have hB5 := bel_on' hS.2 hb5
    refine hK.out _ _ ⟨hS.1.later hb5, hB5⟩ (fun hS => ?_)
    simp only [Act.put, List.getElem_toArray, List.getElem_cons_zero, List.getElem_cons_succ, List.setIfInBounds_toArray, List.set_cons_zero, List.set_cons_succ]
    refine wpAnyH_ready (rs := [8]) (by kernel_rfl) (by simp) ?_
    refine AllReadyH.cons rfl (fun K hK => ?_) AllReadyH.nil
    rw [if_pos (by rfl)]
    go_simp
    refine (s_l3Meet _ _ _ HDX.out HDY.out).mono ?_
    rw [HFIN.out]
    rintro e w6 ⟨rfl, rfl⟩
    refine hK.out _ _ hS (fun hS => ?_)
    simp only [Act.put, List.getElem_toArray, List.getElem_cons_zero, List.getElem_cons_succ, List.setIfInBounds_toArray, List.set_cons_zero, List.set_cons_succ]
    refine wpAnyH_take (i := 9) (v := .string (txt 16 (Ct.bin 38 p x y).tr)) rfl (by kernel_rfl) (by kernel_rfl) (by kernel_rfl) (fun _ _ _ h => h) (Or.inl ⟨by rfl, fun w2 h2 => by (first | rfl | go_simp)⟩) (by assumption) ?_
    simp only [Act.put, List.getElem_toArray, List.getElem_cons_zero, List.getElem_cons_succ, List.setIfInBounds_toArray, List.set_cons_zero, List.set_cons_succ]
    refine wpAnyH_done (by kernel_rfl) ?_ _
    go_wp2_with fail
    go_ret
    exact ⟨rfl, hB5⟩
  case inr.inr.inr.inl.inr.inr =>
    subst h
    have hv : ((s[0]'h0).toNat : Int) = 124 := by rw [byt_get s 0 h0, hop]; rfl
    have hn : n = 0 := by cases hbn; rfl
    subst hn
    have hfin : txt 16 (fun q => dig (txt 16 x.tr) q ||| dig (txt 16 y.tr) q) = txt 16 (Ct.bin 124 p x y).tr := txt_congr fun q hq => by rw [tr_or, HTY.out q hq, HTX.out q hq]
    have HFIN := Lib.hid hfin
    clear hfin hop hl hu hbn hd hp
    go_enter Try.func91, Try.ntmps91
    go_wp2_with fail
    refine HP.out.mono ?_
    rintro e w1 ⟨v, rfl, hst, hb⟩
    obtain ⟨g, cap, cur, rfl, hrow, hcur⟩ := StrsAt.row hst (by simp)
    have q0 := hcur 0 _ rfl
    have q1 := hcur 1 _ rfl
    have hr1 := hrow.drew
    have hbd := hb.drew
    have HQ0 := Lib.hid q0; have HQ1 := Lib.hid q1
    clear q0 q1 hst hcur hrow hb
    go_wp2_with fail
    refine wp_region_held_drew (S := fun w3 => RowAt w3 g 9 cur ∧ Below w.heap.size w w3) (by kernel_rfl) (⟨hr1, hbd⟩) (fun hS => ?_)
    simp only [List.size_toArray, List.length_cons, List.length_nil, Nat.zero_add, Nat.reduceAdd, Array.replicate_succ, Array.replicate_zero, List.push_toArray, List.append_toArray, List.nil_append, List.cons_append]
    refine wpAnyH_take (i := 0) (v := .slice (some ⟨g, 0, none⟩) 2 cap) rfl (by kernel_rfl) (by kernel_rfl) (by kernel_rfl) (fun _ _ _ h => h) (Or.inl ⟨by rfl, fun w2 h2 => by (first | rfl | go_simp)⟩) (by assumption) ?_
    simp only [Act.put, List.getElem_toArray, List.getElem_cons_zero, List.getElem_cons_succ, List.setIfInBounds_toArray, List.set_cons_zero, List.set_cons_succ]
    refine wpAnyH_take (i := 1) (v := .pointer (some ⟨g, 0, none⟩)) rfl (by kernel_rfl) (by kernel_rfl) (by kernel_rfl) (fun _ _ _ h => h) (Or.inl ⟨by rfl, fun w2 h2 => by (first | rfl | go_simp)⟩) (by assumption) ?_
    simp only [Act.put, List.getElem_toArray, List.getElem_cons_zero, List.getElem_cons_succ, List.setIfInBounds_toArray, List.set_cons_zero, List.set_cons_succ]
    refine wpAnyH_take (i := 2) (v := .string (s.extract (1 + 0) m)) rfl (by kernel_rfl) (by kernel_rfl) (by kernel_rfl) (fun _ _ _ h => h) (Or.inl ⟨by rfl, fun w6 h6 => by have c := (h6.1.get 0).trans HQ0.out; (first | rfl | go_simp)⟩) (by assumption) ?_
    simp only [Act.put, List.getElem_toArray, List.getElem_cons_zero, List.getElem_cons_succ, List.setIfInBounds_toArray, List.set_cons_zero, List.set_cons_succ]
    refine wpAnyH_take (i := 4) (v := .slice (some ⟨g, 0, none⟩) 2 cap) rfl (by kernel_rfl) (by kernel_rfl) (by kernel_rfl) (fun _ _ _ h => h) (Or.inl ⟨by rfl, fun w2 h2 => by (first | rfl | go_simp)⟩) (by assumption) ?_
    simp only [Act.put, List.getElem_toArray, List.getElem_cons_zero, List.getElem_cons_succ, List.setIfInBounds_toArray, List.set_cons_zero, List.set_cons_succ]
    refine wpAnyH_take (i := 5) (v := .pointer (some ⟨g, 1, none⟩)) rfl (by kernel_rfl) (by kernel_rfl) (by kernel_rfl) (fun _ _ _ h => h) (Or.inl ⟨by rfl, fun w2 h2 => by (first | rfl | go_simp)⟩) (by assumption) ?_
    simp only [Act.put, List.getElem_toArray, List.getElem_cons_zero, List.getElem_cons_succ, List.setIfInBounds_toArray, List.set_cons_zero, List.set_cons_succ]
    refine wpAnyH_take (i := 6) (v := .string (s.extract m s.size)) rfl (by kernel_rfl) (by kernel_rfl) (by kernel_rfl) (fun _ _ _ h => h) (Or.inl ⟨by rfl, fun w6 h6 => by have c := (h6.1.get 1).trans HQ1.out; (first | rfl | go_simp)⟩) (by assumption) ?_
    simp only [Act.put, List.getElem_toArray, List.getElem_cons_zero, List.getElem_cons_succ, List.setIfInBounds_toArray, List.set_cons_zero, List.set_cons_succ]
    refine wpAnyH_ready (rs := [3]) (by kernel_rfl) (by simp) ?_
    refine AllReadyH.cons rfl (fun K hK => ?_) AllReadyH.nil
    rw [if_pos (by rfl)]
    go_simp
    refine (IHX.out _ _ HRX.out).mono ?_
    rintro e w4 ⟨rfl, hb4⟩
    refine hK.out _ _ ⟨hS.1.later hb4, bel_on' hS.2 hb4⟩ (fun hS => ?_)
    simp only [Act.put, List.getElem_toArray, List.getElem_cons_zero, List.getElem_cons_succ, List.setIfInBounds_toArray, List.set_cons_zero, List.set_cons_succ]
    refine wpAnyH_ready (rs := [7]) (by kernel_rfl) (by simp) ?_
    refine AllReadyH.cons rfl (fun K hK => ?_) AllReadyH.nil
    rw [if_pos (by rfl)]
    go_simp
    refine (IHY.out _ _ HRY.out).mono ?_
    rintro e w5 ⟨rfl, hb5⟩
    have hB5 := bel_on' hS.2 hb5
    refine hK.out _ _ ⟨hS.1.later hb5, hB5⟩ (fun hS => ?_)
    simp only [Act.put, List.getElem_toArray, List.getElem_cons_zero, List.getElem_cons_succ, List.setIfInBounds_toArray, List.set_cons_zero, List.set_cons_succ]
    refine wpAnyH_ready (rs := [8]) (by kernel_rfl) (by simp) ?_
    refine AllReadyH.cons rfl (fun K hK => ?_) AllReadyH.nil
    rw [if_pos (by rfl)]
    go_simp
    refine (s_l3Join _ _ _ HDX.out HDY.out).mono ?_
    rw [HFIN.out]
    rintro e w6 ⟨rfl, rfl⟩
    refine hK.out _ _ hS (fun hS => ?_)
    simp only [Act.put, List.getElem_toArray, List.getElem_cons_zero, List.getElem_cons_succ, List.setIfInBounds_toArray, List.set_cons_zero, List.set_cons_succ]
    refine wpAnyH_take (i := 9) (v := .string (txt 16 (Ct.bin 124 p x y).tr)) rfl (by kernel_rfl) (by kernel_rfl) (by kernel_rfl) (fun _ _ _ h => h) (Or.inl ⟨by rfl, fun w2 h2 => by (first | rfl | go_simp)⟩) (by assumption) ?_
    simp only [Act.put, List.getElem_toArray, List.getElem_cons_zero, List.getElem_cons_succ, List.setIfInBounds_toArray, List.set_cons_zero, List.set_cons_succ]
    refine wpAnyH_done (by kernel_rfl) ?_ _
    go_wp2_with fail
    go_ret
    exact ⟨rfl, hB5⟩
  case inr.inr.inr.inr.inl =>
    subst h
    have hv : ((s[0]'h0).toNat : Int) = 105 := by rw [byt_get s 0 h0, hop]; rfl
    have hn : n = 1 := by cases hbn; rfl
    subst hn
    have h1 : 1 < s.size := by omega
    have hx : hexVal (s[1]'h1) = (dig s 1 : Int) := by
      rw [byt_get s 1 h1, hexVal_nat (((digs_iff _ _ _).1 hd).2 0 (by omega))]
      rfl
    have HX := Lib.hid hx; clear hx
    have hpd : digF s 1 1 0 = dig s 1 := rfl
    have HPD := Lib.hid hpd; clear hpd
    have hpe : p = dig s 1 := hp.trans HPD.out
    have hax : txt 16 (fun q => dig (txt 16 (fun q => p &&& q)) (dig (txt 16 x.tr) q)) = txt 16 (fun q => p &&& x.tr q) := txt_congr fun q hq => by rw [HTX.out q hq, txt_dig 16 _ _ (Ct.tr_lt HWX.out q hq) (and_lt hp16)]
    have hay : txt 16 (fun q => dig (txt 16 (fun q => andn 15 p &&& q)) (dig (txt 16 y.tr) q)) = txt 16 (fun q => andn 15 p &&& y.tr q) := txt_congr fun q hq => by rw [HTY.out q hq, txt_dig 16 _ _ (Ct.tr_lt HWY.out q hq) (and_lt (andn_lt (by omega)))]
    have hfin : txt 16 (fun q => dig (txt 16 (fun q => p &&& x.tr q)) q ||| dig (txt 16 (fun q => andn 15 p &&& y.tr q)) q) = txt 16 (Ct.bin 105 p x y).tr := txt_congr fun q hq => by
      rw [tr_if, txt_dig 16 (fun q => p &&& x.tr q) q hq (and_lt hp16), txt_dig 16 (fun q => andn 15 p &&& y.tr q) q hq (and_lt (andn_lt (by omega))), ite_turn (Ct.tr_lt HWY.out q hq)]
    have hb1 : bits .andNot .i64 15 (p : Int) = ((andn 15 p : Nat) : Int) := bits_andn_nat 15 p (by omega) hp16
    rw [← hpe] at HX
    have HFIN := Lib.hid hfin; have HAX := Lib.hid hax; have HAY := Lib.hid hay
    clear hfin hax hay hop hl hu hbn hd hp hpe HPD
    go_enter Try.func91, Try.ntmps91
    go_wp2_with fail
    refine HP.out.mono ?_
    rintro e w1 ⟨v, rfl, hst, hb⟩
    obtain ⟨g, cap, cur, rfl, hrow, hcur⟩ := StrsAt.row hst (by simp)
    have q0 := hcur 0 _ rfl
    have q1 := hcur 1 _ rfl
    have hr1 := hrow.drew
    have hbd := hb.drew
    have HQ0 := Lib.hid q0; have HQ1 := Lib.hid q1
    clear q0 q1 hst hcur hrow hb
    go_wp2_with fail
    refine (s_l2Hex _ _).mono ?_
    rw [HX.out]
    rintro e w2 ⟨rfl, rfl⟩
    go_wp2_with fail
    refine wp_region_held_drew (S := fun w3 => RowAt w3 g 9 cur ∧ Below w.heap.size w w3) (by kernel_rfl) (⟨hr1, hbd⟩) (fun hS => ?_)
    simp only [List.size_toArray, List.length_cons, List.length_nil, Nat.zero_add, Nat.reduceAdd, Array.replicate_succ, Array.replicate_zero, List.push_toArray, List.append_toArray, List.nil_append, List.cons_append]
    refine wpAnyH_take (i := 0) (v := .int .i64 (p : Int)) rfl (by kernel_rfl) (by kernel_rfl) (by kernel_rfl) (fun _ _ _ h => h) (Or.inl ⟨by rfl, fun w2 h2 => by (first | rfl | go_simp)⟩) (by assumption) ?_
    simp only [Act.put, List.getElem_toArray, List.getElem_cons_zero, List.getElem_cons_succ, List.setIfInBounds_toArray, List.set_cons_zero, List.set_cons_succ]
    refine wpAnyH_take (i := 2) (v := .slice (some ⟨g, 0, none⟩) 2 cap) rfl (by kernel_rfl) (by kernel_rfl) (by kernel_rfl) (fun _ _ _ h => h) (Or.inl ⟨by rfl, fun w2 h2 => by (first | rfl | go_simp)⟩) (by assumption) ?_
    simp only [Act.put, List.getElem_toArray, List.getElem_cons_zero, List.getElem_cons_succ, List.setIfInBounds_toArray, List.set_cons_zero, List.set_cons_succ]
    refine wpAnyH_take (i := 3) (v := .pointer (some ⟨g, 0, none⟩)) rfl (by kernel_rfl) (by kernel_rfl) (by kernel_rfl) (fun _ _ _ h => h) (Or.inl ⟨by rfl, fun w2 h2 => by (first | rfl | go_simp)⟩) (by assumption) ?_
    simp only [Act.put, List.getElem_toArray, List.getElem_cons_zero, List.getElem_cons_succ, List.setIfInBounds_toArray, List.set_cons_zero, List.set_cons_succ]
    refine wpAnyH_take (i := 4) (v := .string (s.extract (1 + 1) m)) rfl (by kernel_rfl) (by kernel_rfl) (by kernel_rfl) (fun _ _ _ h => h) (Or.inl ⟨by rfl, fun w6 h6 => by have c := (h6.1.get 0).trans HQ0.out; (first | rfl | go_simp)⟩) (by assumption) ?_
    simp only [Act.put, List.getElem_toArray, List.getElem_cons_zero, List.getElem_cons_succ, List.setIfInBounds_toArray, List.set_cons_zero, List.set_cons_succ]
    refine wpAnyH_take (i := 7) (v := .int .i64 (p : Int)) rfl (by kernel_rfl) (by kernel_rfl) (by kernel_rfl) (fun _ _ _ h => h) (Or.inl ⟨by rfl, fun w2 h2 => by (first | rfl | go_simp)⟩) (by assumption) ?_
    simp only [Act.put, List.getElem_toArray, List.getElem_cons_zero, List.getElem_cons_succ, List.setIfInBounds_toArray, List.set_cons_zero, List.set_cons_succ]
    refine wpAnyH_take (i := 8) (v := .int .i64 ((andn 15 p : Nat) : Int)) rfl (by kernel_rfl) (by kernel_rfl) (by kernel_rfl) (fun _ _ _ h => h) (Or.inl ⟨by rfl, fun w2 h2 => by (first | rfl | go_simp)⟩) (by assumption) ?_
    simp only [Act.put, List.getElem_toArray, List.getElem_cons_zero, List.getElem_cons_succ, List.setIfInBounds_toArray, List.set_cons_zero, List.set_cons_succ]
    refine wpAnyH_take (i := 10) (v := .slice (some ⟨g, 0, none⟩) 2 cap) rfl (by kernel_rfl) (by kernel_rfl) (by kernel_rfl) (fun _ _ _ h => h) (Or.inl ⟨by rfl, fun w2 h2 => by (first | rfl | go_simp)⟩) (by assumption) ?_
    simp only [Act.put, List.getElem_toArray, List.getElem_cons_zero, List.getElem_cons_succ, List.setIfInBounds_toArray, List.set_cons_zero, List.set_cons_succ]
    refine wpAnyH_take (i := 11) (v := .pointer (some ⟨g, 1, none⟩)) rfl (by kernel_rfl) (by kernel_rfl) (by kernel_rfl) (fun _ _ _ h => h) (Or.inl ⟨by rfl, fun w2 h2 => by (first | rfl | go_simp)⟩) (by assumption) ?_
    simp only [Act.put, List.getElem_toArray, List.getElem_cons_zero, List.getElem_cons_succ, List.setIfInBounds_toArray, List.set_cons_zero, List.set_cons_succ]
    refine wpAnyH_take (i := 12) (v := .string (s.extract m s.size)) rfl (by kernel_rfl) (by kernel_rfl) (by kernel_rfl) (fun _ _ _ h => h) (Or.inl ⟨by rfl, fun w6 h6 => by have c := (h6.1.get 1).trans HQ1.out; (first | rfl | go_simp)⟩) (by assumption) ?_
    simp only [Act.put, List.getElem_toArray, List.getElem_cons_zero, List.getElem_cons_succ, List.setIfInBounds_toArray, List.set_cons_zero, List.set_cons_succ]
    refine wpAnyH_ready (rs := [1]) (by kernel_rfl) (by simp) ?_
    refine AllReadyH.cons rfl (fun K hK => ?_) AllReadyH.nil
    rw [if_pos (by rfl)]
    go_simp
    refine (s_l3Assert p _ hp16).mono ?_
    rintro e w2 ⟨rfl, rfl⟩
    refine hK.out _ _ hS (fun hS => ?_)
    simp only [Act.put, List.getElem_toArray, List.getElem_cons_zero, List.getElem_cons_succ, List.setIfInBounds_toArray, List.set_cons_zero, List.set_cons_succ]
    refine wpAnyH_ready (rs := [5]) (by kernel_rfl) (by simp) ?_
    refine AllReadyH.cons rfl (fun K hK => ?_) AllReadyH.nil
    rw [if_pos (by rfl)]
    go_simp
    refine (IHX.out _ _ HRX.out).mono ?_
    rintro e w4 ⟨rfl, hb4⟩
    refine hK.out _ _ ⟨hS.1.later hb4, bel_on' hS.2 hb4⟩ (fun hS => ?_)
    simp only [Act.put, List.getElem_toArray, List.getElem_cons_zero, List.getElem_cons_succ, List.setIfInBounds_toArray, List.set_cons_zero, List.set_cons_succ]
    refine wpAnyH_ready (rs := [6]) (by kernel_rfl) (by simp) ?_
    refine AllReadyH.cons rfl (fun K hK => ?_) AllReadyH.nil
    rw [if_pos (by rfl)]
    go_simp
    refine (s_l3Then _ _ _ (Dg.txt fun i _ => and_lt hp16) HDX.out).mono ?_
    rw [HAX.out]
    rintro e w2 ⟨rfl, rfl⟩
    refine hK.out _ _ hS (fun hS => ?_)
    simp only [Act.put, List.getElem_toArray, List.getElem_cons_zero, List.getElem_cons_succ, List.setIfInBounds_toArray, List.set_cons_zero, List.set_cons_succ]
    refine wpAnyH_ready (rs := [9]) (by kernel_rfl) (by simp) ?_
    refine AllReadyH.cons rfl (fun K hK => ?_) AllReadyH.nil
    rw [if_pos (by rfl)]
    go_simp
    refine (s_l3Assert (andn 15 p) _ (andn_lt (by omega))).mono ?_
    rintro e w2 ⟨rfl, rfl⟩
    refine hK.out _ _ hS (fun hS => ?_)
    simp only [Act.put, List.getElem_toArray, List.getElem_cons_zero, List.getElem_cons_succ, List.setIfInBounds_toArray, List.set_cons_zero, List.set_cons_succ]
    refine wpAnyH_ready (rs := [13]) (by kernel_rfl) (by simp) ?_
    refine AllReadyH.cons rfl (fun K hK => ?_) AllReadyH.nil
    rw [if_pos (by rfl)]
    go_simp
    refine (IHY.out _ _ HRY.out).mono ?_
    rintro e w5 ⟨rfl, hb5⟩
    have hB5 := bel_on' hS.2 hb5
    refine hK.out _ _ ⟨hS.1.later hb5, hB5⟩ (fun hS => ?_)
    simp only [Act.put, List.getElem_toArray, List.getElem_cons_zero, List.getElem_cons_succ, List.setIfInBounds_toArray, List.set_cons_zero, List.set_cons_succ]
    refine wpAnyH_ready (rs := [14]) (by kernel_rfl) (by simp) ?_
    refine AllReadyH.cons rfl (fun K hK => ?_) AllReadyH.nil
    rw [if_pos (by rfl)]
    go_simp
    refine (s_l3Then _ _ _ (Dg.txt fun i _ => and_lt (andn_lt (by omega))) HDY.out).mono ?_
    rw [HAY.out]
    rintro e w2 ⟨rfl, rfl⟩
    refine hK.out _ _ hS (fun hS => ?_)
    simp only [Act.put, List.getElem_toArray, List.getElem_cons_zero, List.getElem_cons_succ, List.setIfInBounds_toArray, List.set_cons_zero, List.set_cons_succ]
    refine wpAnyH_ready (rs := [15]) (by kernel_rfl) (by simp) ?_
    refine AllReadyH.cons rfl (fun K hK => ?_) AllReadyH.nil
    rw [if_pos (by rfl)]
    go_simp
    refine (s_l3Join _ _ _ (Dg.txt fun i _ => and_lt hp16) (Dg.txt fun i _ => and_lt (andn_lt (by omega)))).mono ?_
    rw [HFIN.out]
    rintro e w2 ⟨rfl, rfl⟩
    refine hK.out _ _ hS (fun hS => ?_)
    simp only [Act.put, List.getElem_toArray, List.getElem_cons_zero, List.getElem_cons_succ, List.setIfInBounds_toArray, List.set_cons_zero, List.set_cons_succ]
    refine wpAnyH_take (i := 16) (v := .string (txt 16 (Ct.bin 105 p x y).tr)) rfl (by kernel_rfl) (by kernel_rfl) (by kernel_rfl) (fun _ _ _ h => h) (Or.inl ⟨by rfl, fun w2 h2 => by (first | rfl | go_simp)⟩) (by assumption) ?_
    simp only [Act.put, List.getElem_toArray, List.getElem_cons_zero, List.getElem_cons_succ, List.setIfInBounds_toArray, List.set_cons_zero, List.set_cons_succ]
    refine wpAnyH_done (by kernel_rfl) ?_ _
    go_wp2_with fail
    go_ret
    exact ⟨rfl, hB5⟩
  all_goals (subst h; cases hbn)
theorem s_l5Trans : ∀ (x : Ct) (s : ByteArray) (w : World), Reads s x → Calls Try.prog 91 #[.string s] w fun e w' => e = .returned (.string (txt 16 x.tr)) ∧ Below w.heap.size w w'
  | .leaf op F, s, w, hR => s_l5Trans_leaf op F s w hR
  | .un op p x, s, w, hR => s_l5Trans_un op p x (s_l5Trans x) s w hR
  | .bin op p x y, s, w, hR => s_l5Trans_bin op p x y (s_l5Trans x) (s_l5Trans y) s w hR
end Go.Proofs.Ytjbfebjdegabaaa
