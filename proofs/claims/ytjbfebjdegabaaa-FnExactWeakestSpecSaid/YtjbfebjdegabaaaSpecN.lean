/- The reference's refinement, its transformers of specifications, its conjunctive tables. -/
import Derived.Test.YtjbfebjdegabaaaSpecG
import Derived.Test.YtjbfebjdegabaaaPlain9
import Derived.Test.YtjbfebjdegabaaaPlain2
namespace Go.Proofs.Ytjbfebjdegabaaa
set_option linter.unusedSimpArgs false
set_option linter.unusedVariables false
set_option maxRecDepth 4000
open Go.RowKit

theorem box_txt {R : Nat → Nat} (hR : ∀ s, s < 4 → R s < 16) : txt 16 (fun p => andn 15 (dig (txt 16 (fun p => fDia R p 4)) (andn 15 p))) = txt 16 (fun q => fBox R q) :=
  txt_congr fun p _ => by rw [txt_dig 16 (fun p => fDia R p 4) _ (andn_lt (by omega)) (fDia_lt _ _), box_dia hR]
theorem s_RefinesTrans (t u : ByteArray) (w : World) (ht : t.size ≤ 1048576) (hu : u.size ≤ 1048576) : Calls Try.prog 96 #[.string t, .string u] w fun e w' => e = .returned (.bool ((trOk t && trOk u) && refB (dig t) (dig u) 16)) ∧ w = w' := by
  cases hok : (trOk t && trOk u)
  · go_enter Try.func96, Try.ntmps96
    go_wp2_with (go_at_call 139; refine (s_l3Both _ _ _ ht hu).mono ?_; rw [hok]; rintro e w' ⟨rfl, rfl⟩)
    go_ret
    exact ⟨rfl, rfl⟩
  · have g := hok
    rw [Bool.and_eq_true] at g
    have g1 := Dg.tr g.1
    have g2 := Dg.tr g.2
    have hr : ((txt 16 (fun p => dig t p ||| dig u p)).toList == u.toList) = refB (dig t) (dig u) 16 := by
      rw [toList_beq, Bool.eq_iff_iff, decide_eq_true_iff, refB_iff]
      conv => lhs; rw [← txt_tr g.2]
      constructor
      · intro h i hi
        have h' := txt_inj (fun i _ => or_lt (dig_lt t i) (by rw [txt_tr g.2]; exact dig_lt u i)) (fun i _ => dig_lt _ _) h i hi
        rw [txt_tr g.2] at h'
        exact (or_eq_iff _ _).1 h'
      · intro h
        refine txt_congr fun i hi => ?_
        rw [txt_tr g.2]
        exact (or_eq_iff _ _).2 (h i hi)
    have G1 := Lib.hid g1; have G2 := Lib.hid g2; have HR := Lib.hid hr; clear g1 g2 g hr
    go_enter Try.func96, Try.ntmps96
    go_wp2_with (first | (go_at_call 139; refine (s_l3Both _ _ _ ht hu).mono ?_; rw [hok]; rintro e w' ⟨rfl, rfl⟩) | (go_at_call 137; refine (s_l3Join _ _ _ G1.out G2.out).mono ?_; rintro e w' ⟨rfl, rfl⟩))
    go_ret
    exact ⟨ret_bool (by rw [Bool.true_and, ← HR.out]), rfl⟩
theorem s_l4Spec (p : Nat) (r : ByteArray) (w : World) (hp : p < 16) (h : Dg 4 r) : Calls Try.prog 97 #[.int .i64 (p : Int), .string r] w fun e w' => e = .returned (.string (txt 16 (fSpec p (dig r)))) ∧ w = w' := by
  have g1 : Dg 16 (txt 16 (fun q => p &&& q)) := Dg.txt fun i _ => and_lt hp
  have g2 : Dg 16 (txt 16 (fun p => fDia (dig r) p 4)) := Dg.txt fun i _ => fDia_lt _ _
  have g3 : Dg 16 (txt 16 (fun q => fBox (dig r) q)) := Dg.txt fun i _ => fBox_lt _ _
  have e1 := box_txt (R := dig r) (fun s _ => dig_lt r s)
  have e2 : txt 16 (fun q => dig (txt 16 (fun q => p &&& q)) (dig (txt 16 (fun q => fBox (dig r) q)) q)) = txt 16 (fSpec p (dig r)) := txt_congr fun q hq => by
    rw [txt_dig 16 (fun q => fBox (dig r) q) q hq (fBox_lt _ _), txt_dig 16 (fun q => p &&& q) _ (fBox_lt _ _) (and_lt hp)]
    rfl
  have G1 := Lib.hid g1; have G2 := Lib.hid g2; have G3 := Lib.hid g3; have E1 := Lib.hid e1; have E2 := Lib.hid e2; have H := Lib.hid h
  clear g1 g2 g3 e1 e2 h
  go_enter Try.func97, Try.ntmps97
  go_wp2_with fail
  refine (s_l3Assert p _ hp).mono ?_
  rintro e w' ⟨rfl, rfl⟩
  go_wp2_with fail
  refine (s_l3Angel _ _ H.out).mono ?_
  rintro e w' ⟨rfl, rfl⟩
  go_wp2_with fail
  refine (s_l3Dual _ _ G2.out).mono ?_
  rw [E1.out]
  rintro e w' ⟨rfl, rfl⟩
  go_wp2_with fail
  refine (s_l3Then _ _ _ G1.out G3.out).mono ?_
  rw [E2.out]
  rintro e w' ⟨rfl, rfl⟩
  go_wp2_with fail
  go_ret
  exact ⟨rfl, rfl⟩
set_option maxHeartbeats 1000000 in
theorem s_l4Conjunctive (t : ByteArray) (w : World) (h : Dg 16 t) : Calls Try.prog 102 #[.string t] w fun e w' => e = .returned (.bool (conjB (dig t))) ∧ w = w' := by
  go_enter Try.func102, Try.ntmps102
  go_wp2_with fail
  go_loop [3] (fun i => ∃ k : Nat, k ≤ 16 ∧ i = .int .i64 k ∧ Hid (conjTo (dig t) k = true)) (fun i => 16 - (intOf i).toNat)
  case atStart => exact ⟨0, by omega, rfl, Lib.hid rfl⟩
  case round =>
    obtain ⟨k, hk, rfl, HT⟩ := hrel
    by_cases hlt : k < 16
    · have hd : decide ((k : Int) < 16) = true := by simp; omega
      go_wp2_with fail
      clear hd
      go_loop [4] (fun i => ∃ j : Nat, j ≤ 16 ∧ i = .int .i64 j ∧ Hid (conjRow (dig t) k j = true)) (fun i => 16 - (intOf i).toNat)
      case atStart => exact ⟨0, by omega, rfl, Lib.hid rfl⟩
      case round =>
        obtain ⟨j, hj, rfl, HR⟩ := hrel
        by_cases hlj : j < 16
        · have e1 := bits_and_nat k j (by omega) (by omega)
          have hkj : k &&& j < 16 := and_lt hlt
          have e2 := bits_and_nat (dig t k) (dig t j) (by have := dig_lt t k; omega) (by have := dig_lt t j; omega)
          by_cases hq : dig t (k &&& j) = (dig t k &&& dig t j)
          · have b1 : ((dig t (k &&& j) : Int) != ((dig t k &&& dig t j : Nat) : Int)) = false := by rw [hq]; simp
            have HQ := Lib.hid hq; clear hq
            go_wp2_with fail
            refine (s_l3Value _ _ _ h hkj).mono ?_
            rintro e w' ⟨rfl, rfl⟩
            go_wp2_with fail
            refine (s_l3Value _ _ _ h hlt).mono ?_
            rintro e w' ⟨rfl, rfl⟩
            go_wp2_with fail
            refine (s_l3Value _ _ _ h hlj).mono ?_
            rintro e w' ⟨rfl, rfl⟩
            go_wp2_with fail
            go_round
            case rel => exact ⟨j + 1, by omega, by go_num, Lib.hid (conjRow_succ HR.out HQ.out)⟩
            case measure => simp [intOf]; omega
          · have b1 : ((dig t (k &&& j) : Int) != ((dig t k &&& dig t j : Nat) : Int)) = true := by rw [bne_iff_ne]; omega
            have HQ := Lib.hid hq; clear hq
            go_wp2_with fail
            refine (s_l3Value _ _ _ h hkj).mono ?_
            rintro e w' ⟨rfl, rfl⟩
            go_wp2_with fail
            refine (s_l3Value _ _ _ h hlt).mono ?_
            rintro e w' ⟨rfl, rfl⟩
            go_wp2_with fail
            refine (s_l3Value _ _ _ h hlj).mono ?_
            rintro e w' ⟨rfl, rfl⟩
            go_wp2_with fail
            go_ret
            exact ⟨ret_bool (conjB_no hlt hlj HQ.out).symm, rfl⟩
        · obtain rfl : j = 16 := by omega
          go_wp2_with fail
          go_round
          case rel => exact ⟨k + 1, by omega, by go_num, Lib.hid (conjTo_succ HT.out HR.out)⟩
          case measure => simp [intOf]; omega
    · obtain rfl : k = 16 := by omega
      go_wp2_with fail
      go_ret
      exact ⟨ret_bool (show true = conjTo (dig t) 16 from HT.out.symm), rfl⟩
theorem s_IsConjunctive (t : ByteArray) (w : World) (ht : t.size ≤ 1048576) : Calls Try.prog 151 #[.string t] w fun e w' => e = .returned (.bool (trOk t && conjB (dig t))) ∧ w = w' := by
  cases hok : trOk t
  · go_enter Try.func151, Try.ntmps151
    go_wp2_with (go_at_call 39; refine (s_TransValid _ _ ht).mono ?_; rw [hok]; rintro e w' ⟨rfl, rfl⟩)
    go_ret
    exact ⟨rfl, rfl⟩
  · have G := Lib.hid (Dg.tr hok)
    go_enter Try.func151, Try.ntmps151
    go_wp2_with (first | (go_at_call 39; refine (s_TransValid _ _ ht).mono ?_; rw [hok]; rintro e w' ⟨rfl, rfl⟩) | (go_at_call 102; refine (s_l4Conjunctive _ _ G.out).mono ?_; rintro e w' ⟨rfl, rfl⟩))
    go_ret
    exact ⟨rfl, rfl⟩
set_option maxHeartbeats 1000000 in
theorem s_l4Rel (t : ByteArray) (w : World) (h : Dg 16 t) : Calls Try.prog 152 #[.string t] w fun e w' => e = .returned (.string (txt 4 (fun s => fLead (dig t) s 16))) ∧ w = w' := by
  obtain ⟨F, hF⟩ : ∃ F : Nat → Nat, F = fun s => fLead (dig t) s 16 := ⟨_, rfl⟩
  rw [← hF]
  have HF := Lib.hid hF; clear hF
  go_enter Try.func152, Try.ntmps152
  go_wp2_with fail
  go_loop [3, 4] (fun o i => ∃ k : Nat, k ≤ 4 ∧ i = .int .i64 k ∧ o = .string (txt k F)) (fun _ i => 4 - (intOf i).toNat)
  case atStart => exact ⟨0, by omega, rfl, rfl⟩
  case round =>
    obtain ⟨k, hk, rfl, rfl⟩ := hrel
    by_cases hlt : k < 4
    · have hz : (txt k F).size ≤ 4 := by rw [txt_size]; exact hk
      have HT := Lib.hid (txt_snoc k F)
      have hd : decide ((k : Int) < 4) = true := by simp; omega
      go_wp2_with fail
      clear hd
      go_loop [5, 6] (fun n i => ∃ j : Nat, j ≤ 16 ∧ i = .int .i64 j ∧ n = .int .i64 (fLead (dig t) k j : Int)) (fun _ i => 16 - (intOf i).toNat)
      case atStart => exact ⟨0, by omega, rfl, rfl⟩
      case round =>
        obtain ⟨j, hj, rfl, rfl⟩ := hrel
        by_cases hlj : j < 16
        · have hl := fLead_lt (dig t) k j
          have e1 := bits_and_nat (fLead (dig t) k j) j (by omega) (by omega)
          have hdl := dig_lt t j
          cases hb : (dig t j).testBit k
          · have HB := Lib.hid hb; clear hb
            go_wp2_with fail
            refine (s_l3Value _ _ _ h hlj).mono ?_
            rintro e w' ⟨rfl, rfl⟩
            go_wp2_with fail
            refine (s_l1Has (dig t j) k _ (by omega) (by omega)).mono ?_
            rw [HB.out]
            rintro e w' ⟨rfl, rfl⟩
            go_wp2_with fail
            go_round
            case rel => exact ⟨j + 1, by omega, by go_num, by rw [fLead_no HB.out]⟩
            case measure => simp [intOf]; omega
          · have HB := Lib.hid hb; clear hb
            go_wp2_with fail
            refine (s_l3Value _ _ _ h hlj).mono ?_
            rintro e w' ⟨rfl, rfl⟩
            go_wp2_with fail
            refine (s_l1Has (dig t j) k _ (by omega) (by omega)).mono ?_
            rw [HB.out]
            rintro e w' ⟨rfl, rfl⟩
            go_wp2_with fail
            go_round
            case rel => exact ⟨j + 1, by omega, by go_num, by rw [fLead_yes HB.out]⟩
            case measure => simp [intOf]; omega
        · obtain rfl : j = 16 := by omega
          have hl := fLead_lt (dig t) k 16
          have HFk := Lib.hid (show fLead (dig t) k 16 = F k by rw [HF.out])
          go_wp2_with fail
          refine (s_l2Digit _ _ hl).mono ?_
          rw [HFk.out]
          rintro e w' ⟨rfl, rfl⟩
          go_wp2_with fail
          go_round
          case rel => exact ⟨k + 1, by omega, by go_num, by rw [← HT.out]⟩
          case measure => simp [intOf]; omega
    · obtain rfl : k = 4 := by omega
      go_wp2_with fail
      go_ret
      exact ⟨rfl, rfl⟩
theorem s_SpecOf (t : ByteArray) (w : World) (ht : t.size ≤ 1048576) : Calls Try.prog 103 #[.string t] w fun e w' => e = .returned (.tuple #[.int .i64 ((if trOk t && conjB (dig t) then dig t 15 else 0 : Nat) : Int), .string (optS (trOk t && conjB (dig t)) (txt 4 (fun s => fLead (dig t) s 16))), .bool (trOk t && conjB (dig t))]) ∧ w = w' := by
  cases hok : (trOk t && conjB (dig t))
  · go_enter Try.func103, Try.ntmps103
    go_wp2_with (go_at_call 151; refine (s_IsConjunctive _ _ ht).mono ?_; rw [hok]; rintro e w' ⟨rfl, rfl⟩)
    go_ret3
    exact ⟨rfl, rfl⟩
  · have g := hok
    rw [Bool.and_eq_true] at g
    have G := Lib.hid (Dg.tr g.1); clear g
    go_enter Try.func103, Try.ntmps103
    go_wp2_with fail
    refine (s_IsConjunctive _ _ ht).mono ?_
    rw [hok]
    rintro e w' ⟨rfl, rfl⟩
    go_wp2_with fail
    refine (s_l3Value t 15 _ G.out (by omega)).mono ?_
    rintro e w' ⟨rfl, rfl⟩
    go_wp2_with fail
    refine (s_l4Rel _ _ G.out).mono ?_
    rintro e w' ⟨rfl, rfl⟩
    go_wp2_with fail
    go_ret3
    exact ⟨rfl, rfl⟩
end Go.Proofs.Ytjbfebjdegabaaa
