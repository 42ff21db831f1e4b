/- The reference's proofs of loops: FindProof, ProvesLoop. -/
import Derived.Test.YtiaeakpgldpaiaaQSpecR
import Derived.Test.YtiaeakpgldpaiaaQJ1
namespace Go.Proofs.Ytiaeakpgldpaiaa
set_option linter.unusedSimpArgs false
set_option linter.unusedVariables false
set_option maxRecDepth 4000
open Go.RowKit

/-- The body of a proof: from p only. -/
def fBody (p : Nat) (T : Nat → Nat) : Nat → Nat := fun x => p &&& T x
theorem fBody_lt {p : Nat} (T : Nat → Nat) (hp : p < 16) (x : Nat) : fBody p T x < 16 := and_lt hp
theorem fBody_mono (p : Nat) {T : Nat → Nat} (hm : Mono T) : Mono (fBody p T) := fun a b ha hb h => imp_and (imp_refl _) (hm a b ha hb h)
set_option maxHeartbeats 1000000 in
theorem s_FindProof (p : Int) (t : ByteArray) (q : Int) (w : World) (ht : t.size ≤ 1048576) : Calls Try.prog 68 #[.int .i64 p, .string t, .int .i64 q] w fun e w' => ∃ v, e = .returned (.tuple #[.int .i64 (optI ((trOk t && cvB p) && cvB q) (fWhile p.toNat (dig t) q.toNat)), v]) ∧ IntsAt w.heap.size w' v (rkList ((trOk t && cvB p) && cvB q) (fBody p.toNat (dig t)) (andn q.toNat p.toNat)) ∧ Below w.heap.size w w' := by
  have hr0 : RowAt (w.alloc (.cells #[] 3)) w.heap.size 3 #[] := RowAt.fresh w 3 #[]
  have hb0 : Below w.heap.size w (w.alloc (.cells #[] 3)) := (Below.refl _ _).alloc (Nat.le_refl _) _
  have hi := IntsAt.of_lit (B := w.heap.size) (zs := []) (Nat.le_refl _) hr0 (by unfold maxLen; simp)
  have HI : Hid (IntsAt w.heap.size (w.alloc (.cells #[] 3)) (.slice (some ⟨w.heap.size, 0, none⟩) 0 0) []) := Lib.hid hi
  clear hi hr0
  cases hok : (trOk t && cvB p)
  · go_enter Try.func68, Try.ntmps68
    go_wp2_with (go_at_call 144; refine (s_l7Ready _ _ _ ht).mono ?_; rw [hok]; rintro e w' ⟨rfl, rfl⟩)
    go_ret2
    exact ⟨_, rfl, HI.out, hb0⟩
  cases hq : cvB q
  · go_enter Try.func68, Try.ntmps68
    go_wp2_with (first | (go_at_call 144; refine (s_l7Ready _ _ _ ht).mono ?_; rw [hok]; rintro e w' ⟨rfl, rfl⟩) | (go_at_call 145; refine (s_ConditionValid _ _).mono ?_; rw [hq]; rintro e w' ⟨rfl, rfl⟩))
    go_ret2
    exact ⟨_, rfl, HI.out, hb0⟩
  · have g := hok
    rw [Bool.and_eq_true] at g
    obtain ⟨n, hn, rfl⟩ := (cvB_iff p).1 g.2
    obtain ⟨m, hm, rfl⟩ := (cvB_iff q).1 hq
    have g1 := Dg.tr g.1
    have gm := dig_mono g.1
    have hqp : andn m n < 16 := andn_lt hm
    have e1 := bits_andn_nat m n hm hn
    have hbd : Bd (fBody n (dig t)) := fun x _ => fBody_lt _ hn x
    have hbm := fBody_mono n gm
    have e2 : txt 16 (fun x => dig (txt 16 (fun q => n &&& q)) (dig t x)) = txt 16 (fBody n (dig t)) := txt_congr fun x _ => by rw [txt_dig 16 (fun q => n &&& q) _ (dig_lt _ _) (and_lt hn)]; rfl
    have e3 : dig (txt 16 (fWhile n (dig t))) m = fWhile n (dig t) m := txt_dig 16 _ m hm (fWhile_bd hn m hm)
    have e4 : trOk (txt 16 (fBody n (dig t))) = true := trOk_txt hbd hbm
    have e5 : zrow 4 (rank (dig (txt 16 (fBody n (dig t)))) (andn m n)) = zrow 4 (rank (fBody n (dig t)) (andn m n)) := zrow_congr fun s _ => rank_congr hqp (dig_bd _) (fun i hi => txt_dig 16 _ i hi (fBody_lt _ hn i)) s
    have hrs := fun w => s_RanksOf (txt 16 (fBody n (dig t))) (andn m n : Nat) w (by rw [txt_size]; omega)
    rw [e4, cvB_nat _ hqp] at hrs
    have G1 := Lib.hid g1; have GM := Lib.hid gm; have E2 := Lib.hid e2; have E3 := Lib.hid e3; have E5 := Lib.hid e5; have HRS := Lib.hid hrs
    clear g g1 gm e2 e3 e4 e5 hrs hbm hbd hb0
    go_enter Try.func68, Try.ntmps68
    go_wp2_with (first | (go_at_call 144; refine (s_l7Ready _ _ _ ht).mono ?_; rw [hok]; rintro e w' ⟨rfl, rfl⟩) | (go_at_call 145; refine (s_ConditionValid _ _).mono ?_; rw [hq]; rintro e w' ⟨rfl, rfl⟩))
    refine (s_l3Assert n _ hn).mono ?_
    rintro e w' ⟨rfl, rfl⟩
    go_wp2_with fail
    refine (s_l3Then _ _ _ (Dg.txt fun i _ => and_lt hn) G1.out).mono ?_
    rw [E2.out]
    rintro e w' ⟨rfl, rfl⟩
    go_wp2_with fail
    refine (s_l8While_t n t _ hn G1.out GM.out).mono ?_
    rintro e w' ⟨rfl, rfl⟩
    go_wp2_with fail
    refine (s_l3Value _ m _ (Dg.txt fun i hi => fWhile_bd hn i hi) hm).mono ?_
    rw [E3.out]
    rintro e w' ⟨rfl, rfl⟩
    go_wp2_with fail
    refine (HRS.out _).mono ?_
    rintro e w1 ⟨v, rfl, hiv, hb1⟩
    have HIV := Lib.hid hiv; clear hiv
    go_wp2_with fail
    go_ret2
    refine ⟨v, rfl, ?_, hb1⟩
    have h : IntsAt w.heap.size w1 v (zrow 4 (rank (dig (txt 16 (fBody n (dig t)))) (andn m n))) := HIV.out
    rw [E5.out] at h
    exact h
set_option maxHeartbeats 2000000 in
theorem s_ProvesLoop (p : Int) (t : ByteArray) (v : Int) (rv : Value) (zs : List Int) (q : Int) (B : Nat) (w : World) (ht : t.size ≤ 1048576) (hrv : IntsAt B w rv zs) (hzl : zs.length ≤ 1048576) : Calls Try.prog 65 #[.int .i64 p, .string t, .int .i64 v, rv, .int .i64 q] w fun e w' => e = .returned (.bool (plB (trOk t && cvB p) (dig t) p.toNat v zs q)) ∧ Below w.heap.size w w' := by
  obtain ⟨g, cap, cur, rfl, _, hrow, _, _, _, hcur⟩ := hrv
  unfold plB plHead
  cases hok : (trOk t && cvB p)
  · go_enter Try.func65, Try.ntmps65
    go_wp2_with fail
    refine (s_l7Ready _ _ _ ht).mono ?_
    rw [hok]
    rintro e w' ⟨rfl, rfl⟩
    go_wp2_with fail
    go_ret
    exact ⟨rfl, Below.refl _ _⟩
  cases hv : cvB v
  · go_enter Try.func65, Try.ntmps65
    go_wp2_with fail
    refine (s_l7Ready _ _ _ ht).mono ?_
    rw [hok]
    rintro e w' ⟨rfl, rfl⟩
    go_wp2_with fail
    refine (s_ConditionValid v _).mono ?_
    rw [hv]
    rintro e w' ⟨rfl, rfl⟩
    go_wp2_with fail
    go_ret
    exact ⟨rfl, Below.refl _ _⟩
  cases hq : cvB q
  · go_enter Try.func65, Try.ntmps65
    go_wp2_with fail
    refine (s_l7Ready _ _ _ ht).mono ?_
    rw [hok]
    rintro e w' ⟨rfl, rfl⟩
    go_wp2_with fail
    refine (s_ConditionValid v _).mono ?_
    rw [hv]
    rintro e w' ⟨rfl, rfl⟩
    go_wp2_with fail
    refine (s_ConditionValid q _).mono ?_
    rw [hq]
    rintro e w' ⟨rfl, rfl⟩
    go_wp2_with fail
    go_ret
    exact ⟨rfl, Below.refl _ _⟩
  have gg := hok
  rw [Bool.and_eq_true] at gg
  obtain ⟨n, hn, rfl⟩ := (cvB_iff p).1 gg.2
  obtain ⟨m, hm, rfl⟩ := (cvB_iff v).1 hv
  obtain ⟨k, hk, rfl⟩ := (cvB_iff q).1 hq
  have G1 := Lib.hid (Dg.tr gg.1); clear gg
  by_cases h4 : zs.length = 4
  rotate_left
  · have b4 : ((zs.length : Int) != 4) = true := by rw [bne_iff_ne]; omega
    have H4 := Lib.hid h4; clear h4
    go_enter Try.func65, Try.ntmps65
    go_wp2_with fail
    refine (s_l7Ready _ _ _ ht).mono ?_
    rw [hok]
    rintro e w' ⟨rfl, rfl⟩
    go_wp2_with fail
    refine (s_ConditionValid _ _).mono ?_
    rw [hv]
    rintro e w' ⟨rfl, rfl⟩
    go_wp2_with fail
    refine (s_ConditionValid _ _).mono ?_
    rw [hq]
    rintro e w' ⟨rfl, rfl⟩
    go_wp2_with fail
    go_ret
    exact ⟨ret_bool (by rw [decide_eq_false H4.out]; rfl), Below.refl _ _⟩
  have b4 : ((zs.length : Int) != 4) = false := by rw [h4]; rfl
  have e1 := bits_andn_nat m n hm hn
  have e2 := bits_andn_nat (andn m n) k (andn_lt hm) hk
  by_cases hz : andn (andn m n) k = 0
  rotate_left
  · have bz : ((andn (andn m n) k : Int) != 0) = true := by rw [bne_iff_ne]; omega
    have H4 := Lib.hid h4; have HZ := Lib.hid hz; clear h4 hz
    go_enter Try.func65, Try.ntmps65
    go_wp2_with fail
    refine (s_l7Ready _ _ _ ht).mono ?_
    rw [hok]
    rintro e w' ⟨rfl, rfl⟩
    go_wp2_with fail
    refine (s_ConditionValid _ _).mono ?_
    rw [hv]
    rintro e w' ⟨rfl, rfl⟩
    go_wp2_with fail
    refine (s_ConditionValid _ _).mono ?_
    rw [hq]
    rintro e w' ⟨rfl, rfl⟩
    go_wp2_with fail
    go_ret
    exact ⟨ret_bool (by rw [show decide (andn (andn (m : Int).toNat (n : Int).toNat) (k : Int).toNat = 0) = false from decide_eq_false HZ.out, Bool.and_false, Bool.false_and]), Below.refl _ _⟩
  have bz : ((andn (andn m n) k : Int) != 0) = false := by simp [hz]
  obtain ⟨r, hr⟩ : ∃ r : Nat → Int, r = fun i => zs.getD i 0 := ⟨_, rfl⟩
  have hcr : ∀ i, i < 4 → cur[i]? = some (Value.int .i64 (r i)) := fun i hi => hcur i _ (by rw [hr]; show zs[i]? = some (zs.getD i 0); rw [List.getD_eq_getElem?_getD, List.getElem?_eq_getElem (by omega)]; rfl)
  have hfin : (((((true && true) && true) && decide (zs.length = 4)) && decide (andn (andn (m : Int).toNat (n : Int).toNat) (k : Int).toNat = 0)) && plTo (dig t) (n : Int).toNat (m : Int).toNat (fun i => zs.getD i 0) 4) = plTo (dig t) n m r 4 := by
    rw [hr, decide_eq_true h4, show decide (andn (andn (m : Int).toNat (n : Int).toNat) (k : Int).toNat = 0) = true from decide_eq_true hz]
    simp
  rw [hfin]
  have e3 := bits_and_nat m n (by omega) (by omega)
  have hmn : m &&& n < 16 := and_lt hm
  have hl4 : (zs.length : Int) = 4 := by omega
  have HCR := Lib.hid hcr; have HL4 := Lib.hid h4; clear hcr hfin h4 hz hcur hr
  have z4 : 4 ≤ zs.length := by have := HL4.out; omega
  go_enter Try.func65, Try.ntmps65
  go_wp2_with fail
  refine (s_l7Ready _ _ _ ht).mono ?_
  rw [hok]
  rintro e w' ⟨rfl, rfl⟩
  go_wp2_with fail
  refine (s_ConditionValid _ _).mono ?_
  rw [hv]
  rintro e w' ⟨rfl, rfl⟩
  go_wp2_with fail
  refine (s_ConditionValid _ _).mono ?_
  rw [hq]
  rintro e w' ⟨rfl, rfl⟩
  go_wp2_with fail
  clear b4 bz hl4
  go_loopw [11] (fun i wr => ∃ s : Nat, s ≤ 4 ∧ i = .int .i64 s ∧ Hid (plTo (dig t) n m r s = true) ∧ RowAt wr g 3 cur ∧ Below w.heap.size w wr) (fun i _ => 4 - (intOf i).toNat)
  case atStart => exact ⟨0, by omega, rfl, Lib.hid rfl, hrow, Below.refl _ _⟩
  case round =>
    clear hrow
    obtain ⟨s, hs, rfl, HP, hrow, hbel⟩ := hrel
    by_cases hlt : s < 4
    · have hd : decide ((s : Int) < 4) = true := by simp; omega
      go_wp2_with fail
      clear hd
      go_loopw [12, 13] (fun l i wr => ∃ u : Nat, u ≤ 4 ∧ i = .int .i64 u ∧ l = .int .i64 (plLess m r s u : Int) ∧ RowAt wr g 3 cur ∧ Below w.heap.size w wr) (fun _ i _ => 4 - (intOf i).toNat)
      case atStart => exact ⟨0, by omega, rfl, rfl, hrow, hbel⟩
      case round =>
        clear hrow hbel
        obtain ⟨u, hu, rfl, rfl, hrow, hbel⟩ := hrel
        by_cases hlu : u < 4
        · have c1 : wr.cell? ⟨g, u, none⟩ = some (.int .i64 (r u)) := (hrow.get u).trans (HCR.out u hlu)
          have c2 : wr.cell? ⟨g, s, none⟩ = some (.int .i64 (r s)) := (hrow.get s).trans (HCR.out s hlt)
          have i1 : (0 : Int) ≤ (u : Int) ∧ (u : Int) < (zs.length : Int) := ⟨by omega, by omega⟩
          have i2 : (0 : Int) ≤ (s : Int) ∧ (s : Int) < (zs.length : Int) := ⟨by omega, by omega⟩
          have hw := wrap_one (t := u) (by omega)
          have hl := plLess_le m r s u hu
          have e5 := bits_or_nat (plLess m r s u) (one u) (by omega) (one_lt16 (by omega))
          cases hb : m.testBit u
          · have hB := fun w => (s_l1Has m u w (by omega) (by omega)).mono (R' := fun e w' => e = .returned (.bool false) ∧ w' = w) fun e w' h => ⟨h.1.trans (by rw [hb]), h.2.symm⟩
            have hno : plIs m r s u = false := by unfold plIs; rw [hb]; rfl
            have HB := Lib.hid hB; have HNO := Lib.hid hno; clear hB hno hb
            go_wp2_with fail
            go_quiet ((go_at_call 98; exact Calls.quiet_of_same (HB.out _)))
            go_wp2_with fail
            go_roundw
            case rel => exact ⟨u + 1, by omega, by go_num, by rw [plLess_no HNO.out], hrow.drewN _, bel_drewN hbel _⟩
            case measure => simp [intOf]; omega
          · have hB := fun w => (s_l1Has m u w (by omega) (by omega)).mono (R' := fun e w' => e = .returned (.bool true) ∧ w' = w) fun e w' h => ⟨h.1.trans (by rw [hb]), h.2.symm⟩
            have HB := Lib.hid hB; have HBB := Lib.hid hb; clear hB hb
            by_cases hru : r u < r s
            · by_cases hge : 0 ≤ r u
              · have hyes : plIs m r s u = true := by unfold plIs; rw [HBB.out, decide_eq_true hru, decide_eq_true hge]; rfl
                have HYES := Lib.hid hyes; clear hyes
                have d1 : decide (r u < r s) = true := decide_eq_true hru
                have d2 : decide (0 ≤ r u) = true := decide_eq_true hge
                go_wp2_with fail
                go_quiet ((go_at_call 98; exact Calls.quiet_of_same (HB.out _)))
                go_wp2_with fail
                go_roundw
                case rel => exact ⟨u + 1, by omega, by go_num, by rw [plLess_yes HYES.out], hrow.drewN _, bel_drewN hbel _⟩
                case measure => simp [intOf]; omega
              · have hno : plIs m r s u = false := by unfold plIs; rw [decide_eq_false hge, Bool.and_false, Bool.and_false]
                have HNO := Lib.hid hno; clear hno
                have d1 : decide (r u < r s) = true := decide_eq_true hru
                have d2 : decide (0 ≤ r u) = false := decide_eq_false hge
                go_wp2_with fail
                go_quiet ((go_at_call 98; exact Calls.quiet_of_same (HB.out _)))
                go_wp2_with fail
                go_roundw
                case rel => exact ⟨u + 1, by omega, by go_num, by rw [plLess_no HNO.out], hrow.drewN _, bel_drewN hbel _⟩
                case measure => simp [intOf]; omega
            · have hno : plIs m r s u = false := by unfold plIs; rw [decide_eq_false hru, Bool.false_and, Bool.and_false]
              have HNO := Lib.hid hno; clear hno
              have d1 : decide (r u < r s) = false := decide_eq_false hru
              go_wp2_with fail
              go_quiet ((go_at_call 98; exact Calls.quiet_of_same (HB.out _)))
              go_wp2_with fail
              go_roundw
              case rel => exact ⟨u + 1, by omega, by go_num, by rw [plLess_no HNO.out], hrow.drewN _, bel_drewN hbel _⟩
              case measure => simp [intOf]; omega
        · obtain rfl : u = 4 := by omega
          have hl := plLess_lt m r s
          have htl := dig_lt t (plLess m r s 4)
          cases ha : (m.testBit s && n.testBit s)
          · have hat : plAt (dig t) n m r s = true := by unfold plAt; rw [ha]; rfl
            have hmb : (m &&& n).testBit s = false := by rw [Nat.testBit_and]; exact ha
            have HAT := Lib.hid hat; have HMB := Lib.hid hmb; clear hat hmb ha
            go_wp2_with fail
            refine (s_l1Has (m &&& n) s _ (by omega) (by omega)).mono ?_
            rw [HMB.out]
            rintro e w' ⟨rfl, rfl⟩
            go_wp2_with fail
            go_roundw
            case rel => exact ⟨s + 1, by omega, by go_num, Lib.hid (plTo_succ HP.out HAT.out), hrow, hbel⟩
            case measure => simp [intOf]; omega
          · have hmb : (m &&& n).testBit s = true := by rw [Nat.testBit_and]; exact ha
            have HMB := Lib.hid hmb; have HA := Lib.hid ha; clear hmb ha
            cases hb : (dig t (plLess m r s 4)).testBit s
            · have hat : plAt (dig t) n m r s = false := by unfold plAt; rw [HA.out, hb]; rfl
              have HAT := Lib.hid hat; have HB := Lib.hid hb; clear hat hb
              go_wp2_with fail
              refine (s_l1Has (m &&& n) s _ (by omega) (by omega)).mono ?_
              rw [HMB.out]
              rintro e w' ⟨rfl, rfl⟩
              go_wp2_with fail
              refine (s_l3Value t _ _ G1.out hl).mono ?_
              rintro e w' ⟨rfl, rfl⟩
              go_wp2_with fail
              refine (s_l1Has (dig t (plLess m r s 4)) s _ (by omega) (by omega)).mono ?_
              rw [HB.out]
              rintro e w' ⟨rfl, rfl⟩
              go_wp2_with fail
              go_ret
              exact ⟨ret_bool (plTo_no hlt HAT.out).symm, hbel⟩
            · have hat : plAt (dig t) n m r s = true := by unfold plAt; rw [hb, Bool.or_true]
              have HAT := Lib.hid hat; have HB := Lib.hid hb; clear hat hb
              go_wp2_with fail
              refine (s_l1Has (m &&& n) s _ (by omega) (by omega)).mono ?_
              rw [HMB.out]
              rintro e w' ⟨rfl, rfl⟩
              go_wp2_with fail
              refine (s_l3Value t _ _ G1.out hl).mono ?_
              rintro e w' ⟨rfl, rfl⟩
              go_wp2_with fail
              refine (s_l1Has (dig t (plLess m r s 4)) s _ (by omega) (by omega)).mono ?_
              rw [HB.out]
              rintro e w' ⟨rfl, rfl⟩
              go_wp2_with fail
              go_roundw
              case rel => exact ⟨s + 1, by omega, by go_num, Lib.hid (plTo_succ HP.out HAT.out), hrow, hbel⟩
              case measure => simp [intOf]; omega
    · obtain rfl : s = 4 := by omega
      go_wp2_with fail
      go_ret
      exact ⟨ret_bool HP.out.symm, hbel⟩
end Go.Proofs.Ytiaeakpgldpaiaa
