/- The least solution from a condition and the greatest in it bound the others and are dual: no condition. -/
import Derived.Test.YtmhiphcnclkhhaaRows
import Derived.WalkKit
import Derived.ProofKit
import Derived.OpenShut
import Derived.ShutString
import Derived.ChangeOld
import Derived.Below
import Derived.Test.YtmhiphcnclkhhaaSpecD
import Derived.Test.YtmhiphcnclkhhaaImplF
import Derived.Test.YtmhiphcnclkhhaaDrawF
import Derived.Test.YtmhiphcnclkhhaaPlainB
namespace Go.Proofs.Ytmhiphcnclkhhaa.fnLeastFrom
set_option linter.unusedSimpArgs false
set_option linter.unusedVariables false
set_option maxRecDepth 4000
open Go.ChangeShapes Go.WideShapes Go.ChangeAt Go.RowKit
open Go.ChangeMaps (open_string shut_string)
set_option linter.unusedVariables false
set_option maxHeartbeats 2000000 in
theorem law_FnLeastFrom (a0 : Option Addr) (len0 cap0 : Nat) (z0 : List Int) (w : World) (w0 : IsRow .u8 w a0 len0 cap0 z0) :
    Calls Try.prog 13 #[.slice a0 len0 cap0] w fun e w' => e = .returned (.bool true) ∧ Below w.heap.size w w' := by
  have hin := ByteIn.of_row w0
  by_cases h0 : len0 ≤ 1048576
  rotate_left
  · go_enter Try.func13, Try.ntmps13
    go_wp2_with fail
    go_ret
    exact ⟨rfl, Below.refl _ _⟩
  go_enter Try.func13, Try.ntmps13
  go_wp2_with fail
  refine (s_DrawLeastFrom a0 len0 cap0 _ hin).mono ?_
  rintro e wa ⟨⟨t, p, ht, rfl⟩, hca⟩
  have hts : t.size ≤ 1048576 := Nat.le_trans ht (by omega)
  clear hin w0 ht
  go_wp2_with fail
  cases hok : (trOk t && cvB p)
  · have q1 : optI (trOk t && cvB p) (lfp (eqO (dig t) p.toNat)) = -1 := by rw [hok]; rfl
    have q2 : optI (trOk t && cvB p) (gfp (eqA (dig t) p.toNat)) = -1 := by rw [hok]; rfl
    have Q1 := Lib.hid q1; have Q2 := Lib.hid q2; clear q1 q2 hok
    refine (i_LeastFrom t p _).mono ?_
    rw [Q1.out]
    rintro e wb ⟨rfl, hbb⟩
    have hcb := bel_on' hca hbb
    clear hbb hca
    go_wp2_with fail
    refine (i_GreatestIn t p _).mono ?_
    rw [Q2.out]
    rintro e wc ⟨rfl, hbc⟩
    have hcc := bel_on' hcb hbc
    clear hbc hcb
    go_wp2_with fail
    refine (s_LeastFrom t p _ hts).mono ?_
    rw [Q1.out]
    rintro e w' ⟨rfl, rfl⟩
    go_wp2_with fail
    refine (s_GreatestIn t p _ hts).mono ?_
    rw [Q2.out]
    rintro e w' ⟨rfl, rfl⟩
    go_wp2_with fail
    refine (s_LeastFrom t p _ hts).mono ?_
    rw [Q1.out]
    rintro e w' ⟨rfl, rfl⟩
    go_wp2_with fail
    refine (s_GreatestIn t p _ hts).mono ?_
    rw [Q2.out]
    rintro e w' ⟨rfl, rfl⟩
    go_wp2_with fail
    go_ret
    exact ⟨rfl, hcc⟩
  · rw [Bool.and_eq_true] at hok
    obtain ⟨hok, hcv⟩ := hok
    obtain ⟨n, hn, rfl⟩ := (cvB_iff p).1 hcv
    have hm := dig_mono hok
    have hb := dig_bd t
    obtain ⟨A, hA⟩ : ∃ A, A = lfp (eqO (dig t) n) := ⟨_, rfl⟩
    obtain ⟨G, hG⟩ : ∃ G, G = gfp (eqA (dig t) n) := ⟨_, rfl⟩
    have q1 : optI (trOk t && cvB (n : Int)) (lfp (eqO (dig t) (n : Int).toNat)) = (A : Int) := by rw [hok, hcv, hA]; rfl
    have q2 : optI (trOk t && cvB (n : Int)) (gfp (eqA (dig t) (n : Int).toNat)) = (G : Int) := by rw [hok, hcv, hG]; rfl
    have hA16 : A < 16 := by rw [hA]; exact lfp_lt (eqO_bd hb hn)
    have hG16 : G < 16 := by rw [hG]; exact gfp_lt (eqA_bd hn)
    have p1 : ∀ k, k < 16 → imp (dig t k ||| n) k → imp A k := fun k hk h => by rw [hA]; exact lfp_least (eqO_bd hb hn) (eqO_mono hm n) hk h
    have p2 : ∀ k, k < 16 → imp k (dig t k &&& n) → imp k G := fun k hk h => by rw [hG]; exact gfp_greatest (eqA_bd hn) (eqA_mono hm n) hk h
    have p3 : dig t A ||| n = A := by rw [hA]; exact lfp_fix (eqO_bd hb hn) (eqO_mono hm n)
    have p4 : dig t G &&& n = G := by rw [hG]; exact gfp_fix (eqA_bd hn) (eqA_mono hm n)
    have hu := fDual_ok hok
    have hnn : andn 15 n < 16 := andn_lt (by omega)
    have p5 : optI (trOk (txt 16 (fDual (dig t))) && cvB ((andn 15 n : Nat) : Int)) (gfp (eqA (dig (txt 16 (fDual (dig t)))) ((andn 15 n : Nat) : Int).toNat)) = ((andn 15 A : Nat) : Int) := by
      rw [hu, cvB_nat _ hnn, hA]
      show ((gfp (eqA (dig (txt 16 (fDual (dig t)))) (andn 15 n)) : Nat) : Int) = _
      rw [gfp_dual_or hb (fun p hp => dig_txt (fDual_bd _) p hp) hn]
    have p6 : optI (trOk t && cvB (A : Int)) (lfp (eqO (dig t) (A : Int).toNat)) = (A : Int) := by
      rw [hok, cvB_nat _ hA16]
      show ((lfp (eqO (dig t) A) : Nat) : Int) = _
      rw [hA, lfp_or_again hb hm hn]
    have p7 : optI (trOk t && cvB (G : Int)) (gfp (eqA (dig t) (G : Int).toNat)) = (G : Int) := by
      rw [hok, cvB_nat _ hG16]
      show ((gfp (eqA (dig t) G) : Nat) : Int) = _
      rw [hG, gfp_and_again hb hm hn]
    have Q1 := Lib.hid q1; have Q2 := Lib.hid q2; have P1 := Lib.hid p1; have P2 := Lib.hid p2; have P3 := Lib.hid p3; have P4 := Lib.hid p4; have P5 := Lib.hid p5; have P6 := Lib.hid p6; have P7 := Lib.hid p7; have HOK := Lib.hid hok
    clear q1 q2 p1 p2 p3 p4 p5 p6 p7 hu hm hb hA hG hok hcv
    have hneg : decide ((A : Int) < 0) = false := by simp
    refine (i_LeastFrom t n _).mono ?_
    rw [Q1.out]
    rintro e wb ⟨rfl, hbb⟩
    have hcb := bel_on' hca hbb
    clear hbb hca
    go_wp2_with fail
    refine (i_GreatestIn t n _).mono ?_
    rw [Q2.out]
    rintro e wc ⟨rfl, hbc⟩
    have hcc := bel_on' hcb hbc
    clear hbc hcb
    go_wp2_with fail
    refine (s_LeastFrom t n _ hts).mono ?_
    rw [Q1.out]
    rintro e w' ⟨rfl, rfl⟩
    go_wp2_with fail
    refine (s_GreatestIn t n _ hts).mono ?_
    rw [Q2.out]
    rintro e w' ⟨rfl, rfl⟩
    go_wp2_with fail
    go_loopw [7] (fun i wr => ∃ k : Nat, k ≤ 16 ∧ i = .int .i64 k ∧ Below w.heap.size w wr) (fun i _ => 16 - (intOf i).toNat)
    case atStart => exact ⟨0, by omega, rfl, hcc⟩
    case round =>
      obtain ⟨k, hk, rfl, hc0⟩ := hrel
      by_cases hlt : k < 16
      · have hd : decide ((k : Int) < 16) = true := by simp; omega
        have hTk := dig_lt t k
        have ho := or_lt hTk hn
        have ha : dig t k &&& n < 16 := and_lt hTk
        go_wp2_with fail
        refine (i_ApplyN t k _ HOK.out hlt).mono ?_
        rintro e w1 ⟨rfl, hb1⟩
        have hc1 := bel_on' hc0 hb1
        clear hb1 hc0
        go_wp2_with fail
        refine (l_dcOr (dig t k) n _ hTk hn).mono ?_
        rintro e w' ⟨rfl, rfl⟩
        go_wp2_with fail
        by_cases h1 : imp (dig t k ||| n) k
        · have h3 := P1.out k hlt h1
          have H1 := Lib.hid h1; have H3 := Lib.hid h3; clear h1 h3
          refine (i_ImpliesN _ _ _ ho hlt).mono ?_
          rw [decide_eq_true H1.out]
          rintro e w' ⟨rfl, rfl⟩
          go_wp2_with fail
          refine (i_ImpliesN _ _ _ hA16 hlt).mono ?_
          rw [decide_eq_true H3.out]
          rintro e w' ⟨rfl, rfl⟩
          go_wp2_with fail
          refine (l_dcAnd (dig t k) n _ hTk hn).mono ?_
          rintro e w' ⟨rfl, rfl⟩
          go_wp2_with fail
          by_cases h2 : imp k (dig t k &&& n)
          · have h4 := P2.out k hlt h2
            have H2 := Lib.hid h2; have H4 := Lib.hid h4; clear h2 h4
            refine (i_ImpliesN _ _ _ hlt ha).mono ?_
            rw [decide_eq_true H2.out]
            rintro e w' ⟨rfl, rfl⟩
            go_wp2_with fail
            refine (i_ImpliesN _ _ _ hlt hG16).mono ?_
            rw [decide_eq_true H4.out]
            rintro e w' ⟨rfl, rfl⟩
            go_wp2_with fail
            go_roundw
            case rel => exact ⟨k + 1, by omega, by go_num, hc1⟩
            case measure => simp [intOf]; omega
          · have H2 := Lib.hid h2; clear h2
            refine (i_ImpliesN _ _ _ hlt ha).mono ?_
            rw [decide_eq_false H2.out]
            rintro e w' ⟨rfl, rfl⟩
            go_wp2_with fail
            go_roundw
            case rel => exact ⟨k + 1, by omega, by go_num, hc1⟩
            case measure => simp [intOf]; omega
        · have H1 := Lib.hid h1; clear h1
          refine (i_ImpliesN _ _ _ ho hlt).mono ?_
          rw [decide_eq_false H1.out]
          rintro e w' ⟨rfl, rfl⟩
          go_wp2_with fail
          refine (l_dcAnd (dig t k) n _ hTk hn).mono ?_
          rintro e w' ⟨rfl, rfl⟩
          go_wp2_with fail
          by_cases h2 : imp k (dig t k &&& n)
          · have h4 := P2.out k hlt h2
            have H2 := Lib.hid h2; have H4 := Lib.hid h4; clear h2 h4
            refine (i_ImpliesN _ _ _ hlt ha).mono ?_
            rw [decide_eq_true H2.out]
            rintro e w' ⟨rfl, rfl⟩
            go_wp2_with fail
            refine (i_ImpliesN _ _ _ hlt hG16).mono ?_
            rw [decide_eq_true H4.out]
            rintro e w' ⟨rfl, rfl⟩
            go_wp2_with fail
            go_roundw
            case rel => exact ⟨k + 1, by omega, by go_num, hc1⟩
            case measure => simp [intOf]; omega
          · have H2 := Lib.hid h2; clear h2
            refine (i_ImpliesN _ _ _ hlt ha).mono ?_
            rw [decide_eq_false H2.out]
            rintro e w' ⟨rfl, rfl⟩
            go_wp2_with fail
            go_roundw
            case rel => exact ⟨k + 1, by omega, by go_num, hc1⟩
            case measure => simp [intOf]; omega
      · obtain rfl : k = 16 := by omega
        go_wp2_with fail
        refine (l_dcDual t _ HOK.out).mono ?_
        rintro e w1 ⟨rfl, hb1⟩
        have hc1 := bel_on' hc0 hb1
        clear hb1 hc0
        go_wp2_with fail
        refine (i_ApplyN t A _ HOK.out hA16).mono ?_
        rintro e w2 ⟨rfl, hb2⟩
        have hc2 := bel_on' hc1 hb2
        clear hb2 hc1
        go_wp2_with fail
        refine (l_dcOr (dig t A) n _ (dig_lt t A) hn).mono ?_
        rw [P3.out]
        rintro e w' ⟨rfl, rfl⟩
        go_wp2_with fail
        refine (i_ApplyN t G _ HOK.out hG16).mono ?_
        rintro e w3 ⟨rfl, hb3⟩
        have hc3 := bel_on' hc2 hb3
        clear hb3 hc2
        go_wp2_with fail
        refine (l_dcAnd (dig t G) n _ (dig_lt t G) hn).mono ?_
        rw [P4.out]
        rintro e w' ⟨rfl, rfl⟩
        go_wp2_with fail
        refine (i_NotN n _ hn).mono ?_
        rintro e w' ⟨rfl, rfl⟩
        go_wp2_with fail
        refine (i_GreatestIn (txt 16 (fDual (dig t))) ((andn 15 n : Nat) : Int) _).mono ?_
        rw [P5.out]
        rintro e w4 ⟨rfl, hb4⟩
        have hc4 := bel_on' hc3 hb4
        clear hb4 hc3
        go_wp2_with fail
        refine (i_NotN A _ hA16).mono ?_
        rintro e w' ⟨rfl, rfl⟩
        go_wp2_with fail
        refine (i_LeastFrom t A _).mono ?_
        rw [P6.out]
        rintro e w5 ⟨rfl, hb5⟩
        have hc5 := bel_on' hc4 hb5
        clear hb5 hc4
        go_wp2_with fail
        refine (i_GreatestIn t G _).mono ?_
        rw [P7.out]
        rintro e w6 ⟨rfl, hb6⟩
        have hc6 := bel_on' hc5 hb6
        clear hb6 hc5
        go_wp2_with fail
        go_ret
        exact ⟨rfl, hc6⟩
theorem own : ownKnob Try.prog.godebug = none := by kernel_rfl
theorem laidOut : laidOutB Try.prog = true := by kernel_rfl
set_option maxRecDepth 100000 in
theorem lifted (os : Os) (started : os.Started) (H : Type) (enc : TypeId × Value → H) :
    ReturnsInHanded {} Try.checked os 13 .any (Rows.fnLeastFromSpec.pre6 enc Try.prog Try.f13 Rows.fnLeastFromRow.domain false) (Rows.fnLeastFromSpec.post enc Try.prog Try.f13 false true false false) := by
  refine returnsInHanded_of_change (C := Try.checked) own started (by kernel_rfl) Try.func13
    (ChangeSpec.witness6 (enc := enc) (C := Try.checked) false ⟨#[], #[.slice none 0 0], []⟩ 8 (by kernel_rfl) (by kernel_rfl) (by kernel_rfl) (by kernel_rfl)) ?_
  intro W base args ds gs before hval0 hW hcnd _
  have hval : ∀ (j : Nat) t v, Try.f13.params[j]? = some t → args[j]? = some v → Value.okWide Try.prog W .any base t v := hval0
  have hW' := hW
  obtain ⟨p, q, hA0, hV, rfl, hfz, hnd⟩ := hW
  have hA : DataW.TrodAll enc Try.prog W 0 (fun _ => true) true Try.f13.params.toList args.toList ds p := hA0
  rw [Try.params13] at hA hval
  obtain ⟨v0, vs0, d0, ds0, p0, q0, hargs, rfl, rfl, h0, r0⟩ := trodAll_cons hA
  obtain ⟨rfl, rfl, rfl⟩ := trodAll_nil r0
  obtain rfl : args = #[v0] := by cases args; simp_all
  obtain ⟨rfl, rfl⟩ := trodVars_none hV
  obtain ⟨a0, len0, cap0, rfl⟩ := okWide_slice Try.underlying34 (hval 0 34 v0 rfl rfl)
  have k0 := h0
  have lt0 : ∀ x ∈ p0, x.block < W.heap.size := by obtain ⟨m, hm⟩ := k0; exact DataW.trod_lt m _ _ _ hm
  obtain ⟨z0, w0⟩ : ∃ zs, IsRow .u8 W a0 len0 cap0 zs := by
    obtain ⟨fuel, hf⟩ := h0
    rcases open_ints Try.underlying34 Try.underlying5 (by kernel_rfl) hf with ⟨hcs, _⟩ | ⟨x, l, c, zs, hcs, _, hl, hm, hz, _, hcell, hwz⟩
    · simp [Value.cells] at hcs
      obtain ⟨rfl, rfl, rfl⟩ := hcs
      exact ⟨[], .inl ⟨rfl, rfl, rfl, rfl⟩⟩
    · simp [Value.cells] at hcs
      obtain ⟨rfl, rfl, rfl⟩ := hcs
      exact ⟨zs, .inr ⟨_, rfl, hl, hm, by simpa using hz, hcell, hwz⟩⟩
  clear hA0 hval0
  refine (law_FnLeastFrom a0 len0 cap0 z0 W w0).mono fun e W' ⟨he, bel⟩ => ?_
  subst he
  exact ⟨_, rfl, _, _, _, [], _, [], hW', trodAll_mk1 (shut_bool Try.underlying4 _), (trodAll_cons_mk (Below.trod laidOut (by kernel_rfl) (of_decide_eq_true (by kernel_rfl)) k0 bel lt0) trodAll_mk0), rfl, bel.frame _, fun h => by cases h⟩
theorem over : Rows.fnLeastFromRow.holds Try.pinned (OpenSpec.ofChange Rows.fnLeastFromSpec) :=
  OpenClaim.holds_of_wide 13 Try.f13 rfl rfl rfl rfl rfl rfl rfl ⟨rfl, rfl, rfl, rfl, rfl⟩ rfl rfl rfl rfl rfl (by kernel_rfl) Try.func13 (by kernel_rfl)
    (of_decide_eq_true (by kernel_rfl)) (by unfold Func.isWrapper; rw [if_neg (of_decide_eq_false (by kernel_rfl))]; exact ⟨rfl, rfl⟩)
    (fun os started H enc _ => lifted os started H enc)
/-- The statement. -/
theorem proved : Rows.FnLeastFromSaid := over
end Go.Proofs.Ytmhiphcnclkhhaa.fnLeastFrom
