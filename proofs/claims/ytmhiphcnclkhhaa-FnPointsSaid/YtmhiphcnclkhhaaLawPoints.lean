/- The least and the greatest fixed point bound the others and are dual: no condition. -/
import Derived.Test.YtmhiphcnclkhhaaRows
import Derived.WalkKit
import Derived.ProofKit
import Derived.OpenShut
import Derived.ShutString
import Derived.ChangeOld
import Derived.Below
import Derived.Test.YtmhiphcnclkhhaaSpecD
import Derived.Test.YtmhiphcnclkhhaaImplF
import Derived.Test.YtmhiphcnclkhhaaDrawF
import Derived.Test.YtmhiphcnclkhhaaPlainA
namespace Go.Proofs.Ytmhiphcnclkhhaa.fnPoints
set_option linter.unusedSimpArgs false
set_option linter.unusedVariables false
set_option maxRecDepth 4000
open Go.ChangeShapes Go.WideShapes Go.ChangeAt Go.RowKit
open Go.ChangeMaps (open_string shut_string)
set_option linter.unusedVariables false
set_option maxHeartbeats 2000000 in
theorem law_FnPoints (a0 : Option Addr) (len0 cap0 : Nat) (z0 : List Int) (w : World) (w0 : IsRow .u8 w a0 len0 cap0 z0) :
    Calls Try.prog 14 #[.slice a0 len0 cap0] w fun e w' => e = .returned (.bool true) ∧ Below w.heap.size w w' := by
  have hin := ByteIn.of_row w0
  by_cases h0 : len0 ≤ 1048576
  rotate_left
  · go_enter Try.func14, Try.ntmps14
    go_wp2_with fail
    go_ret
    exact ⟨rfl, Below.refl _ _⟩
  go_enter Try.func14, Try.ntmps14
  go_wp2_with fail
  refine (s_DrawLeastPoint a0 len0 cap0 _ hin).mono ?_
  rintro e wa ⟨⟨t, ht, rfl⟩, hca⟩
  have hts : t.size ≤ 1048576 := Nat.le_trans ht (by omega)
  clear hin w0 ht
  go_wp2_with fail
  cases hok : trOk t
  · have q1 : optI (trOk t) (lfp (dig t)) = -1 := by rw [hok]; rfl
    have q2 : optI (trOk t) (gfp (dig t)) = -1 := by rw [hok]; rfl
    have q3 : optI (trOk t) (fPoints (dig t)) = -1 := by rw [hok]; rfl
    have Q1 := Lib.hid q1; have Q2 := Lib.hid q2; have Q3 := Lib.hid q3; clear q1 q2 q3 hok
    refine (i_LeastPoint t _).mono ?_
    rw [Q1.out]
    rintro e wb ⟨rfl, hbb⟩
    have hcb := bel_on' hca hbb
    clear hbb hca
    go_wp2_with fail
    refine (i_GreatestPoint t _).mono ?_
    rw [Q2.out]
    rintro e wc ⟨rfl, hbc⟩
    have hcc := bel_on' hcb hbc
    clear hbc hcb
    go_wp2_with fail
    refine (i_PointsOf t _).mono ?_
    rw [Q3.out]
    rintro e wd ⟨rfl, hbd⟩
    have hcd := bel_on' hcc hbd
    clear hbd hcc
    go_wp2_with fail
    refine (s_LeastPoint t _ hts).mono ?_
    rw [Q1.out]
    rintro e w' ⟨rfl, rfl⟩
    go_wp2_with fail
    refine (s_GreatestPoint t _ hts).mono ?_
    rw [Q2.out]
    rintro e w' ⟨rfl, rfl⟩
    go_wp2_with fail
    refine (s_PointsOf t _ hts).mono ?_
    rw [Q3.out]
    rintro e w' ⟨rfl, rfl⟩
    go_wp2_with fail
    refine (s_LeastPoint t _ hts).mono ?_
    rw [Q1.out]
    rintro e w' ⟨rfl, rfl⟩
    go_wp2_with fail
    refine (s_GreatestPoint t _ hts).mono ?_
    rw [Q2.out]
    rintro e w' ⟨rfl, rfl⟩
    go_wp2_with fail
    refine (s_PointsOf t _ hts).mono ?_
    rw [Q3.out]
    rintro e w' ⟨rfl, rfl⟩
    go_wp2_with fail
    go_ret
    exact ⟨rfl, hcd⟩
  · have hm := dig_mono hok
    have hb := dig_bd t
    obtain ⟨A, hA⟩ : ∃ A, A = lfp (dig t) := ⟨_, rfl⟩
    obtain ⟨G, hG⟩ : ∃ G, G = gfp (dig t) := ⟨_, rfl⟩
    obtain ⟨F, hF⟩ : ∃ F, F = fPoints (dig t) := ⟨_, rfl⟩
    have q1 : optI (trOk t) (lfp (dig t)) = (A : Int) := by rw [hok, hA]; rfl
    have q2 : optI (trOk t) (gfp (dig t)) = (G : Int) := by rw [hok, hG]; rfl
    have q3 : optI (trOk t) (fPoints (dig t)) = (F : Int) := by rw [hok, hF]; rfl
    have hA16 : A < 16 := by rw [hA]; exact lfp_lt hb
    have hG16 : G < 16 := by rw [hG]; exact gfp_lt hb
    have hF16 : F < 65536 := by rw [hF]; exact fPoints_lt _
    have p1 : ∀ k, k < 16 → imp (dig t k) k → imp A k := fun k hk h => by rw [hA]; exact lfp_least hb hm hk h
    have p2 : ∀ k, k < 16 → imp k (dig t k) → imp k G := fun k hk h => by rw [hG]; exact gfp_greatest hb hm hk h
    have p3 : ∀ k, k < 16 → F.testBit k = decide (dig t k = k) := fun k hk => by rw [hF]; exact fPoints_bit _ k hk
    have p4 : decide (dig t A = A) = true := by rw [hA]; exact decide_eq_true (lfp_fix hb hm)
    have p5 : decide (dig t G = G) = true := by rw [hG]; exact decide_eq_true (gfp_fix hb hm)
    have hu := fDual_ok hok
    have p6 : optI (trOk (txt 16 (fDual (dig t)))) (lfp (dig (txt 16 (fDual (dig t))))) = ((andn 15 G : Nat) : Int) := by rw [hu, lfp_dig_dual, hG]; rfl
    have p7 : optI (trOk (txt 16 (fDual (dig t)))) (gfp (dig (txt 16 (fDual (dig t))))) = ((andn 15 A : Nat) : Int) := by rw [hu, gfp_dig_dual, hA]; rfl
    have Q1 := Lib.hid q1; have Q2 := Lib.hid q2; have Q3 := Lib.hid q3; have P1 := Lib.hid p1; have P2 := Lib.hid p2; have P3 := Lib.hid p3; have P4 := Lib.hid p4; have P5 := Lib.hid p5; have P6 := Lib.hid p6; have P7 := Lib.hid p7; have HOK := Lib.hid hok
    clear q1 q2 q3 p1 p2 p3 p4 p5 p6 p7 hu hm hb hA hG hF hok
    have hneg : decide ((A : Int) < 0) = false := by simp
    refine (i_LeastPoint t _).mono ?_
    rw [Q1.out]
    rintro e wb ⟨rfl, hbb⟩
    have hcb := bel_on' hca hbb
    clear hbb hca
    go_wp2_with fail
    refine (i_GreatestPoint t _).mono ?_
    rw [Q2.out]
    rintro e wc ⟨rfl, hbc⟩
    have hcc := bel_on' hcb hbc
    clear hbc hcb
    go_wp2_with fail
    refine (i_PointsOf t _).mono ?_
    rw [Q3.out]
    rintro e wd ⟨rfl, hbd⟩
    have hcd := bel_on' hcc hbd
    clear hbd hcc
    go_wp2_with fail
    refine (s_LeastPoint t _ hts).mono ?_
    rw [Q1.out]
    rintro e w' ⟨rfl, rfl⟩
    go_wp2_with fail
    refine (s_GreatestPoint t _ hts).mono ?_
    rw [Q2.out]
    rintro e w' ⟨rfl, rfl⟩
    go_wp2_with fail
    refine (s_PointsOf t _ hts).mono ?_
    rw [Q3.out]
    rintro e w' ⟨rfl, rfl⟩
    go_wp2_with fail
    go_loopw [7] (fun i wr => ∃ k : Nat, k ≤ 16 ∧ i = .int .i64 k ∧ Below w.heap.size w wr) (fun i _ => 16 - (intOf i).toNat)
    case atStart => exact ⟨0, by omega, rfl, hcd⟩
    case round =>
      obtain ⟨k, hk, rfl, hc0⟩ := hrel
      by_cases hlt : k < 16
      · have hd : decide ((k : Int) < 16) = true := by simp; omega
        have hTk := dig_lt t k
        have b1 := beq_nat (dig t k) k
        go_wp2_with fail
        refine (i_ApplyN t k _ HOK.out hlt).mono ?_
        rintro e w1 ⟨rfl, hb1⟩
        have hc1 := bel_on' hc0 hb1
        clear hb1 hc0
        go_wp2_with fail
        refine (i_IsPointN t k _ HOK.out hlt).mono ?_
        rintro e w2 ⟨rfl, hb2⟩
        have hc2 := bel_on' hc1 hb2
        clear hb2 hc1
        go_wp2_with fail
        refine (i_InFamilyN F k _ hF16 hlt).mono ?_
        rw [P3.out k hlt]
        rintro e w' ⟨rfl, rfl⟩
        go_wp2_with fail
        by_cases h1 : imp (dig t k) k
        · have h3 := P1.out k hlt h1
          have H1 := Lib.hid h1; have H3 := Lib.hid h3; clear h1 h3
          refine (i_ImpliesN _ _ _ hTk hlt).mono ?_
          rw [decide_eq_true H1.out]
          rintro e w' ⟨rfl, rfl⟩
          go_wp2_with fail
          refine (i_ImpliesN _ _ _ hA16 hlt).mono ?_
          rw [decide_eq_true H3.out]
          rintro e w' ⟨rfl, rfl⟩
          go_wp2_with fail
          by_cases h2 : imp k (dig t k)
          · have h4 := P2.out k hlt h2
            have H2 := Lib.hid h2; have H4 := Lib.hid h4; clear h2 h4
            refine (i_ImpliesN _ _ _ hlt hTk).mono ?_
            rw [decide_eq_true H2.out]
            rintro e w' ⟨rfl, rfl⟩
            go_wp2_with fail
            refine (i_ImpliesN _ _ _ hlt hG16).mono ?_
            rw [decide_eq_true H4.out]
            rintro e w' ⟨rfl, rfl⟩
            go_wp2_with fail
            go_roundw
            case rel => exact ⟨k + 1, by omega, by go_num, hc2⟩
            case measure => simp [intOf]; omega
          · have H2 := Lib.hid h2; clear h2
            refine (i_ImpliesN _ _ _ hlt hTk).mono ?_
            rw [decide_eq_false H2.out]
            rintro e w' ⟨rfl, rfl⟩
            go_wp2_with fail
            go_roundw
            case rel => exact ⟨k + 1, by omega, by go_num, hc2⟩
            case measure => simp [intOf]; omega
        · have H1 := Lib.hid h1; clear h1
          refine (i_ImpliesN _ _ _ hTk hlt).mono ?_
          rw [decide_eq_false H1.out]
          rintro e w' ⟨rfl, rfl⟩
          go_wp2_with fail
          by_cases h2 : imp k (dig t k)
          · have h4 := P2.out k hlt h2
            have H2 := Lib.hid h2; have H4 := Lib.hid h4; clear h2 h4
            refine (i_ImpliesN _ _ _ hlt hTk).mono ?_
            rw [decide_eq_true H2.out]
            rintro e w' ⟨rfl, rfl⟩
            go_wp2_with fail
            refine (i_ImpliesN _ _ _ hlt hG16).mono ?_
            rw [decide_eq_true H4.out]
            rintro e w' ⟨rfl, rfl⟩
            go_wp2_with fail
            go_roundw
            case rel => exact ⟨k + 1, by omega, by go_num, hc2⟩
            case measure => simp [intOf]; omega
          · have H2 := Lib.hid h2; clear h2
            refine (i_ImpliesN _ _ _ hlt hTk).mono ?_
            rw [decide_eq_false H2.out]
            rintro e w' ⟨rfl, rfl⟩
            go_wp2_with fail
            go_roundw
            case rel => exact ⟨k + 1, by omega, by go_num, hc2⟩
            case measure => simp [intOf]; omega
      · obtain rfl : k = 16 := by omega
        go_wp2_with fail
        refine (l_dcDual t _ HOK.out).mono ?_
        rintro e w1 ⟨rfl, hb1⟩
        have hc1 := bel_on' hc0 hb1
        clear hb1 hc0
        go_wp2_with fail
        refine (i_IsPointN t A _ HOK.out hA16).mono ?_
        rw [P4.out]
        rintro e w2 ⟨rfl, hb2⟩
        have hc2 := bel_on' hc1 hb2
        clear hb2 hc1
        go_wp2_with fail
        refine (i_IsPointN t G _ HOK.out hG16).mono ?_
        rw [P5.out]
        rintro e w3 ⟨rfl, hb3⟩
        have hc3 := bel_on' hc2 hb3
        clear hb3 hc2
        go_wp2_with fail
        refine (i_LeastPoint (txt 16 (fDual (dig t))) _).mono ?_
        rw [P6.out]
        rintro e w4 ⟨rfl, hb4⟩
        have hc4 := bel_on' hc3 hb4
        clear hb4 hc3
        go_wp2_with fail
        refine (i_NotN G _ hG16).mono ?_
        rintro e w' ⟨rfl, rfl⟩
        go_wp2_with fail
        refine (i_GreatestPoint (txt 16 (fDual (dig t))) _).mono ?_
        rw [P7.out]
        rintro e w5 ⟨rfl, hb5⟩
        have hc5 := bel_on' hc4 hb5
        clear hb5 hc4
        go_wp2_with fail
        refine (i_NotN A _ hA16).mono ?_
        rintro e w' ⟨rfl, rfl⟩
        go_wp2_with fail
        go_ret
        exact ⟨rfl, hc5⟩
theorem own : ownKnob Try.prog.godebug = none := by kernel_rfl
theorem laidOut : laidOutB Try.prog = true := by kernel_rfl
set_option maxRecDepth 100000 in
theorem lifted (os : Os) (started : os.Started) (H : Type) (enc : TypeId × Value → H) :
    ReturnsInHanded {} Try.checked os 14 .any (Rows.fnPointsSpec.pre6 enc Try.prog Try.f14 Rows.fnPointsRow.domain false) (Rows.fnPointsSpec.post enc Try.prog Try.f14 false true false false) := by
  refine returnsInHanded_of_change (C := Try.checked) own started (by kernel_rfl) Try.func14
    (ChangeSpec.witness6 (enc := enc) (C := Try.checked) false ⟨#[], #[.slice none 0 0], []⟩ 8 (by kernel_rfl) (by kernel_rfl) (by kernel_rfl) (by kernel_rfl)) ?_
  intro W base args ds gs before hval0 hW hcnd _
  have hval : ∀ (j : Nat) t v, Try.f14.params[j]? = some t → args[j]? = some v → Value.okWide Try.prog W .any base t v := hval0
  have hW' := hW
  obtain ⟨p, q, hA0, hV, rfl, hfz, hnd⟩ := hW
  have hA : DataW.TrodAll enc Try.prog W 0 (fun _ => true) true Try.f14.params.toList args.toList ds p := hA0
  rw [Try.params14] at hA hval
  obtain ⟨v0, vs0, d0, ds0, p0, q0, hargs, rfl, rfl, h0, r0⟩ := trodAll_cons hA
  obtain ⟨rfl, rfl, rfl⟩ := trodAll_nil r0
  obtain rfl : args = #[v0] := by cases args; simp_all
  obtain ⟨rfl, rfl⟩ := trodVars_none hV
  obtain ⟨a0, len0, cap0, rfl⟩ := okWide_slice Try.underlying34 (hval 0 34 v0 rfl rfl)
  have k0 := h0
  have lt0 : ∀ x ∈ p0, x.block < W.heap.size := by obtain ⟨m, hm⟩ := k0; exact DataW.trod_lt m _ _ _ hm
  obtain ⟨z0, w0⟩ : ∃ zs, IsRow .u8 W a0 len0 cap0 zs := by
    obtain ⟨fuel, hf⟩ := h0
    rcases open_ints Try.underlying34 Try.underlying5 (by kernel_rfl) hf with ⟨hcs, _⟩ | ⟨x, l, c, zs, hcs, _, hl, hm, hz, _, hcell, hwz⟩
    · simp [Value.cells] at hcs
      obtain ⟨rfl, rfl, rfl⟩ := hcs
      exact ⟨[], .inl ⟨rfl, rfl, rfl, rfl⟩⟩
    · simp [Value.cells] at hcs
      obtain ⟨rfl, rfl, rfl⟩ := hcs
      exact ⟨zs, .inr ⟨_, rfl, hl, hm, by simpa using hz, hcell, hwz⟩⟩
  clear hA0 hval0
  refine (law_FnPoints a0 len0 cap0 z0 W w0).mono fun e W' ⟨he, bel⟩ => ?_
  subst he
  exact ⟨_, rfl, _, _, _, [], _, [], hW', trodAll_mk1 (shut_bool Try.underlying4 _), (trodAll_cons_mk (Below.trod laidOut (by kernel_rfl) (of_decide_eq_true (by kernel_rfl)) k0 bel lt0) trodAll_mk0), rfl, bel.frame _, fun h => by cases h⟩
theorem over : Rows.fnPointsRow.holds Try.pinned (OpenSpec.ofChange Rows.fnPointsSpec) :=
  OpenClaim.holds_of_wide 14 Try.f14 rfl rfl rfl rfl rfl rfl rfl ⟨rfl, rfl, rfl, rfl, rfl⟩ rfl rfl rfl rfl rfl (by kernel_rfl) Try.func14 (by kernel_rfl)
    (of_decide_eq_true (by kernel_rfl)) (by unfold Func.isWrapper; rw [if_neg (of_decide_eq_false (by kernel_rfl))]; exact ⟨rfl, rfl⟩)
    (fun os started H enc _ => lifted os started H enc)
/-- The statement. -/
theorem proved : Rows.FnPointsSaid := over
end Go.Proofs.Ytmhiphcnclkhhaa.fnPoints
