/- The weakest invariant is kept and implied by all that are: no condition. -/
import Derived.Test.YtmhiphcnclkhhaaRows
import Derived.WalkKit
import Derived.ProofKit
import Derived.OpenShut
import Derived.ShutString
import Derived.ChangeOld
import Derived.Below
import Derived.Test.YtmhiphcnclkhhaaSpecE
import Derived.Test.YtmhiphcnclkhhaaImplJ
import Derived.Test.YtmhiphcnclkhhaaDrawF
import Derived.Test.YtmhiphcnclkhhaaPlainB
namespace Go.Proofs.Ytmhiphcnclkhhaa.fnInvariant
set_option linter.unusedSimpArgs false
set_option linter.unusedVariables false
set_option maxRecDepth 4000
open Go.ChangeShapes Go.WideShapes Go.ChangeAt Go.RowKit
open Go.ChangeMaps (open_string shut_string)
set_option linter.unusedVariables false
set_option maxHeartbeats 2000000 in
theorem law_FnInvariant (a0 : Option Addr) (len0 cap0 : Nat) (z0 : List Int) (w : World) (w0 : IsRow .u8 w a0 len0 cap0 z0) :
    Calls Try.prog 10 #[.slice a0 len0 cap0] w fun e w' => e = .returned (.bool true) ∧ Below w.heap.size w w' := by
  have hin := ByteIn.of_row w0
  by_cases h0 : len0 ≤ 1048576
  rotate_left
  · go_enter Try.func10, Try.ntmps10
    go_wp2_with fail
    go_ret
    exact ⟨rfl, Below.refl _ _⟩
  go_enter Try.func10, Try.ntmps10
  go_wp2_with fail
  refine (s_DrawWeakestInvariant a0 len0 cap0 _ hin).mono ?_
  rintro e wa ⟨⟨p, t, q, ht, rfl⟩, hca⟩
  have hts : t.size ≤ 1048576 := Nat.le_trans ht (by omega)
  clear hin w0 ht
  go_wp2_with fail
  cases hok : ((trOk t && cvB p) && cvB q)
  · have q1 : optI ((trOk t && cvB p) && cvB q) (fFree p.toNat (dig t) q.toNat) = -1 := by rw [hok]; rfl
    have Q1 := Lib.hid q1; clear q1 hok
    refine (i_WeakestInvariant p t q _).mono ?_
    rw [Q1.out]
    rintro e wb ⟨rfl, hbb⟩
    have hcb := bel_on' hca hbb
    clear hbb hca
    go_wp2_with fail
    refine (s_WeakestInvariant p t q _ hts).mono ?_
    rw [Q1.out]
    rintro e w' ⟨rfl, rfl⟩
    go_wp2_with fail
    refine (s_WeakestInvariant p t q _ hts).mono ?_
    rw [Q1.out]
    rintro e w' ⟨rfl, rfl⟩
    go_wp2_with fail
    go_ret
    exact ⟨rfl, hcb⟩
  · simp only [Bool.and_eq_true] at hok
    obtain ⟨⟨hok, hcp⟩, hcq⟩ := hok
    obtain ⟨n, hn, rfl⟩ := (cvB_iff p).1 hcp
    obtain ⟨m, hm2, rfl⟩ := (cvB_iff q).1 hcq
    have hm := dig_mono hok
    have hb := dig_bd t
    obtain ⟨I, hI⟩ : ∃ I, I = fFree n (dig t) m := ⟨_, rfl⟩
    have q1 : optI ((trOk t && cvB (n : Int)) && cvB (m : Int)) (fFree (n : Int).toNat (dig t) (m : Int).toNat) = (I : Int) := by rw [hok, hcp, hcq, hI]; rfl
    have hI16 : I < 16 := by rw [hI]; exact gfp_lt (eqW_bd hn hm2)
    have p1 : ∀ k, k < 16 → imp (n &&& k) (dig t k) → imp (k &&& andn 15 n) m → imp k I := fun k hk h h' => by rw [hI]; exact gfp_greatest (eqW_bd hn hm2) (eqW_mono hm n m) hk (keeps_turn hk h h')
    have hfix : turn n (dig t I) m = I := by rw [hI]; exact gfp_fix (eqW_bd hn hm2) (eqW_mono hm n m)
    have p2 : imp (n &&& I) (dig t I) := by have := turn_keeps (n := n) (b := dig t I) (m := m); rw [hfix] at this; exact this
    have p3 : imp (I &&& andn 15 n) m := by have := turn_ends (n := n) (b := dig t I) (m := m); rw [hfix] at this; exact this
    have hnn : andn 15 n < 16 := andn_lt (by omega)
    have Q1 := Lib.hid q1; have P1 := Lib.hid p1; have P2 := Lib.hid p2; have P3 := Lib.hid p3; have HOK := Lib.hid hok
    clear q1 p1 p2 p3 hm hb hI hok hcp hcq hfix
    have hneg : decide ((I : Int) < 0) = false := by simp
    refine (i_WeakestInvariant n t m _).mono ?_
    rw [Q1.out]
    rintro e wb ⟨rfl, hbb⟩
    have hcb := bel_on' hca hbb
    clear hbb hca
    go_wp2_with fail
    refine (s_WeakestInvariant n t m _ hts).mono ?_
    rw [Q1.out]
    rintro e w' ⟨rfl, rfl⟩
    go_wp2_with fail
    refine (i_NotN n _ hn).mono ?_
    rintro e w' ⟨rfl, rfl⟩
    go_wp2_with fail
    go_loopw [8] (fun i wr => ∃ k : Nat, k ≤ 16 ∧ i = .int .i64 k ∧ Below w.heap.size w wr) (fun i _ => 16 - (intOf i).toNat)
    case atStart => exact ⟨0, by omega, rfl, hcb⟩
    case round =>
      obtain ⟨k, hk, rfl, hc0⟩ := hrel
      by_cases hlt : k < 16
      · have hd : decide ((k : Int) < 16) = true := by simp; omega
        have ha : k &&& andn 15 n < 16 := and_lt hlt
        go_wp2_with fail
        by_cases h1 : imp (n &&& k) (dig t k)
        · have H1 := Lib.hid h1; clear h1
          refine (i_KeepsN t n k _ HOK.out hn hlt).mono ?_
          rw [decide_eq_true H1.out]
          rintro e w1 ⟨rfl, hb1⟩
          have hc1 := bel_on' hc0 hb1
          clear hb1 hc0
          go_wp2_with fail
          refine (l_dcAnd k (andn 15 n) _ hlt hnn).mono ?_
          rintro e w' ⟨rfl, rfl⟩
          go_wp2_with fail
          by_cases h2 : imp (k &&& andn 15 n) m
          · have h3 := P1.out k hlt H1.out h2
            have H2 := Lib.hid h2; have H3 := Lib.hid h3; clear h2 h3
            refine (i_ImpliesN _ _ _ ha hm2).mono ?_
            rw [decide_eq_true H2.out]
            rintro e w' ⟨rfl, rfl⟩
            go_wp2_with fail
            refine (i_ImpliesN _ _ _ hlt hI16).mono ?_
            rw [decide_eq_true H3.out]
            rintro e w' ⟨rfl, rfl⟩
            go_wp2_with fail
            go_roundw
            case rel => exact ⟨k + 1, by omega, by go_num, hc1⟩
            case measure => simp [intOf]; omega
          · have H2 := Lib.hid h2; clear h2
            refine (i_ImpliesN _ _ _ ha hm2).mono ?_
            rw [decide_eq_false H2.out]
            rintro e w' ⟨rfl, rfl⟩
            go_wp2_with fail
            go_roundw
            case rel => exact ⟨k + 1, by omega, by go_num, hc1⟩
            case measure => simp [intOf]; omega
        · have H1 := Lib.hid h1; clear h1
          refine (i_KeepsN t n k _ HOK.out hn hlt).mono ?_
          rw [decide_eq_false H1.out]
          rintro e w1 ⟨rfl, hb1⟩
          have hc1 := bel_on' hc0 hb1
          clear hb1 hc0
          go_wp2_with fail
          go_roundw
          case rel => exact ⟨k + 1, by omega, by go_num, hc1⟩
          case measure => simp [intOf]; omega
      · obtain rfl : k = 16 := by omega
        go_wp2_with fail
        refine (i_KeepsN t n I _ HOK.out hn hI16).mono ?_
        rw [decide_eq_true P2.out]
        rintro e w1 ⟨rfl, hb1⟩
        have hc1 := bel_on' hc0 hb1
        clear hb1 hc0
        go_wp2_with fail
        refine (l_dcAnd I (andn 15 n) _ hI16 hnn).mono ?_
        rintro e w' ⟨rfl, rfl⟩
        go_wp2_with fail
        refine (i_ImpliesN _ _ _ (and_lt hI16) hm2).mono ?_
        rw [decide_eq_true P3.out]
        rintro e w' ⟨rfl, rfl⟩
        go_wp2_with fail
        go_ret
        exact ⟨rfl, hc1⟩
theorem own : ownKnob Try.prog.godebug = none := by kernel_rfl
theorem laidOut : laidOutB Try.prog = true := by kernel_rfl
set_option maxRecDepth 100000 in
theorem lifted (os : Os) (started : os.Started) (H : Type) (enc : TypeId × Value → H) :
    ReturnsInHanded {} Try.checked os 10 .any (Rows.fnInvariantSpec.pre6 enc Try.prog Try.f10 Rows.fnInvariantRow.domain false) (Rows.fnInvariantSpec.post enc Try.prog Try.f10 false true false false) := by
  refine returnsInHanded_of_change (C := Try.checked) own started (by kernel_rfl) Try.func10
    (ChangeSpec.witness6 (enc := enc) (C := Try.checked) false ⟨#[], #[.slice none 0 0], []⟩ 8 (by kernel_rfl) (by kernel_rfl) (by kernel_rfl) (by kernel_rfl)) ?_
  intro W base args ds gs before hval0 hW hcnd _
  have hval : ∀ (j : Nat) t v, Try.f10.params[j]? = some t → args[j]? = some v → Value.okWide Try.prog W .any base t v := hval0
  have hW' := hW
  obtain ⟨p, q, hA0, hV, rfl, hfz, hnd⟩ := hW
  have hA : DataW.TrodAll enc Try.prog W 0 (fun _ => true) true Try.f10.params.toList args.toList ds p := hA0
  rw [Try.params10] at hA hval
  obtain ⟨v0, vs0, d0, ds0, p0, q0, hargs, rfl, rfl, h0, r0⟩ := trodAll_cons hA
  obtain ⟨rfl, rfl, rfl⟩ := trodAll_nil r0
  obtain rfl : args = #[v0] := by cases args; simp_all
  obtain ⟨rfl, rfl⟩ := trodVars_none hV
  obtain ⟨a0, len0, cap0, rfl⟩ := okWide_slice Try.underlying34 (hval 0 34 v0 rfl rfl)
  have k0 := h0
  have lt0 : ∀ x ∈ p0, x.block < W.heap.size := by obtain ⟨m, hm⟩ := k0; exact DataW.trod_lt m _ _ _ hm
  obtain ⟨z0, w0⟩ : ∃ zs, IsRow .u8 W a0 len0 cap0 zs := by
    obtain ⟨fuel, hf⟩ := h0
    rcases open_ints Try.underlying34 Try.underlying5 (by kernel_rfl) hf with ⟨hcs, _⟩ | ⟨x, l, c, zs, hcs, _, hl, hm, hz, _, hcell, hwz⟩
    · simp [Value.cells] at hcs
      obtain ⟨rfl, rfl, rfl⟩ := hcs
      exact ⟨[], .inl ⟨rfl, rfl, rfl, rfl⟩⟩
    · simp [Value.cells] at hcs
      obtain ⟨rfl, rfl, rfl⟩ := hcs
      exact ⟨zs, .inr ⟨_, rfl, hl, hm, by simpa using hz, hcell, hwz⟩⟩
  clear hA0 hval0
  refine (law_FnInvariant a0 len0 cap0 z0 W w0).mono fun e W' ⟨he, bel⟩ => ?_
  subst he
  exact ⟨_, rfl, _, _, _, [], _, [], hW', trodAll_mk1 (shut_bool Try.underlying4 _), (trodAll_cons_mk (Below.trod laidOut (by kernel_rfl) (of_decide_eq_true (by kernel_rfl)) k0 bel lt0) trodAll_mk0), rfl, bel.frame _, fun h => by cases h⟩
theorem over : Rows.fnInvariantRow.holds Try.pinned (OpenSpec.ofChange Rows.fnInvariantSpec) :=
  OpenClaim.holds_of_wide 10 Try.f10 rfl rfl rfl rfl rfl rfl rfl ⟨rfl, rfl, rfl, rfl, rfl⟩ rfl rfl rfl rfl rfl (by kernel_rfl) Try.func10 (by kernel_rfl)
    (of_decide_eq_true (by kernel_rfl)) (by unfold Func.isWrapper; rw [if_neg (of_decide_eq_false (by kernel_rfl))]; exact ⟨rfl, rfl⟩)
    (fun os started H enc _ => lifted os started H enc)
/-- The statement. -/
theorem proved : Rows.FnInvariantSaid := over
end Go.Proofs.Ytmhiphcnclkhhaa.fnInvariant
