/- The contract of a specification is its transformer, and the code without choices refines it where it exists: no condition. -/
import Derived.Test.YtiaeakpgldpaiaaRows
import Derived.WalkKit
import Derived.ProofKit
import Derived.OpenShut
import Derived.ShutString
import Derived.ChangeOld
import Derived.Below
import Derived.Test.YtiaeakpgldpaiaaQSpecO
import Derived.Test.YtiaeakpgldpaiaaQSpecI
import Derived.Test.YtiaeakpgldpaiaaQSpecD
import Derived.Test.YtiaeakpgldpaiaaQImplO
import Derived.Test.YtiaeakpgldpaiaaQImplZ
import Derived.Test.YtiaeakpgldpaiaaQImplG
import Derived.Test.YtiaeakpgldpaiaaQDrawG
import Derived.Test.YtiaeakpgldpaiaaQApp7
import Derived.Test.YtiaeakpgldpaiaaQPlainT
namespace Go.Proofs.Ytiaeakpgldpaiaa.fnCode
set_option linter.unusedSimpArgs false
set_option linter.unusedVariables false
set_option maxRecDepth 4000
open Go.ChangeShapes Go.WideShapes Go.ChangeAt Go.RowKit
open Go.ChangeMaps (open_string shut_string)
set_option linter.unusedVariables false
set_option maxHeartbeats 4000000 in
theorem law_FnCode (a0 : Option Addr) (len0 cap0 : Nat) (z0 : List Int) (w : World) (w0 : IsRow .u8 w a0 len0 cap0 z0) :
    Calls Try.prog 12 #[.slice a0 len0 cap0] w fun e w' => e = .returned (.bool true) ∧ Below w.heap.size w w' := by
  have hin := ByteIn.of_row w0
  by_cases h0 : len0 ≤ 1048576
  rotate_left
  · go_enter Try.func12, Try.ntmps12
    go_wp2_with fail
    go_ret
    exact ⟨rfl, Below.refl _ _⟩
  go_enter Try.func12, Try.ntmps12
  go_wp2_with fail
  refine (s_DrawCodeFunction a0 len0 cap0 _ hin).mono ?_
  rintro e wa ⟨⟨p, r, hr, rfl⟩, hca⟩
  have xr : r.size ≤ 1048576 := Nat.le_trans hr (by omega)
  clear hin w0 hr
  go_wp2_with fail
  cases hok : (cvB p && relOk r)
  · have q1 : (#[Value.string (optS ((cvB p && relOk r) && cfOk p.toNat (dig r)) (fCF p.toNat (dig r) 4)), .bool ((cvB p && relOk r) && cfOk p.toNat (dig r))] : Array Value) = #[.string ⟨#[]⟩, .bool false] := by rw [hok]; rfl
    have q2 : (#[Value.string (optS (cvB p && relOk r) (fCode p.toNat r)), .bool (cvB p && relOk r)] : Array Value) = #[.string ⟨#[]⟩, .bool false] := by rw [hok]; rfl
    have Q1 := Lib.hid q1; have Q2 := Lib.hid q2; clear q1 q2 hok
    refine (i_CodeFunction p r _).mono ?_
    rw [Q1.out]
    rintro e wb ⟨rfl, hbb⟩
    have hcb := bel_on' hca hbb
    clear hbb hca
    go_wp2_with fail
    refine (s_CodeFunction p r _ xr).mono ?_
    rw [Q1.out]
    rintro e w' ⟨rfl, rfl⟩
    go_wp2_with fail
    refine (i_CodeSpec p r _ xr).mono ?_
    rw [Q2.out]
    rintro e wc ⟨rfl, hbc⟩
    have hcc := bel_on' hcb hbc
    clear hbc hcb
    go_wp2_with fail
    refine (s_CodeSpec p r _ xr).mono ?_
    rw [Q2.out]
    rintro e w' ⟨rfl, rfl⟩
    go_wp2_with fail
    go_ret
    exact ⟨rfl, hcc⟩
  · have g := hok
    rw [Bool.and_eq_true] at g
    obtain ⟨hcp, hkr⟩ := g
    obtain ⟨n, hn, rfl⟩ := (cvB_iff p).1 hcp
    have gR : ∀ i, dig r i < 16 := fun i => dig_lt r i
    obtain ⟨okD, trD⟩ := ct_code hn hkr
    obtain ⟨D, hD⟩ : ∃ D, D = fCode n r := ⟨_, rfl⟩
    rw [← hD] at okD trD
    obtain ⟨T, hT⟩ : ∃ T, T = txt 16 (fSpec n (dig r)) := ⟨_, rfl⟩
    obtain ⟨M, hM⟩ : ∃ M, M = fDia (dig r) 15 4 := ⟨_, rfl⟩
    have hM16 : M < 16 := by rw [hM]; exact fDia_lt _ _
    have q2 : (#[Value.string (optS (cvB (n : Int) && relOk r) (fCode (n : Int).toNat r)), .bool (cvB (n : Int) && relOk r)] : Array Value) = #[.string D, .bool true] := by rw [hok, hD]; rfl
    have q3 : (#[Value.string (optS (cvB (n : Int) && relOk r) (txt 16 (fSpec (n : Int).toNat (dig r)))), .bool (cvB (n : Int) && relOk r)] : Array Value) = #[.string T, .bool true] := by rw [hok, hT]; rfl
    have q4 : txt 16 (ctT D) = T := by rw [hT]; exact txt_congr fun q _ => trD q
    have q5 : (((cvB (n : Int) && relOk r) && ctOk D) && refB (fSpec (n : Int).toNat (dig r)) (ctT D) 16) = true := by
      rw [hok, okD]
      show refB (fSpec n (dig r)) (ctT D) 16 = true
      exact (refB_iff _ _ _).2 fun i _ => by rw [trD i]; exact imp_refl _
    have Q2 := Lib.hid q2; have Q3 := Lib.hid q3; have Q4 := Lib.hid q4; have Q5 := Lib.hid q5; have OD := Lib.hid okD; have HKR := Lib.hid hkr; have HM := Lib.hid hM
    cases hcf : cfOk n (dig r)
    · have q1 : (#[Value.string (optS ((cvB (n : Int) && relOk r) && cfOk (n : Int).toNat (dig r)) (fCF (n : Int).toNat (dig r) 4)), .bool ((cvB (n : Int) && relOk r) && cfOk (n : Int).toNat (dig r))] : Array Value) = #[.string ⟨#[]⟩, .bool false] := by
        rw [hok]
        show #[Value.string (optS (true && cfOk n (dig r)) _), .bool (true && cfOk n (dig r))] = _
        rw [hcf]; rfl
      have q6 : ¬ imp n M := fun h => by
        rw [cfOk_iff hn gR, ← hM] at hcf
        exact (of_decide_eq_false hcf) h
      have Q1 := Lib.hid q1; have Q6 := Lib.hid q6
      clear q1 q2 q3 q4 q5 q6 okD trD hD hT hM hcp hkr hok hcf gR
      refine (i_CodeFunction n r _).mono ?_
      rw [Q1.out]
      rintro e wb ⟨rfl, hbb⟩
      have hcb := bel_on' hca hbb
      clear hbb hca
      go_wp2_with fail
      refine (s_CodeFunction n r _ xr).mono ?_
      rw [Q1.out]
      rintro e w' ⟨rfl, rfl⟩
      go_wp2_with fail
      refine (i_CodeSpec n r _ xr).mono ?_
      rw [Q2.out]
      rintro e wc ⟨rfl, hbc⟩
      have hcc := bel_on' hcb hbc
      clear hbc hcb
      go_wp2_with fail
      refine (s_CodeSpec n r _ xr).mono ?_
      rw [Q2.out]
      rintro e w' ⟨rfl, rfl⟩
      go_wp2_with fail
      refine (i_SpecTrans n r _).mono ?_
      rw [Q3.out]
      rintro e wd ⟨rfl, hbd⟩
      have hcd := bel_on' hcc hbd
      clear hbd hcc
      go_wp2_with fail
      refine (l_dcTrans D _ OD.out).mono ?_
      rw [Q4.out]
      rintro e we ⟨rfl, hbe⟩
      have hce := bel_on' hcd hbe
      clear hbe hcd
      go_wp2_with fail
      refine (i_MeetsSpec n r D _).mono ?_
      rw [Q5.out]
      rintro e wf ⟨rfl, hbf⟩
      have hcf := bel_on' hce hbf
      clear hbf hce
      go_wp2_with fail
      refine (i_DomainN r _ HKR.out).mono ?_
      rw [← HM.out]
      rintro e wg ⟨rfl, hbg⟩
      have hcg := bel_on' hcf hbg
      clear hbg hcf
      go_wp2_with fail
      refine (i_ImpliesN _ _ _ hn hM16).mono ?_
      rw [decide_eq_false Q6.out]
      rintro e w' ⟨rfl, rfl⟩
      go_wp2_with fail
      go_ret
      exact ⟨rfl, hcg⟩
    · obtain ⟨C, hC⟩ : ∃ C, C = fCF n (dig r) 4 := ⟨_, rfl⟩
      have okC : ctOk C = true := by rw [hC]; exact cf_ok _ _
      have trC : ∀ q s, q < 16 → s < 4 → (ctT C q).testBit s = q.testBit (tgt n (dig r) s) := fun q s hq hs => by rw [hC]; exact cf_at hq hs
      have bC := ctT_bd C
      obtain ⟨X, hX⟩ : ∃ X, X = txt 16 (ctT C) := ⟨_, rfl⟩
      have oX : trOk X = true := by rw [hX]; exact trOk_txt bC (ctT_mono C)
      have dX : ∀ q, q < 16 → dig X q = ctT C q := fun q hq => by rw [hX, dig_txt bC q hq]
      have q1 : (#[Value.string (optS ((cvB (n : Int) && relOk r) && cfOk (n : Int).toNat (dig r)) (fCF (n : Int).toNat (dig r) 4)), .bool ((cvB (n : Int) && relOk r) && cfOk (n : Int).toNat (dig r))] : Array Value) = #[.string C, .bool true] := by
        rw [hok]
        show #[Value.string (optS (true && cfOk n (dig r)) (fCF n (dig r) 4)), .bool (true && cfOk n (dig r))] = _
        rw [hcf, hC]; rfl
      have hme : refB (fSpec n (dig r)) (ctT C) 16 = true := by rw [hC]; exact cf_meets hn gR hcf
      have q6 : imp n M := by
        have h := hcf
        rw [cfOk_iff hn gR, ← hM] at h
        exact of_decide_eq_true h
      have q7 : (((cvB (n : Int) && relOk r) && ctOk C) && refB (fSpec (n : Int).toNat (dig r)) (ctT C) 16) = true := by rw [hok, okC]; exact hme
      have q8 : conjB (dig X) = true := by rw [conjB_congr dX]; exact (conjB_iff _).2 (fn_and bC trC)
      have q9 : ∀ p q, p < 16 → q < 16 → dig X (p ||| q) = (dig X p ||| dig X q) := fun p q hp hq => by rw [dX p hp, dX q hq, dX _ (or_lt hp hq)]; exact fn_or bC trC p q hp hq
      have q10 : dig X 0 = 0 := by rw [dX 0 (by omega)]; exact fn_zero bC trC
      have q11 : dig X 15 = 15 := by rw [dX 15 (by omega)]; exact fn_all bC (fun s hs => tgt_lt _ _ hs) trC
      have q12 : refB (ctT D) (ctT C) 16 = true := by rw [refB_congr (fun i _ => trD i) (fun i _ => rfl)]; exact hme
      have Q1 := Lib.hid q1; have Q6 := Lib.hid q6; have Q7 := Lib.hid q7; have Q8 := Lib.hid q8; have Q9 := Lib.hid q9; have Q10 := Lib.hid q10; have Q11 := Lib.hid q11; have Q12 := Lib.hid q12
      have OC := Lib.hid okC; have OX := Lib.hid oX; have HX := Lib.hid hX
      clear q1 q2 q3 q4 q5 q6 q7 q8 q9 q10 q11 q12 okD trD hD hT hM hcp hkr hok hcf gR hme okC trC bC hX oX dX hC
      refine (i_CodeFunction n r _).mono ?_
      rw [Q1.out]
      rintro e wb ⟨rfl, hbb⟩
      have hcb := bel_on' hca hbb
      clear hbb hca
      go_wp2_with fail
      refine (s_CodeFunction n r _ xr).mono ?_
      rw [Q1.out]
      rintro e w' ⟨rfl, rfl⟩
      go_wp2_with fail
      refine (i_CodeSpec n r _ xr).mono ?_
      rw [Q2.out]
      rintro e wc ⟨rfl, hbc⟩
      have hcc := bel_on' hcb hbc
      clear hbc hcb
      go_wp2_with fail
      refine (s_CodeSpec n r _ xr).mono ?_
      rw [Q2.out]
      rintro e w' ⟨rfl, rfl⟩
      go_wp2_with fail
      refine (i_SpecTrans n r _).mono ?_
      rw [Q3.out]
      rintro e wd ⟨rfl, hbd⟩
      have hcd := bel_on' hcc hbd
      clear hbd hcc
      go_wp2_with fail
      refine (l_dcTrans D _ OD.out).mono ?_
      rw [Q4.out]
      rintro e we ⟨rfl, hbe⟩
      have hce := bel_on' hcd hbe
      clear hbe hcd
      go_wp2_with fail
      refine (i_MeetsSpec n r D _).mono ?_
      rw [Q5.out]
      rintro e wf ⟨rfl, hbf⟩
      have hcf := bel_on' hce hbf
      clear hbf hce
      go_wp2_with fail
      refine (i_MeetsSpec n r C _).mono ?_
      rw [Q7.out]
      rintro e wg ⟨rfl, hbg⟩
      have hcg := bel_on' hcf hbg
      clear hbg hcf
      go_wp2_with fail
      refine (l_dcTrans C _ OC.out).mono ?_
      rw [← HX.out]
      rintro e wh ⟨rfl, hbh⟩
      have hch := bel_on' hcg hbh
      clear hbh hcg
      go_wp2_with fail
      refine (i_IsFunctN X _ OX.out Q8.out Q9.out Q10.out Q11.out).mono ?_
      rintro e wi ⟨rfl, hbi⟩
      have hci := bel_on' hch hbi
      clear hbi hch
      go_wp2_with fail
      refine (i_DomainN r _ HKR.out).mono ?_
      rw [← HM.out]
      rintro e wj ⟨rfl, hbj⟩
      have hcj := bel_on' hci hbj
      clear hbj hci
      go_wp2_with fail
      refine (i_ImpliesN _ _ _ hn hM16).mono ?_
      rw [decide_eq_true Q6.out]
      rintro e w' ⟨rfl, rfl⟩
      go_wp2_with fail
      refine (i_RefinesCN D C _ OD.out OC.out).mono ?_
      rw [Q12.out]
      rintro e wk ⟨rfl, hbk⟩
      have hck := bel_on' hcj hbk
      clear hbk hcj
      go_wp2_with fail
      go_ret
      exact ⟨rfl, hck⟩
theorem own : ownKnob Try.prog.godebug = none := by kernel_rfl
theorem laidOut : laidOutB Try.prog = true := by kernel_rfl
set_option maxRecDepth 100000 in
theorem lifted (os : Os) (started : os.Started) (H : Type) (enc : TypeId × Value → H) :
    ReturnsInHanded {} Try.checked os 12 .any (Rows.fnCodeSpec.pre6 enc Try.prog Try.f12 Rows.fnCodeRow.domain false) (Rows.fnCodeSpec.post enc Try.prog Try.f12 false true false false) := by
  refine returnsInHanded_of_change (C := Try.checked) own started (by kernel_rfl) Try.func12
    (ChangeSpec.witness6 (enc := enc) (C := Try.checked) false ⟨#[], #[.slice none 0 0], []⟩ 8 (by kernel_rfl) (by kernel_rfl) (by kernel_rfl) (by kernel_rfl)) ?_
  intro W base args ds gs before hval0 hW hcnd _
  have hval : ∀ (j : Nat) t v, Try.f12.params[j]? = some t → args[j]? = some v → Value.okWide Try.prog W .any base t v := hval0
  have hW' := hW
  obtain ⟨p, q, hA0, hV, rfl, hfz, hnd⟩ := hW
  have hA : DataW.TrodAll enc Try.prog W 0 (fun _ => true) true Try.f12.params.toList args.toList ds p := hA0
  rw [Try.params12] at hA hval
  obtain ⟨v0, vs0, d0, ds0, p0, q0, hargs, rfl, rfl, h0, r0⟩ := trodAll_cons hA
  obtain ⟨rfl, rfl, rfl⟩ := trodAll_nil r0
  obtain rfl : args = #[v0] := by cases args; simp_all
  obtain ⟨rfl, rfl⟩ := trodVars_none hV
  obtain ⟨a0, len0, cap0, rfl⟩ := okWide_slice Try.underlying22 (hval 0 22 v0 rfl rfl)
  have k0 := h0
  have lt0 : ∀ x ∈ p0, x.block < W.heap.size := by obtain ⟨m, hm⟩ := k0; exact DataW.trod_lt m _ _ _ hm
  obtain ⟨z0, w0⟩ : ∃ zs, IsRow .u8 W a0 len0 cap0 zs := by
    obtain ⟨fuel, hf⟩ := h0
    rcases open_ints Try.underlying22 Try.underlying5 (by kernel_rfl) hf with ⟨hcs, _⟩ | ⟨x, l, c, zs, hcs, _, hl, hm, hz, _, hcell, hwz⟩
    · simp [Value.cells] at hcs
      obtain ⟨rfl, rfl, rfl⟩ := hcs
      exact ⟨[], .inl ⟨rfl, rfl, rfl, rfl⟩⟩
    · simp [Value.cells] at hcs
      obtain ⟨rfl, rfl, rfl⟩ := hcs
      exact ⟨zs, .inr ⟨_, rfl, hl, hm, by simpa using hz, hcell, hwz⟩⟩
  clear hA0 hval0
  refine (law_FnCode a0 len0 cap0 z0 W w0).mono fun e W' ⟨he, bel⟩ => ?_
  subst he
  exact ⟨_, rfl, _, _, _, [], _, [], hW', trodAll_mk1 (shut_bool Try.underlying4 _), (trodAll_cons_mk (Below.trod laidOut (by kernel_rfl) (of_decide_eq_true (by kernel_rfl)) k0 bel lt0) trodAll_mk0), rfl, bel.frame _, fun h => by cases h⟩
theorem over : Rows.fnCodeRow.holds Try.pinned (OpenSpec.ofChange Rows.fnCodeSpec) :=
  OpenClaim.holds_of_wide 12 Try.f12 rfl rfl rfl rfl rfl rfl rfl ⟨rfl, rfl, rfl, rfl, rfl⟩ rfl rfl rfl rfl rfl (by kernel_rfl) Try.func12 (by kernel_rfl)
    (of_decide_eq_true (by kernel_rfl)) (by unfold Func.isWrapper; rw [if_neg (of_decide_eq_false (by kernel_rfl))]; exact ⟨rfl, rfl⟩)
    (fun os started H enc _ => lifted os started H enc)
/-- The statement. -/
theorem proved : Rows.FnCodeSaid := over
end Go.Proofs.Ytiaeakpgldpaiaa.fnCode
