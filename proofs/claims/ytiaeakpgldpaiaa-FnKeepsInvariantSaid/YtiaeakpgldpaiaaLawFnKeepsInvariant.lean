/- A kept invariant is kept by the loop that need not end, and a conjunctive loop that ends ends with it: no condition. -/
import Derived.Test.YtiaeakpgldpaiaaRows
import Derived.WalkKit
import Derived.ProofKit
import Derived.OpenShut
import Derived.ShutString
import Derived.ChangeOld
import Derived.Below
import Derived.Test.YtiaeakpgldpaiaaSpecE
import Derived.Test.YtiaeakpgldpaiaaSpecD
import Derived.Test.YtiaeakpgldpaiaaImplJ
import Derived.Test.YtiaeakpgldpaiaaDrawG
import Derived.Test.YtiaeakpgldpaiaaApp4
import Derived.Test.YtiaeakpgldpaiaaPlainW
namespace Go.Proofs.Ytiaeakpgldpaiaa.fnKeepsInvariant
set_option linter.unusedSimpArgs false
set_option linter.unusedVariables false
set_option maxRecDepth 4000
open Go.ChangeShapes Go.WideShapes Go.ChangeAt Go.RowKit
open Go.ChangeMaps (open_string shut_string)
set_option linter.unusedVariables false
set_option maxHeartbeats 2000000 in
theorem law_FnKeepsInvariant (a0 : Option Addr) (len0 cap0 : Nat) (z0 : List Int) (w : World) (w0 : IsRow .u8 w a0 len0 cap0 z0) :
    Calls Try.prog 8 #[.slice a0 len0 cap0] w fun e w' => e = .returned (.bool true) ∧ Below w.heap.size w w' := by
  have hin := ByteIn.of_row w0
  by_cases h0 : len0 ≤ 1048576
  rotate_left
  · go_enter Try.func8, Try.ntmps8
    go_wp2_with fail
    go_ret
    exact ⟨rfl, Below.refl _ _⟩
  go_enter Try.func8, Try.ntmps8
  go_wp2_with fail
  refine (s_DrawKeepsInvariant a0 len0 cap0 _ hin).mono ?_
  rintro e wa ⟨⟨p, t, v, ht, rfl⟩, hca⟩
  have hts : t.size ≤ 1048576 := Nat.le_trans ht (by omega)
  clear hin w0 ht
  go_wp2_with fail
  cases hok : trOk t
  · have q0 : (((trOk t && cvB p) && cvB v) && decide (andn (p.toNat &&& v.toNat) (dig t v.toNat) = 0)) = false := by rw [hok]; rfl
    have Q0 := Lib.hid q0; have HOK := Lib.hid hok; clear q0 hok
    refine (i_KeepsInvariant p t v _).mono ?_
    rw [Q0.out]
    rintro e wb ⟨rfl, hbb⟩
    have hcb := bel_on' hca hbb
    clear hbb hca
    go_wp2_with fail
    refine (s_KeepsInvariant p t v _ hts).mono ?_
    rw [Q0.out]
    rintro e w' ⟨rfl, rfl⟩
    go_wp2_with fail
    refine (i_TransValid t _).mono ?_
    rw [HOK.out]
    rintro e wc ⟨rfl, hbc⟩
    have hcc := bel_on' hcb hbc
    clear hbc hcb
    go_wp2_with fail
    refine (s_KeepsInvariant p t v _ hts).mono ?_
    rw [Q0.out]
    rintro e w' ⟨rfl, rfl⟩
    go_wp2_with fail
    go_ret
    exact ⟨rfl, hcc⟩
  cases hcp : cvB p
  · have q0 : (((trOk t && cvB p) && cvB v) && decide (andn (p.toNat &&& v.toNat) (dig t v.toNat) = 0)) = false := by rw [hok, hcp]; rfl
    have Q0 := Lib.hid q0; have HOK := Lib.hid hok; have HCP := Lib.hid hcp; clear q0 hok hcp
    refine (i_KeepsInvariant p t v _).mono ?_
    rw [Q0.out]
    rintro e wb ⟨rfl, hbb⟩
    have hcb := bel_on' hca hbb
    clear hbb hca
    go_wp2_with fail
    refine (s_KeepsInvariant p t v _ hts).mono ?_
    rw [Q0.out]
    rintro e w' ⟨rfl, rfl⟩
    go_wp2_with fail
    refine (i_TransValid t _).mono ?_
    rw [HOK.out]
    rintro e wc ⟨rfl, hbc⟩
    have hcc := bel_on' hcb hbc
    clear hbc hcb
    go_wp2_with fail
    refine (i_ConditionValid p _).mono ?_
    rw [HCP.out]
    rintro e w' ⟨rfl, rfl⟩
    go_wp2_with fail
    refine (s_KeepsInvariant p t v _ hts).mono ?_
    rw [Q0.out]
    rintro e w' ⟨rfl, rfl⟩
    go_wp2_with fail
    go_ret
    exact ⟨rfl, hcc⟩
  cases hcv : cvB v
  · have q0 : (((trOk t && cvB p) && cvB v) && decide (andn (p.toNat &&& v.toNat) (dig t v.toNat) = 0)) = false := by rw [hok, hcp, hcv]; rfl
    have Q0 := Lib.hid q0; have HOK := Lib.hid hok; have HCP := Lib.hid hcp; have HCV := Lib.hid hcv; clear q0 hok hcp hcv
    refine (i_KeepsInvariant p t v _).mono ?_
    rw [Q0.out]
    rintro e wb ⟨rfl, hbb⟩
    have hcb := bel_on' hca hbb
    clear hbb hca
    go_wp2_with fail
    refine (s_KeepsInvariant p t v _ hts).mono ?_
    rw [Q0.out]
    rintro e w' ⟨rfl, rfl⟩
    go_wp2_with fail
    refine (i_TransValid t _).mono ?_
    rw [HOK.out]
    rintro e wc ⟨rfl, hbc⟩
    have hcc := bel_on' hcb hbc
    clear hbc hcb
    go_wp2_with fail
    refine (i_ConditionValid p _).mono ?_
    rw [HCP.out]
    rintro e w' ⟨rfl, rfl⟩
    go_wp2_with fail
    refine (i_ConditionValid v _).mono ?_
    rw [HCV.out]
    rintro e w' ⟨rfl, rfl⟩
    go_wp2_with fail
    refine (s_KeepsInvariant p t v _ hts).mono ?_
    rw [Q0.out]
    rintro e w' ⟨rfl, rfl⟩
    go_wp2_with fail
    go_ret
    exact ⟨rfl, hcc⟩
  · obtain ⟨n, hn, rfl⟩ := (cvB_iff p).1 hcp
    obtain ⟨k, hk, rfl⟩ := (cvB_iff v).1 hcv
    have hm := dig_mono hok
    have hb := dig_bd t
    have hnn : andn 15 n < 16 := andn_lt (by omega)
    have hke : k &&& andn 15 n < 16 := and_lt hk
    obtain ⟨U, hU⟩ : ∃ U, U = txt 16 (fWhile n (dig t)) := ⟨_, rfl⟩
    obtain ⟨V, hV⟩ : ∃ V, V = txt 16 (fFree n (dig t)) := ⟨_, rfl⟩
    have oU : trOk U = true := by rw [hU]; exact trOk_txt (fWhile_bd hn) (fWhile_mono hn hm)
    have oV : trOk V = true := by rw [hV]; exact trOk_txt (fFree_bd hn) (fFree_mono hn hm)
    have dU : ∀ q, q < 16 → dig U q = fWhile n (dig t) q := fun q hq => by rw [hU, dig_txt (fWhile_bd hn) q hq]
    have dV : ∀ q, q < 16 → dig V q = fFree n (dig t) q := fun q hq => by rw [hV, dig_txt (fFree_bd hn) q hq]
    have q1 : (#[Value.string (optS (trOk t && cvB (n : Int)) (txt 16 (fWhile (n : Int).toNat (dig t)))), .bool (trOk t && cvB (n : Int))] : Array Value) = #[.string U, .bool true] := by rw [hok, hcp, hU]; rfl
    have q2 : (#[Value.string (optS (trOk t && cvB (n : Int)) (txt 16 (fFree (n : Int).toNat (dig t)))), .bool (trOk t && cvB (n : Int))] : Array Value) = #[.string V, .bool true] := by rw [hok, hcp, hV]; rfl
    have q3 : optI (trOk t && cvB (n : Int)) (fWhile (n : Int).toNat (dig t) 15) = (dig U 15 : Int) := by rw [hok, hcp, dU 15 (by omega)]; rfl
    have q4 : imp (n &&& k) (dig t k) → imp k (dig V (k &&& andn 15 n)) := fun h => by rw [dV _ hke]; exact keeps_free hb hm hn hk h
    have q5 : imp (n &&& k) (dig t k) → conjB (dig t) = true → imp (k &&& dig U 15) (dig U (k &&& andn 15 n)) := fun h hc => by
      rw [dU _ hke, dU 15 (by omega)]; exact keeps_while hb hm hn hk (conj_of hc) h
    have q6 : (((trOk t && cvB (n : Int)) && cvB (k : Int)) && decide (andn ((n : Int).toNat &&& (k : Int).toNat) (dig t (k : Int).toNat) = 0)) = decide (imp (n &&& k) (dig t k)) := by rw [hok, hcp, hcv]; rfl
    have u1 : dig U 15 < 16 := dig_lt _ _
    have u2 : dig U (k &&& andn 15 n) < 16 := dig_lt _ _
    have v2 : dig V (k &&& andn 15 n) < 16 := dig_lt _ _
    have t2 : dig t k < 16 := dig_lt _ _
    have n1 : n &&& k < 16 := and_lt hn
    have n2 : k &&& dig U 15 < 16 := and_lt hk
    have Q1 := Lib.hid q1; have Q2 := Lib.hid q2; have Q3 := Lib.hid q3; have Q4 := Lib.hid q4; have Q5 := Lib.hid q5
    have OK := Lib.hid hok; have OU := Lib.hid oU; have OV := Lib.hid oV; have HCP := Lib.hid hcp; have HCV := Lib.hid hcv
    by_cases h1 : imp (n &&& k) (dig t k)
    · have q7 := q6.trans (decide_eq_true h1)
      have Q7 := Lib.hid q7; have H1 := Lib.hid h1
      have P4 := Lib.hid (q4 h1)
      clear q1 q2 q3 q4 q6 q7 h1 hok oU oV hU hV dU dV hm hb hcp hcv q5
      refine (i_KeepsInvariant n t k _).mono ?_
      rw [Q7.out]
      rintro e wb ⟨rfl, hbb⟩
      have hcb := bel_on' hca hbb
      clear hbb hca
      go_wp2_with fail
      refine (s_KeepsInvariant n t k _ hts).mono ?_
      rw [Q7.out]
      rintro e w' ⟨rfl, rfl⟩
      go_wp2_with fail
      refine (i_TransValid t _).mono ?_
      rw [OK.out]
      rintro e wc ⟨rfl, hbc⟩
      have hcc := bel_on' hcb hbc
      clear hbc hcb
      go_wp2_with fail
      refine (i_ConditionValid n _).mono ?_
      rw [HCP.out]
      rintro e w' ⟨rfl, rfl⟩
      go_wp2_with fail
      refine (i_ConditionValid k _).mono ?_
      rw [HCV.out]
      rintro e w' ⟨rfl, rfl⟩
      go_wp2_with fail
      refine (i_WhileFree n t _).mono ?_
      rw [Q2.out]
      rintro e wd ⟨rfl, hbd⟩
      have hcd := bel_on' hcc hbd
      clear hbd hcc
      go_wp2_with fail
      refine (i_WhileTrans n t _).mono ?_
      rw [Q1.out]
      rintro e we ⟨rfl, hbe⟩
      have hce := bel_on' hcd hbe
      clear hbe hcd
      go_wp2_with fail
      refine (i_NotN n _ hn).mono ?_
      rintro e w' ⟨rfl, rfl⟩
      go_wp2_with fail
      refine (l_dcAnd k (andn 15 n) _ hk hnn).mono ?_
      rintro e w' ⟨rfl, rfl⟩
      go_wp2_with fail
      refine (i_ApplyN V (k &&& andn 15 n) _ OV.out hke).mono ?_
      rintro e wf ⟨rfl, hbf⟩
      have hcf := bel_on' hce hbf
      clear hbf hce
      go_wp2_with fail
      refine (i_ImpliesN _ _ _ hk v2).mono ?_
      rw [decide_eq_true P4.out]
      rintro e w' ⟨rfl, rfl⟩
      go_wp2_with fail
      cases hc : conjB (dig t)
      · have HC := Lib.hid hc; clear hc
        refine (i_IsConjN t _ OK.out).mono ?_
        rw [HC.out]
        rintro e wg ⟨rfl, hbg⟩
        have hcg := bel_on' hcf hbg
        clear hbg hcf
        go_wp2_with fail
        refine (l_dcAnd n k _ hn hk).mono ?_
        rintro e w' ⟨rfl, rfl⟩
        go_wp2_with fail
        refine (i_ApplyN t k _ OK.out hk).mono ?_
        rintro e wh ⟨rfl, hbh⟩
        have hch := bel_on' hcg hbh
        clear hbh hcg
        go_wp2_with fail
        refine (i_ImpliesN _ _ _ n1 t2).mono ?_
        rw [decide_eq_true H1.out]
        rintro e w' ⟨rfl, rfl⟩
        go_wp2_with fail
        go_ret
        exact ⟨rfl, hch⟩
      · have HC := Lib.hid hc; have P5 := Lib.hid (Q5.out H1.out hc); clear hc
        refine (i_IsConjN t _ OK.out).mono ?_
        rw [HC.out]
        rintro e wg ⟨rfl, hbg⟩
        have hcg := bel_on' hcf hbg
        clear hbg hcf
        go_wp2_with fail
        refine (i_EndsFrom n t _).mono ?_
        rw [Q3.out]
        rintro e wh ⟨rfl, hbh⟩
        have hch := bel_on' hcg hbh
        clear hbh hcg
        go_wp2_with fail
        refine (l_dcAnd k (dig U 15) _ hk u1).mono ?_
        rintro e w' ⟨rfl, rfl⟩
        go_wp2_with fail
        refine (i_ApplyN U (k &&& andn 15 n) _ OU.out hke).mono ?_
        rintro e wi ⟨rfl, hbi⟩
        have hci := bel_on' hch hbi
        clear hbi hch
        go_wp2_with fail
        refine (i_ImpliesN _ _ _ n2 u2).mono ?_
        rw [decide_eq_true P5.out]
        rintro e w' ⟨rfl, rfl⟩
        go_wp2_with fail
        refine (l_dcAnd n k _ hn hk).mono ?_
        rintro e w' ⟨rfl, rfl⟩
        go_wp2_with fail
        refine (i_ApplyN t k _ OK.out hk).mono ?_
        rintro e wj ⟨rfl, hbj⟩
        have hcj := bel_on' hci hbj
        clear hbj hci
        go_wp2_with fail
        refine (i_ImpliesN _ _ _ n1 t2).mono ?_
        rw [decide_eq_true H1.out]
        rintro e w' ⟨rfl, rfl⟩
        go_wp2_with fail
        go_ret
        exact ⟨rfl, hcj⟩
    · have q7 := q6.trans (decide_eq_false h1)
      have Q7 := Lib.hid q7; have H1 := Lib.hid h1
      clear q1 q2 q3 q4 q6 q7 h1 hok oU oV hU hV dU dV hm hb hcp hcv q5
      refine (i_KeepsInvariant n t k _).mono ?_
      rw [Q7.out]
      rintro e wb ⟨rfl, hbb⟩
      have hcb := bel_on' hca hbb
      clear hbb hca
      go_wp2_with fail
      refine (s_KeepsInvariant n t k _ hts).mono ?_
      rw [Q7.out]
      rintro e w' ⟨rfl, rfl⟩
      go_wp2_with fail
      refine (i_TransValid t _).mono ?_
      rw [OK.out]
      rintro e wc ⟨rfl, hbc⟩
      have hcc := bel_on' hcb hbc
      clear hbc hcb
      go_wp2_with fail
      refine (i_ConditionValid n _).mono ?_
      rw [HCP.out]
      rintro e w' ⟨rfl, rfl⟩
      go_wp2_with fail
      refine (i_ConditionValid k _).mono ?_
      rw [HCV.out]
      rintro e w' ⟨rfl, rfl⟩
      go_wp2_with fail
      refine (i_WhileFree n t _).mono ?_
      rw [Q2.out]
      rintro e wd ⟨rfl, hbd⟩
      have hcd := bel_on' hcc hbd
      clear hbd hcc
      go_wp2_with fail
      refine (i_WhileTrans n t _).mono ?_
      rw [Q1.out]
      rintro e we ⟨rfl, hbe⟩
      have hce := bel_on' hcd hbe
      clear hbe hcd
      go_wp2_with fail
      refine (i_NotN n _ hn).mono ?_
      rintro e w' ⟨rfl, rfl⟩
      go_wp2_with fail
      refine (l_dcAnd k (andn 15 n) _ hk hnn).mono ?_
      rintro e w' ⟨rfl, rfl⟩
      go_wp2_with fail
      refine (l_dcAnd n k _ hn hk).mono ?_
      rintro e w' ⟨rfl, rfl⟩
      go_wp2_with fail
      refine (i_ApplyN t k _ OK.out hk).mono ?_
      rintro e wf ⟨rfl, hbf⟩
      have hcf := bel_on' hce hbf
      clear hbf hce
      go_wp2_with fail
      refine (i_ImpliesN _ _ _ n1 t2).mono ?_
      rw [decide_eq_false H1.out]
      rintro e w' ⟨rfl, rfl⟩
      go_wp2_with fail
      go_ret
      exact ⟨rfl, hcf⟩
theorem own : ownKnob Try.prog.godebug = none := by kernel_rfl
theorem laidOut : laidOutB Try.prog = true := by kernel_rfl
set_option maxRecDepth 100000 in
theorem lifted (os : Os) (started : os.Started) (H : Type) (enc : TypeId × Value → H) :
    ReturnsInHanded {} Try.checked os 8 .any (Rows.fnKeepsInvariantSpec.pre6 enc Try.prog Try.f8 Rows.fnKeepsInvariantRow.domain false) (Rows.fnKeepsInvariantSpec.post enc Try.prog Try.f8 false true false false) := by
  refine returnsInHanded_of_change (C := Try.checked) own started (by kernel_rfl) Try.func8
    (ChangeSpec.witness6 (enc := enc) (C := Try.checked) false ⟨#[], #[.slice none 0 0], []⟩ 8 (by kernel_rfl) (by kernel_rfl) (by kernel_rfl) (by kernel_rfl)) ?_
  intro W base args ds gs before hval0 hW hcnd _
  have hval : ∀ (j : Nat) t v, Try.f8.params[j]? = some t → args[j]? = some v → Value.okWide Try.prog W .any base t v := hval0
  have hW' := hW
  obtain ⟨p, q, hA0, hV, rfl, hfz, hnd⟩ := hW
  have hA : DataW.TrodAll enc Try.prog W 0 (fun _ => true) true Try.f8.params.toList args.toList ds p := hA0
  rw [Try.params8] at hA hval
  obtain ⟨v0, vs0, d0, ds0, p0, q0, hargs, rfl, rfl, h0, r0⟩ := trodAll_cons hA
  obtain ⟨rfl, rfl, rfl⟩ := trodAll_nil r0
  obtain rfl : args = #[v0] := by cases args; simp_all
  obtain ⟨rfl, rfl⟩ := trodVars_none hV
  obtain ⟨a0, len0, cap0, rfl⟩ := okWide_slice Try.underlying22 (hval 0 22 v0 rfl rfl)
  have k0 := h0
  have lt0 : ∀ x ∈ p0, x.block < W.heap.size := by obtain ⟨m, hm⟩ := k0; exact DataW.trod_lt m _ _ _ hm
  obtain ⟨z0, w0⟩ : ∃ zs, IsRow .u8 W a0 len0 cap0 zs := by
    obtain ⟨fuel, hf⟩ := h0
    rcases open_ints Try.underlying22 Try.underlying5 (by kernel_rfl) hf with ⟨hcs, _⟩ | ⟨x, l, c, zs, hcs, _, hl, hm, hz, _, hcell, hwz⟩
    · simp [Value.cells] at hcs
      obtain ⟨rfl, rfl, rfl⟩ := hcs
      exact ⟨[], .inl ⟨rfl, rfl, rfl, rfl⟩⟩
    · simp [Value.cells] at hcs
      obtain ⟨rfl, rfl, rfl⟩ := hcs
      exact ⟨zs, .inr ⟨_, rfl, hl, hm, by simpa using hz, hcell, hwz⟩⟩
  clear hA0 hval0
  refine (law_FnKeepsInvariant a0 len0 cap0 z0 W w0).mono fun e W' ⟨he, bel⟩ => ?_
  subst he
  exact ⟨_, rfl, _, _, _, [], _, [], hW', trodAll_mk1 (shut_bool Try.underlying4 _), (trodAll_cons_mk (Below.trod laidOut (by kernel_rfl) (of_decide_eq_true (by kernel_rfl)) k0 bel lt0) trodAll_mk0), rfl, bel.frame _, fun h => by cases h⟩
theorem over : Rows.fnKeepsInvariantRow.holds Try.pinned (OpenSpec.ofChange Rows.fnKeepsInvariantSpec) :=
  OpenClaim.holds_of_wide 8 Try.f8 rfl rfl rfl rfl rfl rfl rfl ⟨rfl, rfl, rfl, rfl, rfl⟩ rfl rfl rfl rfl rfl (by kernel_rfl) Try.func8 (by kernel_rfl)
    (of_decide_eq_true (by kernel_rfl)) (by unfold Func.isWrapper; rw [if_neg (of_decide_eq_false (by kernel_rfl))]; exact ⟨rfl, rfl⟩)
    (fun os started H enc _ => lifted os started H enc)
/-- The statement. -/
theorem proved : Rows.FnKeepsInvariantSaid := over
end Go.Proofs.Ytiaeakpgldpaiaa.fnKeepsInvariant
