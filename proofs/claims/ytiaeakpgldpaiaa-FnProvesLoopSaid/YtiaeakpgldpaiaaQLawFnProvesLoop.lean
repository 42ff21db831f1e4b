/- What ranks prove of a loop it guarantees, and the body keeps the invariant: no condition. -/
import Derived.Test.YtiaeakpgldpaiaaRows
import Derived.WalkKit
import Derived.ProofKit
import Derived.OpenShut
import Derived.ShutString
import Derived.ChangeOld
import Derived.Below
import Derived.Test.YtiaeakpgldpaiaaQSpecE
import Derived.Test.YtiaeakpgldpaiaaQImplPl
import Derived.Test.YtiaeakpgldpaiaaQImplJ
import Derived.Test.YtiaeakpgldpaiaaQDrawI
import Derived.Test.YtiaeakpgldpaiaaQApp4
import Derived.Test.YtiaeakpgldpaiaaQPlainV
namespace Go.Proofs.Ytiaeakpgldpaiaa.fnProvesLoop
set_option linter.unusedSimpArgs false
set_option linter.unusedVariables false
set_option maxRecDepth 4000
open Go.ChangeShapes Go.WideShapes Go.ChangeAt Go.RowKit
open Go.ChangeMaps (open_string shut_string)
set_option linter.unusedVariables false
set_option maxHeartbeats 2000000 in
theorem law_FnProvesLoop (a0 : Option Addr) (len0 cap0 : Nat) (z0 : List Int) (w : World) (w0 : IsRow .u8 w a0 len0 cap0 z0) :
    Calls Try.prog 9 #[.slice a0 len0 cap0] w fun e w' => e = .returned (.bool true) ∧ Below w.heap.size w w' := by
  have hin := ByteIn.of_row w0
  by_cases h0 : len0 ≤ 1048576
  rotate_left
  · go_enter Try.func9, Try.ntmps9
    go_wp2_with fail
    go_ret
    exact ⟨rfl, Below.refl _ _⟩
  go_enter Try.func9, Try.ntmps9
  go_wp2_with fail
  refine (s_DrawProvesLoop a0 len0 cap0 _ hin).mono ?_
  rintro e wa ⟨⟨p, t, v, rv, zs, q, ht, hzl4, rfl, hrv⟩, hca⟩
  have hts : t.size ≤ 1048576 := Nat.le_trans ht (by omega)
  have hzl : zs.length ≤ 1048576 := by omega
  have HRV : Hid (IntsAt w.heap.size wa rv zs) := Lib.hid hrv
  clear hin w0 ht hrv
  go_wp2_with fail
  cases hok : plB (trOk t && cvB p) (dig t) p.toNat v zs q
  · have HOK := Lib.hid hok; clear hok
    refine (i_ProvesLoop p t v rv zs q _ _ HRV.out hzl).mono ?_
    rw [HOK.out]
    rintro e wb ⟨rfl, hbb⟩
    have HRB := Lib.hid (HRV.out.later hbb)
    have hcb := bel_on' hca hbb
    clear hca hbb
    go_wp2_with fail
    refine (s_ProvesLoop p t v rv zs q _ _ hts HRB.out hzl).mono ?_
    rw [HOK.out]
    rintro e wc ⟨rfl, hbc⟩
    have HRC := Lib.hid (HRB.out.later hbc)
    have hcc := bel_on' hcb hbc
    clear hcb hbc
    go_wp2_with fail
    refine (s_ProvesLoop p t v rv zs q _ _ hts HRC.out hzl).mono ?_
    rw [HOK.out]
    rintro e wd ⟨rfl, hbd⟩
    have hcd := bel_on' hcc hbd
    clear hcc hbd
    go_wp2_with fail
    go_ret
    exact ⟨rfl, hcd⟩
  · obtain ⟨h1, hcv, hcq, h0, hto⟩ := plB_out hok
    rw [Bool.and_eq_true] at h1
    obtain ⟨hko, hcp⟩ := h1
    obtain ⟨n, hn, rfl⟩ := (cvB_iff p).1 hcp
    obtain ⟨k, hk, rfl⟩ := (cvB_iff v).1 hcv
    obtain ⟨m, hm2, rfl⟩ := (cvB_iff q).1 hcq
    have hm := dig_mono hko
    have hb := dig_bd t
    obtain ⟨U, hU⟩ : ∃ U, U = txt 16 (fWhile n (dig t)) := ⟨_, rfl⟩
    have oU : trOk U = true := by rw [hU]; exact trOk_txt (fWhile_bd hn) (fWhile_mono hn hm)
    have q1 : (#[Value.string (optS (trOk t && cvB (n : Int)) (txt 16 (fWhile (n : Int).toNat (dig t)))), .bool (trOk t && cvB (n : Int))] : Array Value) = #[.string U, .bool true] := by rw [hko, hcp, hU]; rfl
    have h2 := proves_all (m := m) hb hm hn hk hm2 h0 hto
    have q2 : imp k (dig U m) := by rw [hU, dig_txt (fWhile_bd hn) m hm2]; exact h2.1
    have u1 : dig U m < 16 := dig_lt _ _
    have HOK := Lib.hid hok; have KO := Lib.hid hko; have Q1 := Lib.hid q1; have OU := Lib.hid oU; have Q2 := Lib.hid q2; have Q3 := Lib.hid h2.2
    clear hok hko q1 oU q2 h2 hU hm hb h0 hto hcp hcv hcq
    refine (i_ProvesLoop n t k rv zs m _ _ HRV.out hzl).mono ?_
    rw [HOK.out]
    rintro e wb ⟨rfl, hbb⟩
    have HRB := Lib.hid (HRV.out.later hbb)
    have hcb := bel_on' hca hbb
    clear hca hbb
    go_wp2_with fail
    refine (s_ProvesLoop n t k rv zs m _ _ hts HRB.out hzl).mono ?_
    rw [HOK.out]
    rintro e wc ⟨rfl, hbc⟩
    have hcc := bel_on' hcb hbc
    clear hcb hbc
    go_wp2_with fail
    refine (i_WhileTrans n t _).mono ?_
    rw [Q1.out]
    rintro e wd ⟨rfl, hbd⟩
    have hcd := bel_on' hcc hbd
    clear hbd hcc
    go_wp2_with fail
    refine (i_ApplyN U m _ OU.out hm2).mono ?_
    rintro e we ⟨rfl, hbe⟩
    have hce := bel_on' hcd hbe
    clear hbe hcd
    go_wp2_with fail
    refine (i_ImpliesN _ _ _ hk u1).mono ?_
    rw [decide_eq_true Q2.out]
    rintro e w' ⟨rfl, rfl⟩
    go_wp2_with fail
    refine (i_KeepsN t n k _ KO.out hn hk).mono ?_
    rw [decide_eq_true Q3.out]
    rintro e wf ⟨rfl, hbf⟩
    have hcf := bel_on' hce hbf
    clear hbf hce
    go_wp2_with fail
    go_ret
    exact ⟨rfl, hcf⟩
theorem own : ownKnob Try.prog.godebug = none := by kernel_rfl
theorem laidOut : laidOutB Try.prog = true := by kernel_rfl
set_option maxRecDepth 100000 in
theorem lifted (os : Os) (started : os.Started) (H : Type) (enc : TypeId × Value → H) :
    ReturnsInHanded {} Try.checked os 9 .any (Rows.fnProvesLoopSpec.pre6 enc Try.prog Try.f9 Rows.fnProvesLoopRow.domain false) (Rows.fnProvesLoopSpec.post enc Try.prog Try.f9 false true false false) := by
  refine returnsInHanded_of_change (C := Try.checked) own started (by kernel_rfl) Try.func9
    (ChangeSpec.witness6 (enc := enc) (C := Try.checked) false ⟨#[], #[.slice none 0 0], []⟩ 8 (by kernel_rfl) (by kernel_rfl) (by kernel_rfl) (by kernel_rfl)) ?_
  intro W base args ds gs before hval0 hW hcnd _
  have hval : ∀ (j : Nat) t v, Try.f9.params[j]? = some t → args[j]? = some v → Value.okWide Try.prog W .any base t v := hval0
  have hW' := hW
  obtain ⟨p, q, hA0, hV, rfl, hfz, hnd⟩ := hW
  have hA : DataW.TrodAll enc Try.prog W 0 (fun _ => true) true Try.f9.params.toList args.toList ds p := hA0
  rw [Try.params9] at hA hval
  obtain ⟨v0, vs0, d0, ds0, p0, q0, hargs, rfl, rfl, h0, r0⟩ := trodAll_cons hA
  obtain ⟨rfl, rfl, rfl⟩ := trodAll_nil r0
  obtain rfl : args = #[v0] := by cases args; simp_all
  obtain ⟨rfl, rfl⟩ := trodVars_none hV
  obtain ⟨a0, len0, cap0, rfl⟩ := okWide_slice Try.underlying22 (hval 0 22 v0 rfl rfl)
  have k0 := h0
  have lt0 : ∀ x ∈ p0, x.block < W.heap.size := by obtain ⟨m, hm⟩ := k0; exact DataW.trod_lt m _ _ _ hm
  obtain ⟨z0, w0⟩ : ∃ zs, IsRow .u8 W a0 len0 cap0 zs := by
    obtain ⟨fuel, hf⟩ := h0
    rcases open_ints Try.underlying22 Try.underlying5 (by kernel_rfl) hf with ⟨hcs, _⟩ | ⟨x, l, c, zs, hcs, _, hl, hm, hz, _, hcell, hwz⟩
    · simp [Value.cells] at hcs
      obtain ⟨rfl, rfl, rfl⟩ := hcs
      exact ⟨[], .inl ⟨rfl, rfl, rfl, rfl⟩⟩
    · simp [Value.cells] at hcs
      obtain ⟨rfl, rfl, rfl⟩ := hcs
      exact ⟨zs, .inr ⟨_, rfl, hl, hm, by simpa using hz, hcell, hwz⟩⟩
  clear hA0 hval0
  refine (law_FnProvesLoop a0 len0 cap0 z0 W w0).mono fun e W' ⟨he, bel⟩ => ?_
  subst he
  exact ⟨_, rfl, _, _, _, [], _, [], hW', trodAll_mk1 (shut_bool Try.underlying4 _), (trodAll_cons_mk (Below.trod laidOut (by kernel_rfl) (of_decide_eq_true (by kernel_rfl)) k0 bel lt0) trodAll_mk0), rfl, bel.frame _, fun h => by cases h⟩
theorem over : Rows.fnProvesLoopRow.holds Try.pinned (OpenSpec.ofChange Rows.fnProvesLoopSpec) :=
  OpenClaim.holds_of_wide 9 Try.f9 rfl rfl rfl rfl rfl rfl rfl ⟨rfl, rfl, rfl, rfl, rfl⟩ rfl rfl rfl rfl rfl (by kernel_rfl) Try.func9 (by kernel_rfl)
    (of_decide_eq_true (by kernel_rfl)) (by unfold Func.isWrapper; rw [if_neg (of_decide_eq_false (by kernel_rfl))]; exact ⟨rfl, rfl⟩)
    (fun os started H enc _ => lifted os started H enc)
/-- The statement. -/
theorem proved : Rows.FnProvesLoopSaid := over
end Go.Proofs.Ytiaeakpgldpaiaa.fnProvesLoop
