/- A specification is weaker than another one exactly if the transformer of this refines its own: no condition. -/
import Derived.Test.YtiaeakpgldpaiaaRows
import Derived.WalkKit
import Derived.ProofKit
import Derived.OpenShut
import Derived.ShutString
import Derived.ChangeOld
import Derived.Below
import Derived.Test.YtiaeakpgldpaiaaSpecD
import Derived.Test.YtiaeakpgldpaiaaImplG
import Derived.Test.YtiaeakpgldpaiaaDrawG
import Derived.Test.YtiaeakpgldpaiaaApp5
import Derived.Test.YtiaeakpgldpaiaaPlainU
namespace Go.Proofs.Ytiaeakpgldpaiaa.fnSpecWeaker
set_option linter.unusedSimpArgs false
set_option linter.unusedVariables false
set_option maxRecDepth 4000
open Go.ChangeShapes Go.WideShapes Go.ChangeAt Go.RowKit
open Go.ChangeMaps (open_string shut_string)
set_option linter.unusedVariables false
set_option maxHeartbeats 2000000 in
theorem law_FnSpecWeaker (a0 : Option Addr) (len0 cap0 : Nat) (z0 : List Int) (w : World) (w0 : IsRow .u8 w a0 len0 cap0 z0) :
    Calls Try.prog 4 #[.slice a0 len0 cap0] w fun e w' => e = .returned (.bool true) ∧ Below w.heap.size w w' := by
  have hin := ByteIn.of_row w0
  by_cases h0 : len0 ≤ 1048576
  rotate_left
  · go_enter Try.func4, Try.ntmps4
    go_wp2_with fail
    go_ret
    exact ⟨rfl, Below.refl _ _⟩
  go_enter Try.func4, Try.ntmps4
  go_wp2_with fail
  refine (s_DrawSpecWeaker a0 len0 cap0 _ hin).mono ?_
  rintro e wa ⟨⟨p, r, q, s, ⟨hr, hs⟩, rfl⟩, hca⟩
  have xr : r.size ≤ 1048576 := Nat.le_trans hr (by omega)
  have xs : s.size ≤ 1048576 := Nat.le_trans hs (by omega)
  clear hin w0 hr hs
  go_wp2_with fail
  cases h1 : (cvB p && relOk r)
  · have q1 : ((cvB p && relOk r) && (cvB q && relOk s) && (decide (andn q.toNat p.toNat = 0) && fWithin q.toNat (dig r) (dig s) 4)) = false := by rw [h1]; rfl
    have Q1 := Lib.hid q1; have H1 := Lib.hid h1; clear q1 h1
    refine (i_SpecWeaker p r q s _).mono ?_
    rw [Q1.out]
    rintro e wb ⟨rfl, hbb⟩
    have hcb := bel_on' hca hbb
    clear hbb hca
    go_wp2_with fail
    refine (i_SpecTrans p r _).mono ?_
    rw [H1.out]
    rintro e wc ⟨rfl, hbc⟩
    have hcc := bel_on' hcb hbc
    clear hbc hcb
    go_wp2_with fail
    cases h2 : (cvB q && relOk s)
    all_goals
      have H2 := Lib.hid h2; clear h2
      refine (i_SpecTrans q s _).mono ?_
      rw [H2.out]
      rintro e wd ⟨rfl, hbd⟩
      have hcd := bel_on' hcc hbd
      clear hbd hcc
      go_wp2_with fail
      refine (s_SpecWeaker p r q s _ xr xs).mono ?_
      rw [Q1.out]
      rintro e w' ⟨rfl, rfl⟩
      go_wp2_with fail
      refine (s_SpecWeaker p r q s _ xr xs).mono ?_
      rw [Q1.out]
      rintro e w' ⟨rfl, rfl⟩
      go_wp2_with fail
      go_ret
      exact ⟨rfl, hcd⟩
  cases h2 : (cvB q && relOk s)
  · have q1 : ((cvB p && relOk r) && (cvB q && relOk s) && (decide (andn q.toNat p.toNat = 0) && fWithin q.toNat (dig r) (dig s) 4)) = false := by rw [h1, h2]; rfl
    have Q1 := Lib.hid q1; have H1 := Lib.hid h1; have H2 := Lib.hid h2; clear q1 h1 h2
    refine (i_SpecWeaker p r q s _).mono ?_
    rw [Q1.out]
    rintro e wb ⟨rfl, hbb⟩
    have hcb := bel_on' hca hbb
    clear hbb hca
    go_wp2_with fail
    refine (i_SpecTrans p r _).mono ?_
    rw [H1.out]
    rintro e wc ⟨rfl, hbc⟩
    have hcc := bel_on' hcb hbc
    clear hbc hcb
    go_wp2_with fail
    refine (i_SpecTrans q s _).mono ?_
    rw [H2.out]
    rintro e wd ⟨rfl, hbd⟩
    have hcd := bel_on' hcc hbd
    clear hbd hcc
    go_wp2_with fail
    refine (s_SpecWeaker p r q s _ xr xs).mono ?_
    rw [Q1.out]
    rintro e w' ⟨rfl, rfl⟩
    go_wp2_with fail
    refine (s_SpecWeaker p r q s _ xr xs).mono ?_
    rw [Q1.out]
    rintro e w' ⟨rfl, rfl⟩
    go_wp2_with fail
    go_ret
    exact ⟨rfl, hcd⟩
  · have g1 := h1; have g2 := h2
    rw [Bool.and_eq_true] at g1 g2
    obtain ⟨n, hn, rfl⟩ := (cvB_iff p).1 g1.1
    obtain ⟨m, hm, rfl⟩ := (cvB_iff q).1 g2.1
    obtain ⟨T, hT⟩ : ∃ T, T = txt 16 (fSpec n (dig r)) := ⟨_, rfl⟩
    obtain ⟨U, hU⟩ : ∃ U, U = txt 16 (fSpec m (dig s)) := ⟨_, rfl⟩
    have oT : trOk T = true := by rw [hT]; exact trOk_txt (fun x _ => fSpec_lt hn x) (fSpec_mono _ _)
    have oU : trOk U = true := by rw [hU]; exact trOk_txt (fun x _ => fSpec_lt hm x) (fSpec_mono _ _)
    obtain ⟨b, hb⟩ : ∃ b, b = weakB n (dig r) m (dig s) := ⟨_, rfl⟩
    have q1 : ((cvB (n : Int) && relOk r) && (cvB (m : Int) && relOk s) && (decide (andn (m : Int).toNat (n : Int).toNat = 0) && fWithin (m : Int).toNat (dig r) (dig s) 4)) = b := by rw [h1, h2, hb]; rfl
    have q2 : (#[Value.string (optS (cvB (n : Int) && relOk r) (txt 16 (fSpec (n : Int).toNat (dig r)))), .bool (cvB (n : Int) && relOk r)] : Array Value) = #[.string T, .bool true] := by rw [h1, hT]; rfl
    have q3 : (#[Value.string (optS (cvB (m : Int) && relOk s) (txt 16 (fSpec (m : Int).toNat (dig s)))), .bool (cvB (m : Int) && relOk s)] : Array Value) = #[.string U, .bool true] := by rw [h2, hU]; rfl
    have q4 : refB (dig U) (dig T) 16 = b := by
      rw [hb, ← spec_ref hn hm (fun i => dig_lt s i)]
      refine refB_congr (fun i hi => ?_) (fun i hi => ?_)
      · rw [hU, dig_txt (fun x _ => fSpec_lt hm x) i hi]
      · rw [hT, dig_txt (fun x _ => fSpec_lt hn x) i hi]
    have q5 : ((cvB (n : Int) && relOk r) && (cvB (n : Int) && relOk r) && (decide (andn (n : Int).toNat (n : Int).toNat = 0) && fWithin (n : Int).toNat (dig r) (dig r) 4)) = true := by rw [h1]; exact weak_refl (dig r) hn
    have Q1 := Lib.hid q1; have Q2 := Lib.hid q2; have Q3 := Lib.hid q3; have Q4 := Lib.hid q4; have Q5 := Lib.hid q5; have OT := Lib.hid oT; have OU := Lib.hid oU
    clear q1 q2 q3 q4 q5 oT oU hT hU hb g1 g2 h1 h2
    cases b
    all_goals
      refine (i_SpecWeaker n r m s _).mono ?_
      rw [Q1.out]
      rintro e wb ⟨rfl, hbb⟩
      have hcb := bel_on' hca hbb
      clear hbb hca
      go_wp2_with fail
      refine (i_SpecTrans n r _).mono ?_
      rw [Q2.out]
      rintro e wc ⟨rfl, hbc⟩
      have hcc := bel_on' hcb hbc
      clear hbc hcb
      go_wp2_with fail
      refine (i_SpecTrans m s _).mono ?_
      rw [Q3.out]
      rintro e wd ⟨rfl, hbd⟩
      have hcd := bel_on' hcc hbd
      clear hbd hcc
      go_wp2_with fail
      refine (s_SpecWeaker n r m s _ xr xs).mono ?_
      rw [Q1.out]
      rintro e w' ⟨rfl, rfl⟩
      go_wp2_with fail
      refine (i_RefinesN U T _ OU.out OT.out).mono ?_
      rw [Q4.out]
      rintro e we ⟨rfl, hbe⟩
      have hce := bel_on' hcd hbe
      clear hbe hcd
      go_wp2_with fail
      refine (i_SpecWeaker n r n r _).mono ?_
      rw [Q5.out]
      rintro e wf ⟨rfl, hbf⟩
      have hcf := bel_on' hce hbf
      clear hbf hce
      go_wp2_with fail
      go_ret
      exact ⟨rfl, hcf⟩
theorem own : ownKnob Try.prog.godebug = none := by kernel_rfl
theorem laidOut : laidOutB Try.prog = true := by kernel_rfl
set_option maxRecDepth 100000 in
theorem lifted (os : Os) (started : os.Started) (H : Type) (enc : TypeId × Value → H) :
    ReturnsInHanded {} Try.checked os 4 .any (Rows.fnSpecWeakerSpec.pre6 enc Try.prog Try.f4 Rows.fnSpecWeakerRow.domain false) (Rows.fnSpecWeakerSpec.post enc Try.prog Try.f4 false true false false) := by
  refine returnsInHanded_of_change (C := Try.checked) own started (by kernel_rfl) Try.func4
    (ChangeSpec.witness6 (enc := enc) (C := Try.checked) false ⟨#[], #[.slice none 0 0], []⟩ 8 (by kernel_rfl) (by kernel_rfl) (by kernel_rfl) (by kernel_rfl)) ?_
  intro W base args ds gs before hval0 hW hcnd _
  have hval : ∀ (j : Nat) t v, Try.f4.params[j]? = some t → args[j]? = some v → Value.okWide Try.prog W .any base t v := hval0
  have hW' := hW
  obtain ⟨p, q, hA0, hV, rfl, hfz, hnd⟩ := hW
  have hA : DataW.TrodAll enc Try.prog W 0 (fun _ => true) true Try.f4.params.toList args.toList ds p := hA0
  rw [Try.params4] at hA hval
  obtain ⟨v0, vs0, d0, ds0, p0, q0, hargs, rfl, rfl, h0, r0⟩ := trodAll_cons hA
  obtain ⟨rfl, rfl, rfl⟩ := trodAll_nil r0
  obtain rfl : args = #[v0] := by cases args; simp_all
  obtain ⟨rfl, rfl⟩ := trodVars_none hV
  obtain ⟨a0, len0, cap0, rfl⟩ := okWide_slice Try.underlying22 (hval 0 22 v0 rfl rfl)
  have k0 := h0
  have lt0 : ∀ x ∈ p0, x.block < W.heap.size := by obtain ⟨m, hm⟩ := k0; exact DataW.trod_lt m _ _ _ hm
  obtain ⟨z0, w0⟩ : ∃ zs, IsRow .u8 W a0 len0 cap0 zs := by
    obtain ⟨fuel, hf⟩ := h0
    rcases open_ints Try.underlying22 Try.underlying5 (by kernel_rfl) hf with ⟨hcs, _⟩ | ⟨x, l, c, zs, hcs, _, hl, hm, hz, _, hcell, hwz⟩
    · simp [Value.cells] at hcs
      obtain ⟨rfl, rfl, rfl⟩ := hcs
      exact ⟨[], .inl ⟨rfl, rfl, rfl, rfl⟩⟩
    · simp [Value.cells] at hcs
      obtain ⟨rfl, rfl, rfl⟩ := hcs
      exact ⟨zs, .inr ⟨_, rfl, hl, hm, by simpa using hz, hcell, hwz⟩⟩
  clear hA0 hval0
  refine (law_FnSpecWeaker a0 len0 cap0 z0 W w0).mono fun e W' ⟨he, bel⟩ => ?_
  subst he
  exact ⟨_, rfl, _, _, _, [], _, [], hW', trodAll_mk1 (shut_bool Try.underlying4 _), (trodAll_cons_mk (Below.trod laidOut (by kernel_rfl) (of_decide_eq_true (by kernel_rfl)) k0 bel lt0) trodAll_mk0), rfl, bel.frame _, fun h => by cases h⟩
theorem over : Rows.fnSpecWeakerRow.holds Try.pinned (OpenSpec.ofChange Rows.fnSpecWeakerSpec) :=
  OpenClaim.holds_of_wide 4 Try.f4 rfl rfl rfl rfl rfl rfl rfl ⟨rfl, rfl, rfl, rfl, rfl⟩ rfl rfl rfl rfl rfl (by kernel_rfl) Try.func4 (by kernel_rfl)
    (of_decide_eq_true (by kernel_rfl)) (by unfold Func.isWrapper; rw [if_neg (of_decide_eq_false (by kernel_rfl))]; exact ⟨rfl, rfl⟩)
    (fun os started H enc _ => lifted os started H enc)
/-- The statement. -/
theorem proved : Rows.FnSpecWeakerSaid := over
end Go.Proofs.Ytiaeakpgldpaiaa.fnSpecWeaker
