/- The transformer of two specifications in sequence is that of both in sequence: no condition. -/
import Derived.Test.YtiaeakpgldpaiaaRows
import Derived.WalkKit
import Derived.ProofKit
import Derived.OpenShut
import Derived.ShutString
import Derived.ChangeOld
import Derived.Below
import Derived.Test.YtiaeakpgldpaiaaQSpecH
import Derived.Test.YtiaeakpgldpaiaaQImplM
import Derived.Test.YtiaeakpgldpaiaaQImplN
import Derived.Test.YtiaeakpgldpaiaaQImplO
import Derived.Test.YtiaeakpgldpaiaaQDrawG
import Derived.Test.YtiaeakpgldpaiaaQApp5
import Derived.Test.YtiaeakpgldpaiaaQPlainU
namespace Go.Proofs.Ytiaeakpgldpaiaa.fnSpecSequence
set_option linter.unusedSimpArgs false
set_option linter.unusedVariables false
set_option maxRecDepth 4000
open Go.ChangeShapes Go.WideShapes Go.ChangeAt Go.RowKit
open Go.ChangeMaps (open_string shut_string)
set_option linter.unusedVariables false
set_option maxHeartbeats 2000000 in
theorem law_FnSpecSequence (a0 : Option Addr) (len0 cap0 : Nat) (z0 : List Int) (w : World) (w0 : IsRow .u8 w a0 len0 cap0 z0) :
    Calls Try.prog 5 #[.slice a0 len0 cap0] w fun e w' => e = .returned (.bool true) ∧ Below w.heap.size w w' := by
  have hin := ByteIn.of_row w0
  by_cases h0 : len0 ≤ 1048576
  rotate_left
  · go_enter Try.func5, Try.ntmps5
    go_wp2_with fail
    go_ret
    exact ⟨rfl, Below.refl _ _⟩
  go_enter Try.func5, Try.ntmps5
  go_wp2_with fail
  refine (s_DrawSpecSequence a0 len0 cap0 _ hin).mono ?_
  rintro e wa ⟨⟨p, r, q, s, ⟨hr, hs⟩, rfl⟩, hca⟩
  have xr : r.size ≤ 1048576 := Nat.le_trans hr (by omega)
  have xs : s.size ≤ 1048576 := Nat.le_trans hs (by omega)
  clear hin w0 hr hs
  go_wp2_with fail
  cases hok : ((cvB p && relOk r) && (cvB q && relOk s))
  · have q1 : (#[Value.int .i64 ((if (cvB p && relOk r) && (cvB q && relOk s) then p.toNat &&& fBox (dig r) q.toNat else 0 : Nat) : Int), .string (optS ((cvB p && relOk r) && (cvB q && relOk s)) (txt 4 (fFrom (p.toNat &&& fBox (dig r) q.toNat) (fComp (dig r) (dig s))))), .bool ((cvB p && relOk r) && (cvB q && relOk s))] : Array Value) = #[.int .i64 0, .string ⟨#[]⟩, .bool false] := by rw [hok]; rfl
    have Q1 := Lib.hid q1; clear q1 hok
    refine (i_SpecSequence p r q s _).mono ?_
    rw [Q1.out]
    rintro e wb ⟨rfl, hbb⟩
    have hcb := bel_on' hca hbb
    clear hbb hca
    go_wp2_with fail
    refine (s_SpecSequence p r q s _ xr xs).mono ?_
    rw [Q1.out]
    rintro e w' ⟨rfl, rfl⟩
    go_wp2_with fail
    go_ret
    exact ⟨rfl, hcb⟩
  · have g := hok
    simp only [Bool.and_eq_true] at g
    obtain ⟨⟨hcp, hkr⟩, hcq, hks⟩ := g
    obtain ⟨n, hn, rfl⟩ := (cvB_iff p).1 hcp
    obtain ⟨m, hm, rfl⟩ := (cvB_iff q).1 hcq
    obtain ⟨K, hK⟩ : ∃ K, K = (n &&& fBox (dig r) m) := ⟨_, rfl⟩
    have hK16 : K < 16 := by rw [hK]; exact and_lt hn
    have hC : ∀ i, fFrom K (fComp (dig r) (dig s)) i < 16 := fun i => mkC_lt _ 4
    obtain ⟨A, hA⟩ : ∃ A, A = txt 4 (fFrom K (fComp (dig r) (dig s))) := ⟨_, rfl⟩
    have oA : relOk A = true := by rw [hA]; exact relOk_txt fun i _ => hC i
    have dA : ∀ i, i < 4 → dig A i = fFrom K (fComp (dig r) (dig s)) i := fun i hi => by rw [hA, txt_dig 4 _ i hi (hC i)]
    obtain ⟨T, hT⟩ : ∃ T, T = txt 16 (fSpec n (dig r)) := ⟨_, rfl⟩
    obtain ⟨U, hU⟩ : ∃ U, U = txt 16 (fSpec m (dig s)) := ⟨_, rfl⟩
    obtain ⟨V, hV⟩ : ∃ V, V = txt 16 (fSpec K (dig A)) := ⟨_, rfl⟩
    have oT : trOk T = true := by rw [hT]; exact trOk_txt (fun x _ => fSpec_lt hn x) (fSpec_mono _ _)
    have oU : trOk U = true := by rw [hU]; exact trOk_txt (fun x _ => fSpec_lt hm x) (fSpec_mono _ _)
    obtain ⟨D, hD⟩ : ∃ D, D = fDia (dig A) 15 4 := ⟨_, rfl⟩
    have hD16 : D < 16 := by rw [hD]; exact fDia_lt _ _
    have q1 : (#[Value.int .i64 ((if (cvB (n : Int) && relOk r) && (cvB (m : Int) && relOk s) then (n : Int).toNat &&& fBox (dig r) (m : Int).toNat else 0 : Nat) : Int), .string (optS ((cvB (n : Int) && relOk r) && (cvB (m : Int) && relOk s)) (txt 4 (fFrom ((n : Int).toNat &&& fBox (dig r) (m : Int).toNat) (fComp (dig r) (dig s))))), .bool ((cvB (n : Int) && relOk r) && (cvB (m : Int) && relOk s))] : Array Value) = #[.int .i64 (K : Int), .string A, .bool true] := by
      rw [hok, hA, hK]; rfl
    have q2 : (#[Value.string (optS (cvB (n : Int) && relOk r) (txt 16 (fSpec (n : Int).toNat (dig r)))), .bool (cvB (n : Int) && relOk r)] : Array Value) = #[.string T, .bool true] := by rw [hcp, hkr, hT]; rfl
    have q3 : (#[Value.string (optS (cvB (m : Int) && relOk s) (txt 16 (fSpec (m : Int).toNat (dig s)))), .bool (cvB (m : Int) && relOk s)] : Array Value) = #[.string U, .bool true] := by rw [hcq, hks, hU]; rfl
    have q4 : (#[Value.string (optS (cvB (K : Int) && relOk A) (txt 16 (fSpec (K : Int).toNat (dig A)))), .bool (cvB (K : Int) && relOk A)] : Array Value) = #[.string V, .bool true] := by rw [cvB_nat K hK16, oA, hV]; rfl
    have q5 : txt 16 (fun x => dig T (dig U x)) = V := by
      rw [hV]
      refine txt_congr fun x hx => ?_
      rw [fSpec_congr dA x, hT, hU, dig_txt (fun x _ => fSpec_lt hm x) x hx, dig_txt (fun x _ => fSpec_lt hn x) _ (fSpec_lt hm x), hK]
      exact seq_spec hn hm (fun i => dig_lt r i) (fun i => dig_lt s i) x
    have q6 : imp D K := by rw [hD, fDia_congr 15 dA]; exact seq_dom _
    have Q1 := Lib.hid q1; have Q2 := Lib.hid q2; have Q3 := Lib.hid q3; have Q4 := Lib.hid q4; have Q5 := Lib.hid q5; have Q6 := Lib.hid q6; have OT := Lib.hid oT; have OU := Lib.hid oU; have OA := Lib.hid oA; have HD := Lib.hid hD
    clear q1 q2 q3 q4 q5 q6 oT oU oA hT hU hV hA hK hD dA hC hcp hkr hcq hks hok
    refine (i_SpecSequence n r m s _).mono ?_
    rw [Q1.out]
    rintro e wb ⟨rfl, hbb⟩
    have hcb := bel_on' hca hbb
    clear hbb hca
    go_wp2_with fail
    refine (s_SpecSequence n r m s _ xr xs).mono ?_
    rw [Q1.out]
    rintro e w' ⟨rfl, rfl⟩
    go_wp2_with fail
    refine (i_SpecTrans n r _).mono ?_
    rw [Q2.out]
    rintro e wc ⟨rfl, hbc⟩
    have hcc := bel_on' hcb hbc
    clear hbc hcb
    go_wp2_with fail
    refine (i_SpecTrans m s _).mono ?_
    rw [Q3.out]
    rintro e wd ⟨rfl, hbd⟩
    have hcd := bel_on' hcc hbd
    clear hbd hcc
    go_wp2_with fail
    refine (i_SpecTrans K A _).mono ?_
    rw [Q4.out]
    rintro e we ⟨rfl, hbe⟩
    have hce := bel_on' hcd hbe
    clear hbe hcd
    go_wp2_with fail
    refine (l_dcThen T U _ OT.out OU.out).mono ?_
    rw [Q5.out]
    rintro e wf ⟨rfl, hbf⟩
    have hcf := bel_on' hce hbf
    clear hbf hce
    go_wp2_with fail
    refine (i_DomainN A _ OA.out).mono ?_
    rw [← HD.out]
    rintro e wg ⟨rfl, hbg⟩
    have hcg := bel_on' hcf hbg
    clear hbg hcf
    go_wp2_with fail
    refine (i_ImpliesN _ _ _ hD16 hK16).mono ?_
    rw [decide_eq_true Q6.out]
    rintro e w' ⟨rfl, rfl⟩
    go_wp2_with fail
    go_ret
    exact ⟨rfl, hcg⟩
theorem own : ownKnob Try.prog.godebug = none := by kernel_rfl
theorem laidOut : laidOutB Try.prog = true := by kernel_rfl
set_option maxRecDepth 100000 in
theorem lifted (os : Os) (started : os.Started) (H : Type) (enc : TypeId × Value → H) :
    ReturnsInHanded {} Try.checked os 5 .any (Rows.fnSpecSequenceSpec.pre6 enc Try.prog Try.f5 Rows.fnSpecSequenceRow.domain false) (Rows.fnSpecSequenceSpec.post enc Try.prog Try.f5 false true false false) := by
  refine returnsInHanded_of_change (C := Try.checked) own started (by kernel_rfl) Try.func5
    (ChangeSpec.witness6 (enc := enc) (C := Try.checked) false ⟨#[], #[.slice none 0 0], []⟩ 8 (by kernel_rfl) (by kernel_rfl) (by kernel_rfl) (by kernel_rfl)) ?_
  intro W base args ds gs before hval0 hW hcnd _
  have hval : ∀ (j : Nat) t v, Try.f5.params[j]? = some t → args[j]? = some v → Value.okWide Try.prog W .any base t v := hval0
  have hW' := hW
  obtain ⟨p, q, hA0, hV, rfl, hfz, hnd⟩ := hW
  have hA : DataW.TrodAll enc Try.prog W 0 (fun _ => true) true Try.f5.params.toList args.toList ds p := hA0
  rw [Try.params5] at hA hval
  obtain ⟨v0, vs0, d0, ds0, p0, q0, hargs, rfl, rfl, h0, r0⟩ := trodAll_cons hA
  obtain ⟨rfl, rfl, rfl⟩ := trodAll_nil r0
  obtain rfl : args = #[v0] := by cases args; simp_all
  obtain ⟨rfl, rfl⟩ := trodVars_none hV
  obtain ⟨a0, len0, cap0, rfl⟩ := okWide_slice Try.underlying22 (hval 0 22 v0 rfl rfl)
  have k0 := h0
  have lt0 : ∀ x ∈ p0, x.block < W.heap.size := by obtain ⟨m, hm⟩ := k0; exact DataW.trod_lt m _ _ _ hm
  obtain ⟨z0, w0⟩ : ∃ zs, IsRow .u8 W a0 len0 cap0 zs := by
    obtain ⟨fuel, hf⟩ := h0
    rcases open_ints Try.underlying22 Try.underlying5 (by kernel_rfl) hf with ⟨hcs, _⟩ | ⟨x, l, c, zs, hcs, _, hl, hm, hz, _, hcell, hwz⟩
    · simp [Value.cells] at hcs
      obtain ⟨rfl, rfl, rfl⟩ := hcs
      exact ⟨[], .inl ⟨rfl, rfl, rfl, rfl⟩⟩
    · simp [Value.cells] at hcs
      obtain ⟨rfl, rfl, rfl⟩ := hcs
      exact ⟨zs, .inr ⟨_, rfl, hl, hm, by simpa using hz, hcell, hwz⟩⟩
  clear hA0 hval0
  refine (law_FnSpecSequence a0 len0 cap0 z0 W w0).mono fun e W' ⟨he, bel⟩ => ?_
  subst he
  exact ⟨_, rfl, _, _, _, [], _, [], hW', trodAll_mk1 (shut_bool Try.underlying4 _), (trodAll_cons_mk (Below.trod laidOut (by kernel_rfl) (of_decide_eq_true (by kernel_rfl)) k0 bel lt0) trodAll_mk0), rfl, bel.frame _, fun h => by cases h⟩
theorem over : Rows.fnSpecSequenceRow.holds Try.pinned (OpenSpec.ofChange Rows.fnSpecSequenceSpec) :=
  OpenClaim.holds_of_wide 5 Try.f5 rfl rfl rfl rfl rfl rfl rfl ⟨rfl, rfl, rfl, rfl, rfl⟩ rfl rfl rfl rfl rfl (by kernel_rfl) Try.func5 (by kernel_rfl)
    (of_decide_eq_true (by kernel_rfl)) (by unfold Func.isWrapper; rw [if_neg (of_decide_eq_false (by kernel_rfl))]; exact ⟨rfl, rfl⟩)
    (fun os started H enc _ => lifted os started H enc)
/-- The statement. -/
theorem proved : Rows.FnSpecSequenceSaid := over
end Go.Proofs.Ytiaeakpgldpaiaa.fnSpecSequence
