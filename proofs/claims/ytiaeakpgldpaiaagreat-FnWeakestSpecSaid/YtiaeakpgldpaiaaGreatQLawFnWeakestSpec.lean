/- A conjunctive contract meets its own specification, and another one exactly if that is weaker: no condition. -/
import Derived.Test.YtiaeakpgldpaiaaGreatRows
import Derived.WalkKit
import Derived.ProofKit
import Derived.OpenShut
import Derived.ShutString
import Derived.ChangeOld
import Derived.Below
import Derived.Test.YtiaeakpgldpaiaaGreatQSpecO
import Derived.Test.YtiaeakpgldpaiaaGreatQImplZ
import Derived.Test.YtiaeakpgldpaiaaGreatQImplG
import Derived.Test.YtiaeakpgldpaiaaGreatQDrawK
import Derived.Test.YtiaeakpgldpaiaaGreatQApp6
import Derived.Test.YtiaeakpgldpaiaaGreatQPlainU
namespace Go.Proofs.YtiaeakpgldpaiaaGreat.fnWeakestSpec
set_option linter.unusedSimpArgs false
set_option linter.unusedVariables false
set_option maxRecDepth 4000
open Go.ChangeShapes Go.WideShapes Go.ChangeAt Go.RowKit
open Go.ChangeMaps (open_string shut_string)
set_option linter.unusedVariables false
set_option maxHeartbeats 2000000 in
theorem law_FnWeakestSpec (a0 : Option Addr) (len0 cap0 : Nat) (z0 : List Int) (a1 : Option Addr) (len1 cap1 : Nat) (z1 : List Int) (w : World) (w0 : IsRow .u8 w a0 len0 cap0 z0) (w1 : IsRow .u8 w a1 len1 cap1 z1) :
    Calls Tryz.prog 4 #[.slice a0 len0 cap0, .slice a1 len1 cap1] w fun e w' => e = .returned (.bool true) ∧ Below w.heap.size w w' := by
  have hin := ByteIn.of_row w0
  have hin1 := ByteIn.of_row w1
  by_cases h0 : len0 ≤ 1048576
  rotate_left
  · go_enter Tryz.func4, Tryz.ntmps4
    go_wp2_with fail
    go_ret
    exact ⟨rfl, Below.refl _ _⟩
  by_cases h1 : len1 ≤ 1048576
  rotate_left
  · go_enter Tryz.func4, Tryz.ntmps4
    go_wp2_with fail
    go_ret
    exact ⟨rfl, Below.refl _ _⟩
  go_enter Tryz.func4, Tryz.ntmps4
  go_wp2_with fail
  refine (s_DrawWeakestSpec a0 len0 cap0 _ hin).mono ?_
  rintro e wa ⟨⟨c, rfl⟩, hca⟩
  have HIN1 := Lib.hid hin1
  clear hin hin1 w0 w1
  go_wp2_with fail
  cases hok : (ctOk c && conjB (ctT c))
  · have q1 : (#[Value.int .i64 ((if ctOk c && conjB (ctT c) then ctT c 15 else 0 : Nat) : Int), .string (optS (ctOk c && conjB (ctT c)) (txt 4 (fun s => fLead (ctT c) s 16))), .bool (ctOk c && conjB (ctT c))] : Array Value) = #[.int .i64 0, .string ⟨#[]⟩, .bool false] := by rw [hok]; rfl
    have Q1 := Lib.hid q1; clear q1 hok
    refine (i_WeakestSpec c _).mono ?_
    rw [Q1.out]
    rintro e wb ⟨rfl, hbb⟩
    have hcb := bel_on' hca hbb
    clear hbb hca
    go_wp2_with fail
    refine (s_WeakestSpec c _).mono ?_
    rw [Q1.out]
    rintro e wc ⟨rfl, hbc⟩
    have hcc := bel_on' hcb hbc
    clear hbc hcb
    go_wp2_with fail
    go_ret
    exact ⟨rfl, hcc⟩
  · have g := hok
    rw [Bool.and_eq_true] at g
    obtain ⟨hct, hcj⟩ := g
    have hb := ctT_bd c
    have hm := ctT_mono c
    have hc := (conjB_iff _).1 hcj
    obtain ⟨P, hP⟩ : ∃ P, P = ctT c 15 := ⟨_, rfl⟩
    have hP16 : P < 16 := by rw [hP]; exact hb 15 (by omega)
    have hL : ∀ s, fLead (ctT c) s 16 < 16 := fun s => fLead_lt _ s 16
    obtain ⟨R, hR⟩ : ∃ R, R = txt 4 (fun s => fLead (ctT c) s 16) := ⟨_, rfl⟩
    have oR : relOk R = true := by rw [hR]; exact relOk_txt fun i _ => hL i
    have dR : ∀ i, i < 4 → dig R i = fLead (ctT c) i 16 := fun i hi => by rw [hR, txt_dig 4 _ i hi (hL i)]
    obtain ⟨T, hT⟩ : ∃ T, T = txt 16 (ctT c) := ⟨_, rfl⟩
    have oT : trOk T = true := by rw [hT]; exact trOk_txt hb hm
    have q1 : (#[Value.int .i64 ((if ctOk c && conjB (ctT c) then ctT c 15 else 0 : Nat) : Int), .string (optS (ctOk c && conjB (ctT c)) (txt 4 (fun s => fLead (ctT c) s 16))), .bool (ctOk c && conjB (ctT c))] : Array Value) = #[.int .i64 (P : Int), .string R, .bool true] := by rw [hok, hP, hR]; rfl
    have q2 : (((cvB (P : Int) && relOk R) && ctOk c) && refB (fSpec (P : Int).toNat (dig R)) (ctT c) 16) = true := by
      rw [cvB_nat P hP16, oR, hct]
      show refB (fSpec P (dig R)) (ctT c) 16 = true
      rw [refB_congr (fun i _ => fSpec_congr dR i) (fun i _ => rfl), hP]
      exact weakest_met hb hm hc
    have q3 : conjB (dig T) = true := by rw [hT, conjB_congr (fun i hi => dig_txt hb i hi)]; exact hcj
    have q4 : ∀ (q : Int) (s : ByteArray), (((cvB q && relOk s) && ctOk c) && refB (fSpec q.toNat (dig s)) (ctT c) 16) = ((cvB (P : Int) && relOk R) && (cvB q && relOk s) && (decide (andn q.toNat (P : Int).toNat = 0) && fWithin q.toNat (dig R) (dig s) 4)) := fun q s => by
      rw [cvB_nat P hP16, oR, hct]
      cases h : (cvB q && relOk s)
      · rfl
      · rw [Bool.and_eq_true] at h
        obtain ⟨m, hm2, rfl⟩ := (cvB_iff q).1 h.1
        show refB (fSpec m (dig s)) (ctT c) 16 = weakB P (dig R) m (dig s)
        rw [weakest_weak hb hm hc hm2 (fun i => dig_lt s i), weakB_congr dR, hP]
    have Q1 := Lib.hid q1; have Q2 := Lib.hid q2; have Q3 := Lib.hid q3; have Q4 := Lib.hid q4; have HT := Lib.hid hT; have OT := Lib.hid oT; have HCT := Lib.hid hct
    clear q1 q2 q3 q4 hT oT hct hR hP dR oR hL hb hm hc hcj hok
    refine (i_WeakestSpec c _).mono ?_
    rw [Q1.out]
    rintro e wb ⟨rfl, hbb⟩
    have hcb := bel_on' hca hbb
    clear hbb hca
    go_wp2_with fail
    refine (s_WeakestSpec c _).mono ?_
    rw [Q1.out]
    rintro e wc ⟨rfl, hbc⟩
    have hcc := bel_on' hcb hbc
    clear hbc hcb
    go_wp2_with fail
    refine (s_DrawMeetsSpec a1 len1 cap1 _ (HIN1.out.later hcc)).mono ?_
    rintro e wd ⟨⟨q, s, c', hs, rfl⟩, hbd⟩
    have hcd := bel_on' hcc hbd
    clear hbd hcc
    obtain ⟨v, hv⟩ : ∃ v, v = ((cvB (P : Int) && relOk R) && (cvB q && relOk s) && (decide (andn q.toNat (P : Int).toNat = 0) && fWithin q.toNat (dig R) (dig s) 4)) := ⟨_, rfl⟩
    have q5 := Q4.out q s
    rw [← hv] at q5
    have HV := Lib.hid hv.symm; have Q5 := Lib.hid q5; clear hv q5 hs
    go_wp2_with fail
    refine (i_MeetsSpec P R c _).mono ?_
    rw [Q2.out]
    rintro e we ⟨rfl, hbe⟩
    have hce := bel_on' hcd hbe
    clear hbe hcd
    go_wp2_with fail
    refine (l_dcTrans c _ HCT.out).mono ?_
    rw [← HT.out]
    rintro e wf ⟨rfl, hbf⟩
    have hcf := bel_on' hce hbf
    clear hbf hce
    go_wp2_with fail
    refine (i_IsConjN T _ OT.out).mono ?_
    rw [Q3.out]
    rintro e wg ⟨rfl, hbg⟩
    have hcg := bel_on' hcf hbg
    clear hbg hcf
    go_wp2_with fail
    cases v
    all_goals
      refine (i_MeetsSpec q s c _).mono ?_
      rw [Q5.out]
      rintro e wh ⟨rfl, hbh⟩
      have hch := bel_on' hcg hbh
      clear hbh hcg
      go_wp2_with fail
      refine (i_SpecWeaker P R q s _).mono ?_
      rw [HV.out]
      rintro e wi ⟨rfl, hbi⟩
      have hci := bel_on' hch hbi
      clear hbi hch
      go_wp2_with fail
      go_ret
      exact ⟨rfl, hci⟩
theorem own : ownKnob Tryz.prog.godebug = none := by kernel_rfl
theorem laidOut : laidOutB Tryz.prog = true := by kernel_rfl
set_option maxRecDepth 100000 in
theorem lifted (os : Os) (started : os.Started) (H : Type) (enc : TypeId × Value → H) :
    ReturnsInHanded {} Tryz.checked os 4 .any (Rows.fnWeakestSpecSpec.pre6 enc Tryz.prog Tryz.f4 Rows.fnWeakestSpecRow.domain false) (Rows.fnWeakestSpecSpec.post enc Tryz.prog Tryz.f4 false true false false) := by
  refine returnsInHanded_of_change (C := Tryz.checked) own started (by kernel_rfl) Tryz.func4
    (ChangeSpec.witness6 (enc := enc) (C := Tryz.checked) false ⟨#[], #[.slice none 0 0, .slice none 0 0], []⟩ 8 (by kernel_rfl) (by kernel_rfl) (by kernel_rfl) (by kernel_rfl)) ?_
  intro W base args ds gs before hval0 hW hcnd _
  have hval : ∀ (j : Nat) t v, Tryz.f4.params[j]? = some t → args[j]? = some v → Value.okWide Tryz.prog W .any base t v := hval0
  have hW' := hW
  obtain ⟨p, q, hA0, hV, rfl, hfz, hnd⟩ := hW
  have hA : DataW.TrodAll enc Tryz.prog W 0 (fun _ => true) true Tryz.f4.params.toList args.toList ds p := hA0
  rw [Tryz.params4] at hA hval
  obtain ⟨v0, vs0, d0, ds0, p0, q0, hargs, rfl, rfl, h0, r0⟩ := trodAll_cons hA
  obtain ⟨v1, vs1, d1, ds1, p1, q1, rfl, rfl, rfl, h1, r1⟩ := trodAll_cons r0
  obtain ⟨rfl, rfl, rfl⟩ := trodAll_nil r1
  obtain rfl : args = #[v0, v1] := by cases args; simp_all
  obtain ⟨rfl, rfl⟩ := trodVars_none hV
  obtain ⟨a0, len0, cap0, rfl⟩ := okWide_slice Tryz.underlying22 (hval 0 22 v0 rfl rfl)
  have k0 := h0
  have lt0 : ∀ x ∈ p0, x.block < W.heap.size := by obtain ⟨m, hm⟩ := k0; exact DataW.trod_lt m _ _ _ hm
  obtain ⟨z0, w0⟩ : ∃ zs, IsRow .u8 W a0 len0 cap0 zs := by
    obtain ⟨fuel, hf⟩ := h0
    rcases open_ints Tryz.underlying22 Tryz.underlying5 (by kernel_rfl) hf with ⟨hcs, _⟩ | ⟨x, l, c, zs, hcs, _, hl, hm, hz, _, hcell, hwz⟩
    · simp [Value.cells] at hcs
      obtain ⟨rfl, rfl, rfl⟩ := hcs
      exact ⟨[], .inl ⟨rfl, rfl, rfl, rfl⟩⟩
    · simp [Value.cells] at hcs
      obtain ⟨rfl, rfl, rfl⟩ := hcs
      exact ⟨zs, .inr ⟨_, rfl, hl, hm, by simpa using hz, hcell, hwz⟩⟩
  obtain ⟨a1, len1, cap1, rfl⟩ := okWide_slice Tryz.underlying22 (hval 1 22 v1 rfl rfl)
  have k1 := h1
  have lt1 : ∀ x ∈ p1, x.block < W.heap.size := by obtain ⟨m, hm⟩ := k1; exact DataW.trod_lt m _ _ _ hm
  obtain ⟨z1, w1⟩ : ∃ zs, IsRow .u8 W a1 len1 cap1 zs := by
    obtain ⟨fuel, hf⟩ := h1
    rcases open_ints Tryz.underlying22 Tryz.underlying5 (by kernel_rfl) hf with ⟨hcs, _⟩ | ⟨x, l, c, zs, hcs, _, hl, hm, hz, _, hcell, hwz⟩
    · simp [Value.cells] at hcs
      obtain ⟨rfl, rfl, rfl⟩ := hcs
      exact ⟨[], .inl ⟨rfl, rfl, rfl, rfl⟩⟩
    · simp [Value.cells] at hcs
      obtain ⟨rfl, rfl, rfl⟩ := hcs
      exact ⟨zs, .inr ⟨_, rfl, hl, hm, by simpa using hz, hcell, hwz⟩⟩
  clear hA0 hval0
  refine (law_FnWeakestSpec a0 len0 cap0 z0 a1 len1 cap1 z1 W w0 w1).mono fun e W' ⟨he, bel⟩ => ?_
  subst he
  exact ⟨_, rfl, _, _, _, [], _, [], hW', trodAll_mk1 (shut_bool Tryz.underlying4 _), (trodAll_cons_mk (Below.trod laidOut (by kernel_rfl) (of_decide_eq_true (by kernel_rfl)) k0 bel lt0) (trodAll_cons_mk (Below.trod laidOut (by kernel_rfl) (of_decide_eq_true (by kernel_rfl)) k1 bel lt1) trodAll_mk0)), rfl, bel.frame _, fun h => by cases h⟩
theorem over : Rows.fnWeakestSpecRow.holds Tryz.pinned (OpenSpec.ofChange Rows.fnWeakestSpecSpec) :=
  OpenClaim.holds_of_wide 4 Tryz.f4 rfl rfl rfl rfl rfl rfl rfl ⟨rfl, rfl, rfl, rfl, rfl⟩ rfl rfl rfl rfl rfl (by kernel_rfl) Tryz.func4 (by kernel_rfl)
    (of_decide_eq_true (by kernel_rfl)) (by unfold Func.isWrapper; rw [if_neg (of_decide_eq_false (by kernel_rfl))]; exact ⟨rfl, rfl⟩)
    (fun os started H enc _ => lifted os started H enc)
/-- The statement. -/
theorem proved : Rows.FnWeakestSpecSaid := over
end Go.Proofs.YtiaeakpgldpaiaaGreat.fnWeakestSpec
