/- A sequence is correct exactly if its first part leads to what the second one needs, and a contract is correct from what it needs: no condition. -/
import Derived.Test.YtiaeakpgldpaiaaRows
import Derived.WalkKit
import Derived.ProofKit
import Derived.OpenShut
import Derived.ShutString
import Derived.ChangeOld
import Derived.Below
import Derived.Test.YtiaeakpgldpaiaaQSpecO
import Derived.Test.YtiaeakpgldpaiaaQImplZ
import Derived.Test.YtiaeakpgldpaiaaQDrawK
import Derived.Test.YtiaeakpgldpaiaaQApp6
import Derived.Test.YtiaeakpgldpaiaaQPlainT
namespace Go.Proofs.Ytiaeakpgldpaiaa.fnIsCorrect
set_option linter.unusedSimpArgs false
set_option linter.unusedVariables false
set_option maxRecDepth 4000
open Go.ChangeShapes Go.WideShapes Go.ChangeAt Go.RowKit
open Go.ChangeMaps (open_string shut_string)
set_option linter.unusedVariables false
set_option maxHeartbeats 4000000 in
theorem law_FnIsCorrect (a0 : Option Addr) (len0 cap0 : Nat) (z0 : List Int) (a1 : Option Addr) (len1 cap1 : Nat) (z1 : List Int) (w : World) (w0 : IsRow .u8 w a0 len0 cap0 z0) (w1 : IsRow .u8 w a1 len1 cap1 z1) :
    Calls Try.prog 13 #[.slice a0 len0 cap0, .slice a1 len1 cap1] w fun e w' => e = .returned (.bool true) ∧ Below w.heap.size w w' := by
  have hin := ByteIn.of_row w0
  have hin1 := ByteIn.of_row w1
  by_cases h0 : len0 ≤ 1048576
  rotate_left
  · go_enter Try.func13, Try.ntmps13
    go_wp2_with fail
    go_ret
    exact ⟨rfl, Below.refl _ _⟩
  by_cases h1 : len1 ≤ 1048576
  rotate_left
  · go_enter Try.func13, Try.ntmps13
    go_wp2_with fail
    go_ret
    exact ⟨rfl, Below.refl _ _⟩
  go_enter Try.func13, Try.ntmps13
  go_wp2_with fail
  refine (s_DrawIsCorrect a0 len0 cap0 _ hin).mono ?_
  rintro e wa ⟨⟨p, c, q, rfl⟩, hca⟩
  have HIN1 := Lib.hid hin1
  clear hin hin1 w0 w1
  go_wp2_with fail
  obtain ⟨b, hb⟩ : ∃ b, b = (((cvB p && cvB q) && ctOk c) && decide (andn p.toNat (ctT c q.toNat) = 0)) := ⟨_, rfl⟩
  cases h3 : ctOk c
  · have q1 : b = false := by rw [hb, h3]; cases (cvB p && cvB q) <;> rfl
    subst q1
    have Q1 := Lib.hid hb.symm; have H3 := Lib.hid h3; clear hb h3
    refine (i_IsCorrect p c q _).mono ?_
    rw [Q1.out]
    rintro e wb ⟨rfl, hbb⟩
    have hcb := bel_on' hca hbb
    clear hbb hca
    go_wp2_with fail
    refine (s_IsCorrect p c q _).mono ?_
    rw [Q1.out]
    rintro e wc ⟨rfl, hbc⟩
    have hcc := bel_on' hcb hbc
    clear hbc hcb
    go_wp2_with fail
    refine (i_ContractValid c _).mono ?_
    rw [H3.out]
    rintro e wd ⟨rfl, hbd⟩
    have hcd := bel_on' hcc hbd
    clear hbd hcc
    go_wp2_with fail
    refine (s_IsCorrect p c q _).mono ?_
    rw [Q1.out]
    rintro e we ⟨rfl, hbe⟩
    have hce := bel_on' hcd hbe
    clear hbe hcd
    go_wp2_with fail
    go_ret
    exact ⟨rfl, hce⟩
  cases h1 : cvB p
  · have q1 : b = false := by rw [hb, h1]; rfl
    subst q1
    have Q1 := Lib.hid hb.symm; have H1 := Lib.hid h1; have H3 := Lib.hid h3; clear hb h1 h3
    refine (i_IsCorrect p c q _).mono ?_
    rw [Q1.out]
    rintro e wb ⟨rfl, hbb⟩
    have hcb := bel_on' hca hbb
    clear hbb hca
    go_wp2_with fail
    refine (s_IsCorrect p c q _).mono ?_
    rw [Q1.out]
    rintro e wc ⟨rfl, hbc⟩
    have hcc := bel_on' hcb hbc
    clear hbc hcb
    go_wp2_with fail
    refine (i_ContractValid c _).mono ?_
    rw [H3.out]
    rintro e wd ⟨rfl, hbd⟩
    have hcd := bel_on' hcc hbd
    clear hbd hcc
    go_wp2_with fail
    refine (i_ConditionValid p _).mono ?_
    rw [H1.out]
    rintro e w' ⟨rfl, rfl⟩
    go_wp2_with fail
    refine (s_IsCorrect p c q _).mono ?_
    rw [Q1.out]
    rintro e we ⟨rfl, hbe⟩
    have hce := bel_on' hcd hbe
    clear hbe hcd
    go_wp2_with fail
    go_ret
    exact ⟨rfl, hce⟩
  cases h2 : cvB q
  · have q1 : b = false := by rw [hb, h1, h2]; rfl
    subst q1
    have Q1 := Lib.hid hb.symm; have H1 := Lib.hid h1; have H2 := Lib.hid h2; have H3 := Lib.hid h3; clear hb h1 h2 h3
    refine (i_IsCorrect p c q _).mono ?_
    rw [Q1.out]
    rintro e wb ⟨rfl, hbb⟩
    have hcb := bel_on' hca hbb
    clear hbb hca
    go_wp2_with fail
    refine (s_IsCorrect p c q _).mono ?_
    rw [Q1.out]
    rintro e wc ⟨rfl, hbc⟩
    have hcc := bel_on' hcb hbc
    clear hbc hcb
    go_wp2_with fail
    refine (i_ContractValid c _).mono ?_
    rw [H3.out]
    rintro e wd ⟨rfl, hbd⟩
    have hcd := bel_on' hcc hbd
    clear hbd hcc
    go_wp2_with fail
    refine (i_ConditionValid p _).mono ?_
    rw [H1.out]
    rintro e w' ⟨rfl, rfl⟩
    go_wp2_with fail
    refine (i_ConditionValid q _).mono ?_
    rw [H2.out]
    rintro e w' ⟨rfl, rfl⟩
    go_wp2_with fail
    refine (s_IsCorrect p c q _).mono ?_
    rw [Q1.out]
    rintro e we ⟨rfl, hbe⟩
    have hce := bel_on' hcd hbe
    clear hbe hcd
    go_wp2_with fail
    go_ret
    exact ⟨rfl, hce⟩
  obtain ⟨n, hn, rfl⟩ := (cvB_iff p).1 h1
  obtain ⟨m, hm, rfl⟩ := (cvB_iff q).1 h2
  obtain ⟨X, hX⟩ : ∃ X, X = ctT c m := ⟨_, rfl⟩
  have hX16 : X < 16 := by rw [hX]; exact ctT_lt c m hm
  have hbX : b = decide (imp n X) := by rw [hb, h1, h2, h3, hX]; rfl
  have qn : optI (ctOk c && cvB (m : Int)) (ctT c (m : Int).toNat) = (X : Int) := by rw [h3, h2, hX]; rfl
  have qx : (((cvB (X : Int) && cvB (m : Int)) && ctOk c) && decide (andn (X : Int).toNat (ctT c (m : Int).toNat) = 0)) = true := by
    rw [cvB_nat X hX16, h2, h3]
    show decide (andn X (ctT c m) = 0) = true
    rw [← hX]
    exact decide_eq_true (imp_refl X)
  have Q1 := Lib.hid hb.symm; have H1 := Lib.hid h1; have H2 := Lib.hid h2; have H3 := Lib.hid h3; have HBX := Lib.hid hbX; have QN := Lib.hid qn; have QX := Lib.hid qx; have HX := Lib.hid hX
  clear hb h1 h2 h3 hbX qn qx hX
  have bb : (b != b) = false := by cases b <;> rfl
  refine (i_IsCorrect n c m _).mono ?_
  rw [Q1.out]
  rintro e wb ⟨rfl, hbb⟩
  have hcb := bel_on' hca hbb
  clear hbb hca
  go_wp2_with fail
  refine (s_IsCorrect n c m _).mono ?_
  rw [Q1.out]
  rintro e wc ⟨rfl, hbc⟩
  have hcc := bel_on' hcb hbc
  clear hbc hcb
  go_wp2_with fail
  refine (i_ContractValid c _).mono ?_
  rw [H3.out]
  rintro e wd ⟨rfl, hbd⟩
  have hcd := bel_on' hcc hbd
  clear hbd hcc
  go_wp2_with fail
  refine (i_ConditionValid n _).mono ?_
  rw [H1.out]
  rintro e w' ⟨rfl, rfl⟩
  go_wp2_with fail
  refine (i_ConditionValid m _).mono ?_
  rw [H2.out]
  rintro e w' ⟨rfl, rfl⟩
  go_wp2_with fail
  refine (s_DrawMiddleCondition a1 len1 cap1 _ (HIN1.out.later hcd)).mono ?_
  rintro e we ⟨⟨d, u, k, rfl⟩, hbe⟩
  have hce := bel_on' hcd hbe
  clear hbe hcd bb
  go_wp2_with fail
  obtain ⟨z, hz⟩ : ∃ z, z = optI ((ctOk d && ctOk u) && cvB k) (ctT u k.toNat) := ⟨_, rfl⟩
  have HZ := Lib.hid hz.symm; clear hz
  have zz : (z == z) = true := by simp
  cases hd : ctOk d
  · have q1 : optI ((ctOk c && ctOk d) && cvB (m : Int)) (ctT d (m : Int).toNat) = -1 := by rw [H3.out, hd]; rfl
    have QM := Lib.hid q1; clear q1 hd
    refine (i_MiddleCondition c d m _).mono ?_
    rw [QM.out]
    rintro e wf ⟨rfl, hbf⟩
    have hcf := bel_on' hce hbf
    clear hbf hce
    go_wp2_with fail
    refine (i_MiddleCondition d u k _).mono ?_
    rw [HZ.out]
    rintro e wg ⟨rfl, hbg⟩
    have hcg := bel_on' hcf hbg
    clear hbg hcf
    go_wp2_with fail
    refine (s_MiddleCondition d u k _).mono ?_
    rw [HZ.out]
    rintro e wh ⟨rfl, hbh⟩
    have hch := bel_on' hcg hbh
    clear hbh hcg
    go_wp2_with fail
    by_cases hi : imp n X
    · have hbt : b = true := HBX.out.trans (decide_eq_true hi)
      subst hbt
      have HI := Lib.hid hi; clear hi
      refine (i_NeedsBefore c m _).mono ?_
      rw [QN.out]
      rintro e wi ⟨rfl, hbi⟩
      have hci := bel_on' hch hbi
      clear hbi hch
      go_wp2_with fail
      refine (i_ImpliesN _ _ _ hn hX16).mono ?_
      rw [decide_eq_true HI.out]
      rintro e w' ⟨rfl, rfl⟩
      go_wp2_with fail
      refine (i_NeedsBefore c m _).mono ?_
      rw [QN.out]
      rintro e wj ⟨rfl, hbj⟩
      have hcj := bel_on' hci hbj
      clear hbj hci
      go_wp2_with fail
      refine (i_IsCorrect X c m _).mono ?_
      rw [QX.out]
      rintro e wk ⟨rfl, hbk⟩
      have hck := bel_on' hcj hbk
      clear hbk hcj
      go_wp2_with fail
      go_ret
      exact ⟨rfl, hck⟩
    · have hbt : b = false := HBX.out.trans (decide_eq_false hi)
      subst hbt
      have HI := Lib.hid hi; clear hi
      refine (i_NeedsBefore c m _).mono ?_
      rw [QN.out]
      rintro e wi ⟨rfl, hbi⟩
      have hci := bel_on' hch hbi
      clear hbi hch
      go_wp2_with fail
      refine (i_ImpliesN _ _ _ hn hX16).mono ?_
      rw [decide_eq_false HI.out]
      rintro e w' ⟨rfl, rfl⟩
      go_wp2_with fail
      refine (i_NeedsBefore c m _).mono ?_
      rw [QN.out]
      rintro e wj ⟨rfl, hbj⟩
      have hcj := bel_on' hci hbj
      clear hbj hci
      go_wp2_with fail
      refine (i_IsCorrect X c m _).mono ?_
      rw [QX.out]
      rintro e wk ⟨rfl, hbk⟩
      have hck := bel_on' hcj hbk
      clear hbk hcj
      go_wp2_with fail
      go_ret
      exact ⟨rfl, hck⟩
  · obtain ⟨Y, hY⟩ : ∃ Y, Y = ctT d m := ⟨_, rfl⟩
    have hY16 : Y < 16 := by rw [hY]; exact ctT_lt d m hm
    have q1 : optI ((ctOk c && ctOk d) && cvB (m : Int)) (ctT d (m : Int).toNat) = (Y : Int) := by rw [H3.out, hd, H2.out, hY]; rfl
    have hsc := ctOk_size H3.out
    have hsd := ctOk_size hd
    have h0Y : decide (0 ≤ (Y : Int)) = true := by simp
    have QM := Lib.hid q1; clear q1
    by_cases hl : c.size + d.size < 190
    · obtain ⟨okS, trS⟩ := ct_seq H3.out hd hl
      obtain ⟨v, hv⟩ : ∃ v, v = (((cvB (n : Int) && cvB (m : Int)) && ctOk (((⟨#[59]⟩ : ByteArray) ++ c) ++ d)) && decide (andn (n : Int).toNat (ctT (((⟨#[59]⟩ : ByteArray) ++ c) ++ d) (m : Int).toNat) = 0)) := ⟨_, rfl⟩
      have q2 : (((cvB (n : Int) && cvB (Y : Int)) && ctOk c) && decide (andn (n : Int).toNat (ctT c (Y : Int).toNat) = 0)) = v := by
        rw [hv, H1.out, H2.out, H3.out, okS, cvB_nat Y hY16, show ((m : Int).toNat) = m from rfl, trS m, hY]; rfl
      have HV := Lib.hid hv.symm; have QV := Lib.hid q2
      have HS1 := Lib.hid okS
      have e1 : IntKind.i64.wrap ((c.size : Int) + (d.size : Int)) = (c.size : Int) + (d.size : Int) := IntWalk.i64_in _ ⟨by omega, by omega⟩
      have l1 : decide ((c.size : Int) + (d.size : Int) < 190) = true := decide_eq_true (by omega)
      have vv : (v != v) = false := by cases v <;> rfl
      clear hv q2 okS trS hd hY hl
      refine (i_MiddleCondition c d m _).mono ?_
      rw [QM.out]
      rintro e wf ⟨rfl, hbf⟩
      have hcf := bel_on' hce hbf
      clear hbf hce
      go_wp2_with fail
      refine (i_IsCorrect n (((⟨#[59]⟩ : ByteArray) ++ c) ++ d) m _).mono ?_
      rw [HV.out]
      rintro e wf2 ⟨rfl, hbf2⟩
      have hcf2 := bel_on' hcf hbf2
      clear hbf2 hcf
      go_wp2_with fail
      refine (i_IsCorrect n c Y _).mono ?_
      rw [QV.out]
      rintro e wf3 ⟨rfl, hbf3⟩
      have hcf3 := bel_on' hcf2 hbf3
      clear hbf3 hcf2
      go_wp2_with fail
      refine (i_MiddleCondition d u k _).mono ?_
      rw [HZ.out]
      rintro e wg ⟨rfl, hbg⟩
      have hcg := bel_on' hcf3 hbg
      clear hbg hcf3
      go_wp2_with fail
      refine (s_MiddleCondition d u k _).mono ?_
      rw [HZ.out]
      rintro e wh ⟨rfl, hbh⟩
      have hch := bel_on' hcg hbh
      clear hbh hcg
      go_wp2_with fail
      by_cases hi : imp n X
      · have hbt : b = true := HBX.out.trans (decide_eq_true hi)
        subst hbt
        have HI := Lib.hid hi; clear hi
        refine (i_NeedsBefore c m _).mono ?_
        rw [QN.out]
        rintro e wi ⟨rfl, hbi⟩
        have hci := bel_on' hch hbi
        clear hbi hch
        go_wp2_with fail
        refine (i_ImpliesN _ _ _ hn hX16).mono ?_
        rw [decide_eq_true HI.out]
        rintro e w' ⟨rfl, rfl⟩
        go_wp2_with fail
        refine (i_NeedsBefore c m _).mono ?_
        rw [QN.out]
        rintro e wj ⟨rfl, hbj⟩
        have hcj := bel_on' hci hbj
        clear hbj hci
        go_wp2_with fail
        refine (i_IsCorrect X c m _).mono ?_
        rw [QX.out]
        rintro e wk ⟨rfl, hbk⟩
        have hck := bel_on' hcj hbk
        clear hbk hcj
        go_wp2_with fail
        go_ret
        exact ⟨rfl, hck⟩
      · have hbt : b = false := HBX.out.trans (decide_eq_false hi)
        subst hbt
        have HI := Lib.hid hi; clear hi
        refine (i_NeedsBefore c m _).mono ?_
        rw [QN.out]
        rintro e wi ⟨rfl, hbi⟩
        have hci := bel_on' hch hbi
        clear hbi hch
        go_wp2_with fail
        refine (i_ImpliesN _ _ _ hn hX16).mono ?_
        rw [decide_eq_false HI.out]
        rintro e w' ⟨rfl, rfl⟩
        go_wp2_with fail
        refine (i_NeedsBefore c m _).mono ?_
        rw [QN.out]
        rintro e wj ⟨rfl, hbj⟩
        have hcj := bel_on' hci hbj
        clear hbj hci
        go_wp2_with fail
        refine (i_IsCorrect X c m _).mono ?_
        rw [QX.out]
        rintro e wk ⟨rfl, hbk⟩
        have hck := bel_on' hcj hbk
        clear hbk hcj
        go_wp2_with fail
        go_ret
        exact ⟨rfl, hck⟩
    · have e1 : IntKind.i64.wrap ((c.size : Int) + (d.size : Int)) = (c.size : Int) + (d.size : Int) := IntWalk.i64_in _ ⟨by omega, by omega⟩
      have l1 : decide ((c.size : Int) + (d.size : Int) < 190) = false := decide_eq_false (by omega)
      clear hd hY hl
      refine (i_MiddleCondition c d m _).mono ?_
      rw [QM.out]
      rintro e wf ⟨rfl, hbf⟩
      have hcf := bel_on' hce hbf
      clear hbf hce
      go_wp2_with fail
      refine (i_MiddleCondition d u k _).mono ?_
      rw [HZ.out]
      rintro e wg ⟨rfl, hbg⟩
      have hcg := bel_on' hcf hbg
      clear hbg hcf
      go_wp2_with fail
      refine (s_MiddleCondition d u k _).mono ?_
      rw [HZ.out]
      rintro e wh ⟨rfl, hbh⟩
      have hch := bel_on' hcg hbh
      clear hbh hcg
      go_wp2_with fail
      by_cases hi : imp n X
      · have hbt : b = true := HBX.out.trans (decide_eq_true hi)
        subst hbt
        have HI := Lib.hid hi; clear hi
        refine (i_NeedsBefore c m _).mono ?_
        rw [QN.out]
        rintro e wi ⟨rfl, hbi⟩
        have hci := bel_on' hch hbi
        clear hbi hch
        go_wp2_with fail
        refine (i_ImpliesN _ _ _ hn hX16).mono ?_
        rw [decide_eq_true HI.out]
        rintro e w' ⟨rfl, rfl⟩
        go_wp2_with fail
        refine (i_NeedsBefore c m _).mono ?_
        rw [QN.out]
        rintro e wj ⟨rfl, hbj⟩
        have hcj := bel_on' hci hbj
        clear hbj hci
        go_wp2_with fail
        refine (i_IsCorrect X c m _).mono ?_
        rw [QX.out]
        rintro e wk ⟨rfl, hbk⟩
        have hck := bel_on' hcj hbk
        clear hbk hcj
        go_wp2_with fail
        go_ret
        exact ⟨rfl, hck⟩
      · have hbt : b = false := HBX.out.trans (decide_eq_false hi)
        subst hbt
        have HI := Lib.hid hi; clear hi
        refine (i_NeedsBefore c m _).mono ?_
        rw [QN.out]
        rintro e wi ⟨rfl, hbi⟩
        have hci := bel_on' hch hbi
        clear hbi hch
        go_wp2_with fail
        refine (i_ImpliesN _ _ _ hn hX16).mono ?_
        rw [decide_eq_false HI.out]
        rintro e w' ⟨rfl, rfl⟩
        go_wp2_with fail
        refine (i_NeedsBefore c m _).mono ?_
        rw [QN.out]
        rintro e wj ⟨rfl, hbj⟩
        have hcj := bel_on' hci hbj
        clear hbj hci
        go_wp2_with fail
        refine (i_IsCorrect X c m _).mono ?_
        rw [QX.out]
        rintro e wk ⟨rfl, hbk⟩
        have hck := bel_on' hcj hbk
        clear hbk hcj
        go_wp2_with fail
        go_ret
        exact ⟨rfl, hck⟩
theorem own : ownKnob Try.prog.godebug = none := by kernel_rfl
theorem laidOut : laidOutB Try.prog = true := by kernel_rfl
set_option maxRecDepth 100000 in
theorem lifted (os : Os) (started : os.Started) (H : Type) (enc : TypeId × Value → H) :
    ReturnsInHanded {} Try.checked os 13 .any (Rows.fnIsCorrectSpec.pre6 enc Try.prog Try.f13 Rows.fnIsCorrectRow.domain false) (Rows.fnIsCorrectSpec.post enc Try.prog Try.f13 false true false false) := by
  refine returnsInHanded_of_change (C := Try.checked) own started (by kernel_rfl) Try.func13
    (ChangeSpec.witness6 (enc := enc) (C := Try.checked) false ⟨#[], #[.slice none 0 0, .slice none 0 0], []⟩ 8 (by kernel_rfl) (by kernel_rfl) (by kernel_rfl) (by kernel_rfl)) ?_
  intro W base args ds gs before hval0 hW hcnd _
  have hval : ∀ (j : Nat) t v, Try.f13.params[j]? = some t → args[j]? = some v → Value.okWide Try.prog W .any base t v := hval0
  have hW' := hW
  obtain ⟨p, q, hA0, hV, rfl, hfz, hnd⟩ := hW
  have hA : DataW.TrodAll enc Try.prog W 0 (fun _ => true) true Try.f13.params.toList args.toList ds p := hA0
  rw [Try.params13] at hA hval
  obtain ⟨v0, vs0, d0, ds0, p0, q0, hargs, rfl, rfl, h0, r0⟩ := trodAll_cons hA
  obtain ⟨v1, vs1, d1, ds1, p1, q1, rfl, rfl, rfl, h1, r1⟩ := trodAll_cons r0
  obtain ⟨rfl, rfl, rfl⟩ := trodAll_nil r1
  obtain rfl : args = #[v0, v1] := by cases args; simp_all
  obtain ⟨rfl, rfl⟩ := trodVars_none hV
  obtain ⟨a0, len0, cap0, rfl⟩ := okWide_slice Try.underlying22 (hval 0 22 v0 rfl rfl)
  have k0 := h0
  have lt0 : ∀ x ∈ p0, x.block < W.heap.size := by obtain ⟨m, hm⟩ := k0; exact DataW.trod_lt m _ _ _ hm
  obtain ⟨z0, w0⟩ : ∃ zs, IsRow .u8 W a0 len0 cap0 zs := by
    obtain ⟨fuel, hf⟩ := h0
    rcases open_ints Try.underlying22 Try.underlying5 (by kernel_rfl) hf with ⟨hcs, _⟩ | ⟨x, l, c, zs, hcs, _, hl, hm, hz, _, hcell, hwz⟩
    · simp [Value.cells] at hcs
      obtain ⟨rfl, rfl, rfl⟩ := hcs
      exact ⟨[], .inl ⟨rfl, rfl, rfl, rfl⟩⟩
    · simp [Value.cells] at hcs
      obtain ⟨rfl, rfl, rfl⟩ := hcs
      exact ⟨zs, .inr ⟨_, rfl, hl, hm, by simpa using hz, hcell, hwz⟩⟩
  obtain ⟨a1, len1, cap1, rfl⟩ := okWide_slice Try.underlying22 (hval 1 22 v1 rfl rfl)
  have k1 := h1
  have lt1 : ∀ x ∈ p1, x.block < W.heap.size := by obtain ⟨m, hm⟩ := k1; exact DataW.trod_lt m _ _ _ hm
  obtain ⟨z1, w1⟩ : ∃ zs, IsRow .u8 W a1 len1 cap1 zs := by
    obtain ⟨fuel, hf⟩ := h1
    rcases open_ints Try.underlying22 Try.underlying5 (by kernel_rfl) hf with ⟨hcs, _⟩ | ⟨x, l, c, zs, hcs, _, hl, hm, hz, _, hcell, hwz⟩
    · simp [Value.cells] at hcs
      obtain ⟨rfl, rfl, rfl⟩ := hcs
      exact ⟨[], .inl ⟨rfl, rfl, rfl, rfl⟩⟩
    · simp [Value.cells] at hcs
      obtain ⟨rfl, rfl, rfl⟩ := hcs
      exact ⟨zs, .inr ⟨_, rfl, hl, hm, by simpa using hz, hcell, hwz⟩⟩
  clear hA0 hval0
  refine (law_FnIsCorrect a0 len0 cap0 z0 a1 len1 cap1 z1 W w0 w1).mono fun e W' ⟨he, bel⟩ => ?_
  subst he
  exact ⟨_, rfl, _, _, _, [], _, [], hW', trodAll_mk1 (shut_bool Try.underlying4 _), (trodAll_cons_mk (Below.trod laidOut (by kernel_rfl) (of_decide_eq_true (by kernel_rfl)) k0 bel lt0) (trodAll_cons_mk (Below.trod laidOut (by kernel_rfl) (of_decide_eq_true (by kernel_rfl)) k1 bel lt1) trodAll_mk0)), rfl, bel.frame _, fun h => by cases h⟩
theorem over : Rows.fnIsCorrectRow.holds Try.pinned (OpenSpec.ofChange Rows.fnIsCorrectSpec) :=
  OpenClaim.holds_of_wide 13 Try.f13 rfl rfl rfl rfl rfl rfl rfl ⟨rfl, rfl, rfl, rfl, rfl⟩ rfl rfl rfl rfl rfl (by kernel_rfl) Try.func13 (by kernel_rfl)
    (of_decide_eq_true (by kernel_rfl)) (by unfold Func.isWrapper; rw [if_neg (of_decide_eq_false (by kernel_rfl))]; exact ⟨rfl, rfl⟩)
    (fun os started H enc _ => lifted os started H enc)
/-- The statement. -/
theorem proved : Rows.FnIsCorrectSaid := over
end Go.Proofs.Ytiaeakpgldpaiaa.fnIsCorrect
