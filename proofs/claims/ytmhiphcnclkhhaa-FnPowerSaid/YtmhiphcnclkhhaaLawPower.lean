/- Powers are added, in either order, and go through the dual: no condition. -/
import Derived.Test.YtmhiphcnclkhhaaRows
import Derived.WalkKit
import Derived.ProofKit
import Derived.OpenShut
import Derived.ShutString
import Derived.ChangeOld
import Derived.Below
import Derived.Test.YtmhiphcnclkhhaaSpecD
import Derived.Test.YtmhiphcnclkhhaaImplH
import Derived.Test.YtmhiphcnclkhhaaDrawF
import Derived.Test.YtmhiphcnclkhhaaPlainC
import Derived.Test.YtmhiphcnclkhhaaApp2
namespace Go.Proofs.Ytmhiphcnclkhhaa.fnPower
set_option linter.unusedSimpArgs false
set_option linter.unusedVariables false
set_option maxRecDepth 4000
open Go.ChangeShapes Go.WideShapes Go.ChangeAt Go.RowKit
open Go.ChangeMaps (open_string shut_string)
set_option linter.unusedVariables false
set_option maxHeartbeats 2000000 in
theorem law_FnPower (a0 : Option Addr) (len0 cap0 : Nat) (z0 : List Int) (a1 : Option Addr) (len1 cap1 : Nat) (z1 : List Int) (w : World) (w0 : IsRow .u8 w a0 len0 cap0 z0) (w1 : IsRow .u8 w a1 len1 cap1 z1) :
    Calls Try.prog 7 #[.slice a0 len0 cap0, .slice a1 len1 cap1] w fun e w' => e = .returned (.bool true) ∧ Below w.heap.size w w' := by
  have hin := ByteIn.of_row w0
  by_cases h0 : len0 ≤ 1048576
  rotate_left
  · go_enter Try.func7, Try.ntmps7
    go_wp2_with fail
    go_ret
    exact ⟨rfl, Below.refl _ _⟩
  by_cases h1 : len1 ≤ 1048576
  rotate_left
  · go_enter Try.func7, Try.ntmps7
    go_wp2_with fail
    go_ret
    exact ⟨rfl, Below.refl _ _⟩
  obtain ⟨K, hK⟩ : ∃ K, K = len1 % 5 := ⟨_, rfl⟩
  have hkm : (len1 : Int) % 5 = (K : Int) := by rw [hK]; simp
  have hK5 : K < 5 := by omega
  clear hK
  go_enter Try.func7, Try.ntmps7
  go_wp2_with fail
  refine (s_DrawPowerTrans a0 len0 cap0 _ hin).mono ?_
  rintro e wa ⟨⟨t, n, ht, rfl⟩, hca⟩
  have hts : t.size ≤ 1048576 := Nat.le_trans ht (by omega)
  clear hin w0 w1 ht
  go_wp2_with fail
  cases hok : (trOk t && nB n)
  · have HOK := Lib.hid hok; clear hok
    refine (i_PowerTrans t n _).mono ?_
    rw [HOK.out]
    rintro e wb ⟨rfl, hbb⟩
    have hcb := bel_on' hca hbb
    clear hbb hca
    go_wp2_with fail
    refine (s_PowerTrans t n _ hts).mono ?_
    rw [HOK.out]
    rintro e w' ⟨rfl, rfl⟩
    go_wp2_with fail
    go_ret
    exact ⟨rfl, hcb⟩
  · have hall := hok
    simp only [Bool.and_eq_true] at hok
    obtain ⟨hot, hn⟩ := hok
    obtain ⟨N, hN, rfl⟩ := (nB_iff n).1 hn
    have mt := dig_mono hot
    have bt := dig_bd t
    have nK : nB (K : Int) = true := (nB_iff _).2 ⟨K, by omega, rfl⟩
    have n1 : nB (1 : Int) = true := rfl
    obtain ⟨U, hU⟩ : ∃ U, U = txt 16 (fPower (dig t) N) := ⟨_, rfl⟩
    obtain ⟨V, hV⟩ : ∃ V, V = txt 16 (fPower (dig t) K) := ⟨_, rfl⟩
    obtain ⟨B, hB⟩ : ∃ B, B = txt 16 (fPower (dig t) (N + K)) := ⟨_, rfl⟩
    obtain ⟨E, hE⟩ : ∃ E, E = txt 16 (fDual (dig t)) := ⟨_, rfl⟩
    obtain ⟨D, hD⟩ : ∃ D, D = txt 16 (fDual (fPower (dig t) N)) := ⟨_, rfl⟩
    have oU : trOk U = true := by rw [hU]; exact trOk_txt (fPower_lt bt N) (fPower_mono bt mt N)
    have oV : trOk V = true := by rw [hV]; exact trOk_txt (fPower_lt bt K) (fPower_mono bt mt K)
    have oE : trOk E = true := by rw [hE]; exact fDual_ok hot
    have q1 : (#[Value.string (optS (trOk t && nB (N : Int)) (txt 16 (fPower (dig t) (N : Int).toNat))), .bool (trOk t && nB (N : Int))] : Array Value) = #[.string U, .bool true] := by rw [hall, hU]; rfl
    have q2 : (#[Value.string (optS (trOk t && nB (K : Int)) (txt 16 (fPower (dig t) (K : Int).toNat))), .bool (trOk t && nB (K : Int))] : Array Value) = #[.string V, .bool true] := by rw [hot, nK, hV]; rfl
    have q3 : (#[Value.string (optS (trOk t && nB 1) (txt 16 (fPower (dig t) (1 : Int).toNat))), .bool (trOk t && nB 1)] : Array Value) = #[.string t, .bool true] := by
      rw [hot, n1]
      show #[Value.string (txt 16 (dig t)), Value.bool true] = _
      rw [txt_tr hot]
    have q4 : txt 16 (fun p => dig U (dig V p)) = B := by
      rw [hU, hV, hB, then_txt (fPower_lt bt N) (fPower_lt bt K)]
      exact txt_congr fun p hp => by show iter _ (iter _ p K) N = iter _ p (N + K); rw [iter_more, Nat.add_comm]
    have q5 : txt 16 (fun p => dig V (dig U p)) = B := by
      rw [hU, hV, hB, then_txt (fPower_lt bt K) (fPower_lt bt N)]
      exact txt_congr fun p hp => by show iter _ (iter _ p N) K = iter _ p (N + K); rw [iter_more]
    have q6 : txt 16 (fDual (dig U)) = D := by rw [hU, hD, dual_txt (fPower_lt bt N)]
    have q7 : optS (trOk E && nB (N : Int)) (txt 16 (fPower (dig E) (N : Int).toNat)) = D := by
      rw [oE, hn, hE, hD]
      show txt 16 (fPower (dig (txt 16 (fDual (dig t)))) N) = _
      exact txt_congr fun p hp => by rw [fPower_congr (dig_bd _) (fun p hp => dig_txt (fDual_bd _) p hp) N p hp, power_dual bt N p hp]
    have q8 : nB ((N : Int) + (K : Int)) = true → (#[Value.string (optS (trOk t && nB ((N : Int) + (K : Int))) (txt 16 (fPower (dig t) ((N : Int) + (K : Int)).toNat))), .bool (trOk t && nB ((N : Int) + (K : Int)))] : Array Value) = #[.string B, .bool true] := fun h => by
      rw [hot, h, hB]; rfl
    have q9 : nB ((N : Int) + (K : Int)) = false → (#[Value.string (optS (trOk t && nB ((N : Int) + (K : Int))) (txt 16 (fPower (dig t) ((N : Int) + (K : Int)).toNat))), .bool (trOk t && nB ((N : Int) + (K : Int)))] : Array Value) = #[.string ⟨#[]⟩, .bool false] := fun h => by
      rw [hot, h]; rfl
    have Q1 := Lib.hid q1; have Q2 := Lib.hid q2; have Q3 := Lib.hid q3; have Q4 := Lib.hid q4; have Q5 := Lib.hid q5; have Q6 := Lib.hid q6; have Q7 := Lib.hid q7; have Q8 := Lib.hid q8; have Q9 := Lib.hid q9; have OT := Lib.hid hot; have OU := Lib.hid oU; have OV := Lib.hid oV; have HE := Lib.hid hE
    clear q1 q2 q3 q4 q5 q6 q7 q8 q9 hot hn mt bt nK n1 hU hV hB hE hD oU oV oE hall
    refine (i_PowerTrans t N _).mono ?_
    rw [Q1.out]
    rintro e wb ⟨rfl, hbb⟩
    have hcb := bel_on' hca hbb
    clear hbb hca
    go_wp2_with fail
    refine (s_PowerTrans t N _ hts).mono ?_
    rw [Q1.out]
    rintro e w' ⟨rfl, rfl⟩
    go_wp2_with fail
    refine (i_PowerTrans t K _).mono ?_
    rw [Q2.out]
    rintro e wc ⟨rfl, hbc⟩
    have hcc := bel_on' hcb hbc
    clear hbc hcb
    go_wp2_with fail
    cases hf : nB ((N : Int) + (K : Int))
    · have HF := Lib.hid hf; clear hf
      refine (i_PowerTrans t ((N : Int) + (K : Int)) _).mono ?_
      rw [Q9.out HF.out]
      rintro e wd ⟨rfl, hbd⟩
      have hcd := bel_on' hcc hbd
      clear hbd hcc
      go_wp2_with fail
      refine (i_PowerTrans t 1 _).mono ?_
      rw [Q3.out]
      rintro e we ⟨rfl, hbe⟩
      have hce := bel_on' hcd hbe
      clear hbe hcd
      go_wp2_with fail
      refine (l_dcDual U _ OU.out).mono ?_
      rw [Q6.out]
      rintro e wf ⟨rfl, hbf⟩
      have hcf := bel_on' hce hbf
      clear hbf hce
      go_wp2_with fail
      refine (l_dcDual t _ OT.out).mono ?_
      rw [← HE.out]
      rintro e wg ⟨rfl, hbg⟩
      have hcg := bel_on' hcf hbg
      clear hbg hcf
      go_wp2_with fail
      refine (l_dcPower E N _).mono ?_
      rw [Q7.out]
      rintro e wh ⟨rfl, hbh⟩
      have hch := bel_on' hcg hbh
      clear hbh hcg
      go_wp2_with fail
      go_ret
      exact ⟨rfl, hch⟩
    · have HF := Lib.hid hf; clear hf
      refine (i_PowerTrans t ((N : Int) + (K : Int)) _).mono ?_
      rw [Q8.out HF.out]
      rintro e wd ⟨rfl, hbd⟩
      have hcd := bel_on' hcc hbd
      clear hbd hcc
      go_wp2_with fail
      refine (i_PowerTrans t 1 _).mono ?_
      rw [Q3.out]
      rintro e we ⟨rfl, hbe⟩
      have hce := bel_on' hcd hbe
      clear hbe hcd
      go_wp2_with fail
      refine (l_dcThen U V _ OU.out OV.out).mono ?_
      rw [Q4.out]
      rintro e wi ⟨rfl, hbi⟩
      have hci := bel_on' hce hbi
      clear hbi hce
      go_wp2_with fail
      refine (l_dcThen V U _ OV.out OU.out).mono ?_
      rw [Q5.out]
      rintro e wj ⟨rfl, hbj⟩
      have hcj := bel_on' hci hbj
      clear hbj hci
      go_wp2_with fail
      refine (l_dcDual U _ OU.out).mono ?_
      rw [Q6.out]
      rintro e wf ⟨rfl, hbf⟩
      have hcf := bel_on' hcj hbf
      clear hbf hcj
      go_wp2_with fail
      refine (l_dcDual t _ OT.out).mono ?_
      rw [← HE.out]
      rintro e wg ⟨rfl, hbg⟩
      have hcg := bel_on' hcf hbg
      clear hbg hcf
      go_wp2_with fail
      refine (l_dcPower E N _).mono ?_
      rw [Q7.out]
      rintro e wh ⟨rfl, hbh⟩
      have hch := bel_on' hcg hbh
      clear hbh hcg
      go_wp2_with fail
      go_ret
      exact ⟨rfl, hch⟩
theorem own : ownKnob Try.prog.godebug = none := by kernel_rfl
theorem laidOut : laidOutB Try.prog = true := by kernel_rfl
set_option maxRecDepth 100000 in
theorem lifted (os : Os) (started : os.Started) (H : Type) (enc : TypeId × Value → H) :
    ReturnsInHanded {} Try.checked os 7 .any (Rows.fnPowerSpec.pre6 enc Try.prog Try.f7 Rows.fnPowerRow.domain false) (Rows.fnPowerSpec.post enc Try.prog Try.f7 false true false false) := by
  refine returnsInHanded_of_change (C := Try.checked) own started (by kernel_rfl) Try.func7
    (ChangeSpec.witness6 (enc := enc) (C := Try.checked) false ⟨#[], #[.slice none 0 0, .slice none 0 0], []⟩ 8 (by kernel_rfl) (by kernel_rfl) (by kernel_rfl) (by kernel_rfl)) ?_
  intro W base args ds gs before hval0 hW hcnd _
  have hval : ∀ (j : Nat) t v, Try.f7.params[j]? = some t → args[j]? = some v → Value.okWide Try.prog W .any base t v := hval0
  have hW' := hW
  obtain ⟨p, q, hA0, hV, rfl, hfz, hnd⟩ := hW
  have hA : DataW.TrodAll enc Try.prog W 0 (fun _ => true) true Try.f7.params.toList args.toList ds p := hA0
  rw [Try.params7] at hA hval
  obtain ⟨v0, vs0, d0, ds0, p0, q0, hargs, rfl, rfl, h0, r0⟩ := trodAll_cons hA
  obtain ⟨v1, vs1, d1, ds1, p1, q1, rfl, rfl, rfl, h1, r1⟩ := trodAll_cons r0
  obtain ⟨rfl, rfl, rfl⟩ := trodAll_nil r1
  obtain rfl : args = #[v0, v1] := by cases args; simp_all
  obtain ⟨rfl, rfl⟩ := trodVars_none hV
  obtain ⟨a0, len0, cap0, rfl⟩ := okWide_slice Try.underlying34 (hval 0 34 v0 rfl rfl)
  have k0 := h0
  have lt0 : ∀ x ∈ p0, x.block < W.heap.size := by obtain ⟨m, hm⟩ := k0; exact DataW.trod_lt m _ _ _ hm
  obtain ⟨z0, w0⟩ : ∃ zs, IsRow .u8 W a0 len0 cap0 zs := by
    obtain ⟨fuel, hf⟩ := h0
    rcases open_ints Try.underlying34 Try.underlying5 (by kernel_rfl) hf with ⟨hcs, _⟩ | ⟨x, l, c, zs, hcs, _, hl, hm, hz, _, hcell, hwz⟩
    · simp [Value.cells] at hcs
      obtain ⟨rfl, rfl, rfl⟩ := hcs
      exact ⟨[], .inl ⟨rfl, rfl, rfl, rfl⟩⟩
    · simp [Value.cells] at hcs
      obtain ⟨rfl, rfl, rfl⟩ := hcs
      exact ⟨zs, .inr ⟨_, rfl, hl, hm, by simpa using hz, hcell, hwz⟩⟩
  obtain ⟨a1, len1, cap1, rfl⟩ := okWide_slice Try.underlying34 (hval 1 34 v1 rfl rfl)
  have k1 := h1
  have lt1 : ∀ x ∈ p1, x.block < W.heap.size := by obtain ⟨m, hm⟩ := k1; exact DataW.trod_lt m _ _ _ hm
  obtain ⟨z1, w1⟩ : ∃ zs, IsRow .u8 W a1 len1 cap1 zs := by
    obtain ⟨fuel, hf⟩ := h1
    rcases open_ints Try.underlying34 Try.underlying5 (by kernel_rfl) hf with ⟨hcs, _⟩ | ⟨x, l, c, zs, hcs, _, hl, hm, hz, _, hcell, hwz⟩
    · simp [Value.cells] at hcs
      obtain ⟨rfl, rfl, rfl⟩ := hcs
      exact ⟨[], .inl ⟨rfl, rfl, rfl, rfl⟩⟩
    · simp [Value.cells] at hcs
      obtain ⟨rfl, rfl, rfl⟩ := hcs
      exact ⟨zs, .inr ⟨_, rfl, hl, hm, by simpa using hz, hcell, hwz⟩⟩
  clear hA0 hval0
  refine (law_FnPower a0 len0 cap0 z0 a1 len1 cap1 z1 W w0 w1).mono fun e W' ⟨he, bel⟩ => ?_
  subst he
  exact ⟨_, rfl, _, _, _, [], _, [], hW', trodAll_mk1 (shut_bool Try.underlying4 _), (trodAll_cons_mk (Below.trod laidOut (by kernel_rfl) (of_decide_eq_true (by kernel_rfl)) k0 bel lt0) (trodAll_cons_mk (Below.trod laidOut (by kernel_rfl) (of_decide_eq_true (by kernel_rfl)) k1 bel lt1) trodAll_mk0)), rfl, bel.frame _, fun h => by cases h⟩
theorem over : Rows.fnPowerRow.holds Try.pinned (OpenSpec.ofChange Rows.fnPowerSpec) :=
  OpenClaim.holds_of_wide 7 Try.f7 rfl rfl rfl rfl rfl rfl rfl ⟨rfl, rfl, rfl, rfl, rfl⟩ rfl rfl rfl rfl rfl (by kernel_rfl) Try.func7 (by kernel_rfl)
    (of_decide_eq_true (by kernel_rfl)) (by unfold Func.isWrapper; rw [if_neg (of_decide_eq_false (by kernel_rfl))]; exact ⟨rfl, rfl⟩)
    (fun os started H enc _ => lifted os started H enc)
/-- The statement. -/
theorem proved : Rows.FnPowerSaid := over
end Go.Proofs.Ytmhiphcnclkhhaa.fnPower
