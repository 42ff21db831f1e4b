/- A loop split by a second condition is the loop, and such a part may precede it: no condition. -/
import Derived.Test.YtmhiphcnclkhhaaRows
import Derived.WalkKit
import Derived.ProofKit
import Derived.OpenShut
import Derived.ShutString
import Derived.ChangeOld
import Derived.Below
import Derived.Test.YtmhiphcnclkhhaaSpecF
import Derived.Test.YtmhiphcnclkhhaaImplK
import Derived.Test.YtmhiphcnclkhhaaImplJ
import Derived.Test.YtmhiphcnclkhhaaDrawF
import Derived.Test.YtmhiphcnclkhhaaPlainC
namespace Go.Proofs.Ytmhiphcnclkhhaa.fnSplit
set_option linter.unusedSimpArgs false
set_option linter.unusedVariables false
set_option maxRecDepth 4000
open Go.ChangeShapes Go.WideShapes Go.ChangeAt Go.RowKit
open Go.ChangeMaps (open_string shut_string)
set_option linter.unusedVariables false
set_option maxHeartbeats 2000000 in
theorem law_FnSplit (a0 : Option Addr) (len0 cap0 : Nat) (z0 : List Int) (w : World) (w0 : IsRow .u8 w a0 len0 cap0 z0) :
    Calls Try.prog 12 #[.slice a0 len0 cap0] w fun e w' => e = .returned (.bool true) ∧ Below w.heap.size w w' := by
  have hin := ByteIn.of_row w0
  by_cases h0 : len0 ≤ 1048576
  rotate_left
  · go_enter Try.func12, Try.ntmps12
    go_wp2_with fail
    go_ret
    exact ⟨rfl, Below.refl _ _⟩
  go_enter Try.func12, Try.ntmps12
  go_wp2_with fail
  refine (s_DrawSplitWhile a0 len0 cap0 _ hin).mono ?_
  rintro e wa ⟨⟨p, q, t, ht, rfl⟩, hca⟩
  have hts : t.size ≤ 1048576 := Nat.le_trans ht (by omega)
  clear hin w0 ht
  go_wp2_with fail
  cases hok : ((trOk t && cvB p) && cvB q)
  · have HOK := Lib.hid hok; clear hok
    refine (i_SplitWhile p q t _).mono ?_
    rw [HOK.out]
    rintro e wb ⟨rfl, hbb⟩
    have hcb := bel_on' hca hbb
    clear hbb hca
    go_wp2_with fail
    refine (s_SplitWhile p q t _ hts).mono ?_
    rw [HOK.out]
    rintro e w' ⟨rfl, rfl⟩
    go_wp2_with fail
    go_ret
    exact ⟨rfl, hcb⟩
  · have hall := hok
    simp only [Bool.and_eq_true] at hok
    obtain ⟨⟨hok, hcp⟩, hcq⟩ := hok
    obtain ⟨n, hn, rfl⟩ := (cvB_iff p).1 hcp
    obtain ⟨m, hm2, rfl⟩ := (cvB_iff q).1 hcq
    have hm := dig_mono hok
    have hb := dig_bd t
    have hnm : n &&& m < 16 := and_lt hn
    obtain ⟨U, hU⟩ : ∃ U, U = txt 16 (fWhile n (dig t)) := ⟨_, rfl⟩
    obtain ⟨V, hV⟩ : ∃ V, V = txt 16 (fWhile (n &&& m) (dig t)) := ⟨_, rfl⟩
    have q1 : (#[Value.string (optS ((trOk t && cvB (n : Int)) && cvB (m : Int)) (txt 16 (fSplit (n : Int).toNat (m : Int).toNat (dig t)))), .bool ((trOk t && cvB (n : Int)) && cvB (m : Int))] : Array Value) = #[.string U, .bool true] := by
      rw [hall, hU]
      show #[Value.string (txt 16 (fSplit n m (dig t))), Value.bool true] = _
      rw [txt_congr (G := fWhile n (dig t)) fun a ha => while_split hb hm hn ha]
    have q2 : (#[Value.string (optS (trOk t && cvB (n : Int)) (txt 16 (fWhile (n : Int).toNat (dig t)))), .bool (trOk t && cvB (n : Int))] : Array Value) = #[.string U, .bool true] := by
      rw [hok, hcp, hU]; rfl
    have q3 : (#[Value.string (optS (trOk t && cvB ((n &&& m : Nat) : Int)) (txt 16 (fWhile ((n &&& m : Nat) : Int).toNat (dig t)))), .bool (trOk t && cvB ((n &&& m : Nat) : Int))] : Array Value) = #[.string V, .bool true] := by
      rw [hok, cvB_nat _ hnm, hV]; rfl
    have u1 : trOk U = true := by rw [hU]; exact trOk_txt (fWhile_bd hn) (fWhile_mono hn hm)
    have v1 : trOk V = true := by rw [hV]; exact trOk_txt (fWhile_bd hnm) (fWhile_mono hnm hm)
    have q4 : txt 16 (fun p => dig V (dig U p)) = U := by
      rw [hU, hV, then_txt (fWhile_bd hnm) (fWhile_bd hn)]
      exact txt_congr fun a ha => while_part hb hm hn ha
    have Q1 := Lib.hid q1; have Q2 := Lib.hid q2; have Q3 := Lib.hid q3; have Q4 := Lib.hid q4; have U1 := Lib.hid u1; have V1 := Lib.hid v1
    clear q1 q2 q3 q4 u1 v1 hm hb hU hV hok hcp hcq hall
    refine (i_SplitWhile n m t _).mono ?_
    rw [Q1.out]
    rintro e wb ⟨rfl, hbb⟩
    have hcb := bel_on' hca hbb
    clear hbb hca
    go_wp2_with fail
    refine (s_SplitWhile n m t _ hts).mono ?_
    rw [Q1.out]
    rintro e w' ⟨rfl, rfl⟩
    go_wp2_with fail
    refine (i_WhileTrans n t _).mono ?_
    rw [Q2.out]
    rintro e wc ⟨rfl, hbc⟩
    have hcc := bel_on' hcb hbc
    clear hbc hcb
    go_wp2_with fail
    refine (l_dcAnd n m _ hn hm2).mono ?_
    rintro e w' ⟨rfl, rfl⟩
    go_wp2_with fail
    refine (i_WhileTrans ((n &&& m : Nat) : Int) t _).mono ?_
    rw [Q3.out]
    rintro e wd ⟨rfl, hbd⟩
    have hcd := bel_on' hcc hbd
    clear hbd hcc
    go_wp2_with fail
    refine (l_dcThen V U _ V1.out U1.out).mono ?_
    rw [Q4.out]
    rintro e we ⟨rfl, hbe⟩
    have hce := bel_on' hcd hbe
    clear hbe hcd
    go_wp2_with fail
    go_ret
    exact ⟨rfl, hce⟩
theorem own : ownKnob Try.prog.godebug = none := by kernel_rfl
theorem laidOut : laidOutB Try.prog = true := by kernel_rfl
set_option maxRecDepth 100000 in
theorem lifted (os : Os) (started : os.Started) (H : Type) (enc : TypeId × Value → H) :
    ReturnsInHanded {} Try.checked os 12 .any (Rows.fnSplitSpec.pre6 enc Try.prog Try.f12 Rows.fnSplitRow.domain false) (Rows.fnSplitSpec.post enc Try.prog Try.f12 false true false false) := by
  refine returnsInHanded_of_change (C := Try.checked) own started (by kernel_rfl) Try.func12
    (ChangeSpec.witness6 (enc := enc) (C := Try.checked) false ⟨#[], #[.slice none 0 0], []⟩ 8 (by kernel_rfl) (by kernel_rfl) (by kernel_rfl) (by kernel_rfl)) ?_
  intro W base args ds gs before hval0 hW hcnd _
  have hval : ∀ (j : Nat) t v, Try.f12.params[j]? = some t → args[j]? = some v → Value.okWide Try.prog W .any base t v := hval0
  have hW' := hW
  obtain ⟨p, q, hA0, hV, rfl, hfz, hnd⟩ := hW
  have hA : DataW.TrodAll enc Try.prog W 0 (fun _ => true) true Try.f12.params.toList args.toList ds p := hA0
  rw [Try.params12] at hA hval
  obtain ⟨v0, vs0, d0, ds0, p0, q0, hargs, rfl, rfl, h0, r0⟩ := trodAll_cons hA
  obtain ⟨rfl, rfl, rfl⟩ := trodAll_nil r0
  obtain rfl : args = #[v0] := by cases args; simp_all
  obtain ⟨rfl, rfl⟩ := trodVars_none hV
  obtain ⟨a0, len0, cap0, rfl⟩ := okWide_slice Try.underlying34 (hval 0 34 v0 rfl rfl)
  have k0 := h0
  have lt0 : ∀ x ∈ p0, x.block < W.heap.size := by obtain ⟨m, hm⟩ := k0; exact DataW.trod_lt m _ _ _ hm
  obtain ⟨z0, w0⟩ : ∃ zs, IsRow .u8 W a0 len0 cap0 zs := by
    obtain ⟨fuel, hf⟩ := h0
    rcases open_ints Try.underlying34 Try.underlying5 (by kernel_rfl) hf with ⟨hcs, _⟩ | ⟨x, l, c, zs, hcs, _, hl, hm, hz, _, hcell, hwz⟩
    · simp [Value.cells] at hcs
      obtain ⟨rfl, rfl, rfl⟩ := hcs
      exact ⟨[], .inl ⟨rfl, rfl, rfl, rfl⟩⟩
    · simp [Value.cells] at hcs
      obtain ⟨rfl, rfl, rfl⟩ := hcs
      exact ⟨zs, .inr ⟨_, rfl, hl, hm, by simpa using hz, hcell, hwz⟩⟩
  clear hA0 hval0
  refine (law_FnSplit a0 len0 cap0 z0 W w0).mono fun e W' ⟨he, bel⟩ => ?_
  subst he
  exact ⟨_, rfl, _, _, _, [], _, [], hW', trodAll_mk1 (shut_bool Try.underlying4 _), (trodAll_cons_mk (Below.trod laidOut (by kernel_rfl) (of_decide_eq_true (by kernel_rfl)) k0 bel lt0) trodAll_mk0), rfl, bel.frame _, fun h => by cases h⟩
theorem over : Rows.fnSplitRow.holds Try.pinned (OpenSpec.ofChange Rows.fnSplitSpec) :=
  OpenClaim.holds_of_wide 12 Try.f12 rfl rfl rfl rfl rfl rfl rfl ⟨rfl, rfl, rfl, rfl, rfl⟩ rfl rfl rfl rfl rfl (by kernel_rfl) Try.func12 (by kernel_rfl)
    (of_decide_eq_true (by kernel_rfl)) (by unfold Func.isWrapper; rw [if_neg (of_decide_eq_false (by kernel_rfl))]; exact ⟨rfl, rfl⟩)
    (fun os started H enc _ => lifted os started H enc)
/-- The statement. -/
theorem proved : Rows.FnSplitSaid := over
end Go.Proofs.Ytmhiphcnclkhhaa.fnSplit
