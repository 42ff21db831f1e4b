/- The program's RanksOf returns what the reference's returns, for every input: no condition. -/
import Derived.Test.YtmhiphcnclkhhaaRows
import Derived.WalkKit
import Derived.ProofKit
import Derived.OpenShut
import Derived.ShutString
import Derived.ChangeOld
import Derived.Below
import Derived.Test.YtmhiphcnclkhhaaSpecR
import Derived.Test.YtmhiphcnclkhhaaImplRk
namespace Go.Proofs.Ytmhiphcnclkhhaa.fnExactRanksOf
set_option linter.unusedSimpArgs false
set_option linter.unusedVariables false
set_option maxRecDepth 4000
open Go.ChangeShapes Go.WideShapes Go.ChangeAt Go.RowKit
open Go.ChangeMaps (open_string shut_string)
set_option linter.unusedVariables false
set_option maxHeartbeats 1000000 in
theorem law_FnExactRanksOf (a0 : ByteArray) (a1 : Int) (w : World) (w0 : a0.size ≤ maxLen) (w1 : (Lit.int .i64 a1).wf = true) :
    Calls Try.prog 4 #[.string a0, .int .i64 a1] w fun e w' => e = .returned (.bool true) ∧ Below w.heap.size w w' := by
  by_cases h0 : a0.size ≤ 1048576
  rotate_left
  · go_enter Try.func4, Try.ntmps4
    go_wp2_with fail
    go_ret
    exact ⟨rfl, Below.refl _ _⟩
  obtain ⟨zs, hzs⟩ : ∃ zs, zs = rkList (trOk a0 && cvB a1) (dig a0) a1.toNat := ⟨_, rfl⟩
  obtain ⟨n, hn⟩ : ∃ n, zs.length = n := ⟨_, rfl⟩
  have hn4 : n ≤ 4 := by rw [← hn, hzs, rkList_len]; split <;> omega
  have hzl : zs.length ≤ 1048576 := by omega
  have hs := fun w => s_RanksOf a0 a1 w h0
  have hi := fun w => i_RanksOf a0 a1 w
  rw [← hzs] at hs
  rw [show (if trOk a0 && cvB a1 then zrow 4 (rank (dig a0) a1.toNat) else []) = zs from hzs.symm] at hi
  have HS := Lib.hid hs; have HI := Lib.hid hi; have HN := Lib.hid hn; clear hs hi hn hzs
  go_enter Try.func4, Try.ntmps4
  go_wp2_with fail
  refine (HS.out _).mono ?_
  rintro e wa ⟨v0, rfl, hi0, hb0⟩
  have HI0 : Hid (IntsAt w.heap.size wa v0 zs) := Lib.hid hi0; clear hi0
  go_wp2_with fail
  refine (HI.out _).mono ?_
  rintro e wb ⟨v1, rfl, hi1, hb1⟩
  have HI1 : Hid (IntsAt wa.heap.size wb v1 zs) := Lib.hid hi1; clear hi1
  go_wp2_with fail
  refine (l_eqIntS _ _ v1 v0 zs _ HI1.out (HI0.out.later hb1) hzl).mono ?_
  rintro e wc ⟨rfl, hbc⟩
  go_wp2_with fail
  refine (l_markIntS _ n v1 zs _ HN.out (HI1.out.later hbc) (by omega)).mono ?_
  rintro e wd ⟨rfl, hm1, g1, hg1, hgr⟩
  have HM1 : Hid (IntsAt wa.heap.size wd v1 (marks n)) := Lib.hid hm1
  have hk0 : IntsAt w.heap.size wd v0 zs := ((HI0.out.later hb1).later hbc).kept hgr (HI0.out.apart HI1.out hg1 (Nat.le_refl _))
  have HK0 := Lib.hid hk0
  have hbd : Below w.heap.size w wd := (bel_on' (bel_on' hb0 hb1) hbc).grown hgr (by have := hb0.size; have := hb1.size; have := hbc.size; omega) (fun k hk => by
    obtain ⟨g, h1, h2, _⟩ := HI1.out.block
    rw [hg1] at h1
    cases h1; cases hk
    have := hb0.size; omega)
  clear hm1 hk0 hg1 hgr hb0 hb1 hbc
  have b1 : (((n : Int) + 1) != ((n : Int) + 1)) = false := by simp
  go_wp2_with fail
  refine (l_heldIntS _ n v1 _ HM1.out (by omega)).mono ?_
  rintro e w' ⟨rfl, rfl⟩
  go_wp2_with fail
  refine (HI.out _).mono ?_
  rintro e we ⟨v2, rfl, hi2, hb2⟩
  have HI2 : Hid (IntsAt wd.heap.size we v2 zs) := Lib.hid hi2; clear hi2
  go_wp2_with fail
  refine (l_eqIntS _ _ v2 v0 zs _ HI2.out (HK0.out.later hb2) hzl).mono ?_
  rintro e wf ⟨rfl, hbf⟩
  go_wp2_with fail
  refine (l_heldIntS _ n v1 _ ((HM1.out.later hb2).later hbf) (by omega)).mono ?_
  rintro e w' ⟨rfl, rfl⟩
  go_wp2_with fail
  go_ret
  exact ⟨rfl, bel_on' (bel_on' hbd hb2) hbf⟩
theorem own : ownKnob Try.prog.godebug = none := by kernel_rfl
set_option maxRecDepth 100000 in
theorem lifted (os : Os) (started : os.Started) (H : Type) (enc : TypeId × Value → H) :
    ReturnsInHanded {} Try.checked os 4 .any (Rows.fnExactRanksOfSpec.pre6 enc Try.prog Try.f4 Rows.fnExactRanksOfRow.domain false) (Rows.fnExactRanksOfSpec.post enc Try.prog Try.f4 false true false false) := by
  refine returnsInHanded_of_change (C := Try.checked) own started (by kernel_rfl) Try.func4
    (ChangeSpec.witness6 (enc := enc) (C := Try.checked) false ⟨#[], #[.string ByteArray.empty, .int .i64 0], []⟩ 8 (by kernel_rfl) (by kernel_rfl) (by kernel_rfl) (by kernel_rfl)) ?_
  intro W base args ds gs before hval0 hW hcnd _
  have hval : ∀ (j : Nat) t v, Try.f4.params[j]? = some t → args[j]? = some v → Value.okWide Try.prog W .any base t v := hval0
  have hW' := hW
  obtain ⟨p, q, hA0, hV, rfl, hfz, hnd⟩ := hW
  have hA : DataW.TrodAll enc Try.prog W 0 (fun _ => true) true Try.f4.params.toList args.toList ds p := hA0
  rw [Try.params4] at hA hval
  obtain ⟨v0, vs0, d0, ds0, p0, q0, hargs, rfl, rfl, h0, r0⟩ := trodAll_cons hA
  obtain ⟨v1, vs1, d1, ds1, p1, q1, rfl, rfl, rfl, h1, r1⟩ := trodAll_cons r0
  obtain ⟨rfl, rfl, rfl⟩ := trodAll_nil r1
  obtain rfl : args = #[v0, v1] := by cases args; simp_all
  obtain ⟨rfl, rfl⟩ := trodVars_none hV
  obtain ⟨a0, rfl, rfl, rfl, w0⟩ := open_string Try.underlying9 (hval 0 9 v0 rfl rfl) h0
  obtain ⟨a1, rfl, rfl, rfl, w1⟩ := open_int Try.underlying3 (hval 1 3 v1 rfl rfl) h1
  clear hA0 hval0
  simp only [List.append_nil] at hW'
  refine (law_FnExactRanksOf a0 a1 W w0 w1).mono fun e W' ⟨he, bel⟩ => ?_
  subst he
  exact ⟨_, rfl, _, _, _, [], _, [], hW', trodAll_mk1 (shut_bool Try.underlying4 _), (trodAll_cons_mk (shut_string Try.underlying9 w0) (trodAll_cons_mk (shut_int Try.underlying3 w1) trodAll_mk0)), rfl, bel.frame _, fun h => by cases h⟩
theorem over : Rows.fnExactRanksOfRow.holds Try.pinned (OpenSpec.ofChange Rows.fnExactRanksOfSpec) :=
  OpenClaim.holds_of_wide 4 Try.f4 rfl rfl rfl rfl rfl rfl rfl ⟨rfl, rfl, rfl, rfl, rfl⟩ rfl rfl rfl rfl rfl (by kernel_rfl) Try.func4 (by kernel_rfl)
    (of_decide_eq_true (by kernel_rfl)) (by unfold Func.isWrapper; rw [if_neg (of_decide_eq_false (by kernel_rfl))]; exact ⟨rfl, rfl⟩)
    (fun os started H enc _ => lifted os started H enc)
/-- The statement. -/
theorem proved : Rows.FnExactRanksOfSaid := over
end Go.Proofs.Ytmhiphcnclkhhaa.fnExactRanksOf
