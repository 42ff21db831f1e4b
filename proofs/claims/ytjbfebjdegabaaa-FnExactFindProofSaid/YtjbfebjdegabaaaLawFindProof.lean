/- The program's FindProof returns what the reference's returns, for every input: no condition. -/
import Derived.Test.YtjbfebjdegabaaaRows
import Derived.WalkKit
import Derived.ProofKit
import Derived.OpenShut
import Derived.ShutString
import Derived.ChangeOld
import Derived.Below
import Derived.Test.YtjbfebjdegabaaaImplPl
namespace Go.Proofs.Ytjbfebjdegabaaa.fnExactFindProof
set_option linter.unusedSimpArgs false
set_option linter.unusedVariables false
set_option maxRecDepth 4000
open Go.ChangeShapes Go.WideShapes Go.ChangeAt Go.RowKit
open Go.ChangeMaps (open_string shut_string)
set_option linter.unusedVariables false
set_option maxHeartbeats 1000000 in
theorem law_FnExactFindProof (a0 : Int) (a1 : ByteArray) (a2 : Int) (w : World) (w0 : (Lit.int .i64 a0).wf = true) (w1 : a1.size ≤ maxLen) (w2 : (Lit.int .i64 a2).wf = true) :
    Calls Try.prog 9 #[.int .i64 a0, .string a1, .int .i64 a2] w fun e w' => e = .returned (.bool true) ∧ Below w.heap.size w w' := by
  by_cases h1 : a1.size ≤ 1048576
  rotate_left
  · go_enter Try.func9, Try.ntmps9
    go_wp2_with fail
    go_ret
    exact ⟨rfl, Below.refl _ _⟩
  obtain ⟨zs, hzs⟩ : ∃ zs, zs = rkList ((trOk a1 && cvB a0) && cvB a2) (fBody a0.toNat (dig a1)) (andn a2.toNat a0.toNat) := ⟨_, rfl⟩
  obtain ⟨c, hc⟩ : ∃ c, c = optI ((trOk a1 && cvB a0) && cvB a2) (fWhile a0.toNat (dig a1) a2.toNat) := ⟨_, rfl⟩
  obtain ⟨n, hn⟩ : ∃ n, zs.length = n := ⟨_, rfl⟩
  have hn4 : n ≤ 4 := by rw [← hn, hzs, rkList_len]; split <;> omega
  have hzl : zs.length ≤ 1048576 := by omega
  have hs := fun w => s_FindProof a0 a1 a2 w h1
  have hi := fun w => i_FindProof a0 a1 a2 w
  rw [← hzs, ← hc] at hs hi
  have HS := Lib.hid hs; have HI := Lib.hid hi; have HN := Lib.hid hn; clear hs hi hn hzs hc
  have bc : (c != c) = false := by simp
  go_enter Try.func9, Try.ntmps9
  go_wp2_with fail
  refine (HS.out _).mono ?_
  rintro e wa ⟨v0, rfl, hi0, hb0⟩
  have HI0 : Hid (IntsAt w.heap.size wa v0 zs) := Lib.hid hi0; clear hi0
  go_wp2_with fail
  refine (HI.out _).mono ?_
  rintro e wb ⟨v1, rfl, hi1, hb1⟩
  have HI1 : Hid (IntsAt wa.heap.size wb v1 zs) := Lib.hid hi1; clear hi1
  go_wp2_with fail
  refine (l_eqIntS _ _ v1 v0 zs _ HI1.out (HI0.out.later hb1) hzl).mono ?_
  rintro e wc ⟨rfl, hbc⟩
  go_wp2_with fail
  refine (l_markIntS _ n v1 zs _ HN.out (HI1.out.later hbc) (by omega)).mono ?_
  rintro e wd ⟨rfl, hm1, g1, hg1, hgr⟩
  have HM1 : Hid (IntsAt wa.heap.size wd v1 (marks n)) := Lib.hid hm1
  have hk0 : IntsAt w.heap.size wd v0 zs := ((HI0.out.later hb1).later hbc).kept hgr (HI0.out.apart HI1.out hg1 (Nat.le_refl _))
  have HK0 := Lib.hid hk0
  have hbd : Below w.heap.size w wd := (bel_on' (bel_on' hb0 hb1) hbc).grown hgr (by have := hb0.size; have := hb1.size; have := hbc.size; omega) (fun k hk => by
    obtain ⟨g, h1, h2, _⟩ := HI1.out.block
    rw [hg1] at h1
    cases h1; cases hk
    have := hb0.size; omega)
  clear hm1 hk0 hg1 hgr hb0 hb1 hbc
  have b1 : (((n : Int) + 1) != ((n : Int) + 1)) = false := by simp
  go_wp2_with fail
  refine (l_heldIntS _ n v1 _ HM1.out (by omega)).mono ?_
  rintro e w' ⟨rfl, rfl⟩
  go_wp2_with fail
  refine (HI.out _).mono ?_
  rintro e we ⟨v2, rfl, hi2, hb2⟩
  have HI2 : Hid (IntsAt wd.heap.size we v2 zs) := Lib.hid hi2; clear hi2
  go_wp2_with fail
  refine (l_eqIntS _ _ v2 v0 zs _ HI2.out (HK0.out.later hb2) hzl).mono ?_
  rintro e wf ⟨rfl, hbf⟩
  go_wp2_with fail
  refine (l_heldIntS _ n v1 _ ((HM1.out.later hb2).later hbf) (by omega)).mono ?_
  rintro e w' ⟨rfl, rfl⟩
  go_wp2_with fail
  go_ret
  exact ⟨rfl, bel_on' (bel_on' hbd hb2) hbf⟩
theorem own : ownKnob Try.prog.godebug = none := by kernel_rfl
set_option maxRecDepth 100000 in
theorem lifted (os : Os) (started : os.Started) (H : Type) (enc : TypeId × Value → H) :
    ReturnsInHanded {} Try.checked os 9 .any (Rows.fnExactFindProofSpec.pre6 enc Try.prog Try.f9 Rows.fnExactFindProofRow.domain false) (Rows.fnExactFindProofSpec.post enc Try.prog Try.f9 false true false false) := by
  refine returnsInHanded_of_change (C := Try.checked) own started (by kernel_rfl) Try.func9
    (ChangeSpec.witness6 (enc := enc) (C := Try.checked) false ⟨#[], #[.int .i64 0, .string ByteArray.empty, .int .i64 0], []⟩ 8 (by kernel_rfl) (by kernel_rfl) (by kernel_rfl) (by kernel_rfl)) ?_
  intro W base args ds gs before hval0 hW hcnd _
  have hval : ∀ (j : Nat) t v, Try.f9.params[j]? = some t → args[j]? = some v → Value.okWide Try.prog W .any base t v := hval0
  have hW' := hW
  obtain ⟨p, q, hA0, hV, rfl, hfz, hnd⟩ := hW
  have hA : DataW.TrodAll enc Try.prog W 0 (fun _ => true) true Try.f9.params.toList args.toList ds p := hA0
  rw [Try.params9] at hA hval
  obtain ⟨v0, vs0, d0, ds0, p0, q0, hargs, rfl, rfl, h0, r0⟩ := trodAll_cons hA
  obtain ⟨v1, vs1, d1, ds1, p1, q1, rfl, rfl, rfl, h1, r1⟩ := trodAll_cons r0
  obtain ⟨v2, vs2, d2, ds2, p2, q2, rfl, rfl, rfl, h2, r2⟩ := trodAll_cons r1
  obtain ⟨rfl, rfl, rfl⟩ := trodAll_nil r2
  obtain rfl : args = #[v0, v1, v2] := by cases args; simp_all
  obtain ⟨rfl, rfl⟩ := trodVars_none hV
  obtain ⟨a0, rfl, rfl, rfl, w0⟩ := open_int Try.underlying3 (hval 0 3 v0 rfl rfl) h0
  obtain ⟨a1, rfl, rfl, rfl, w1⟩ := open_string Try.underlying9 (hval 1 9 v1 rfl rfl) h1
  obtain ⟨a2, rfl, rfl, rfl, w2⟩ := open_int Try.underlying3 (hval 2 3 v2 rfl rfl) h2
  clear hA0 hval0
  simp only [List.append_nil] at hW'
  refine (law_FnExactFindProof a0 a1 a2 W w0 w1 w2).mono fun e W' ⟨he, bel⟩ => ?_
  subst he
  exact ⟨_, rfl, _, _, _, [], _, [], hW', trodAll_mk1 (shut_bool Try.underlying4 _), (trodAll_cons_mk (shut_int Try.underlying3 w0) (trodAll_cons_mk (shut_string Try.underlying9 w1) (trodAll_cons_mk (shut_int Try.underlying3 w2) trodAll_mk0))), rfl, bel.frame _, fun h => by cases h⟩
theorem over : Rows.fnExactFindProofRow.holds Try.pinned (OpenSpec.ofChange Rows.fnExactFindProofSpec) :=
  OpenClaim.holds_of_wide 9 Try.f9 rfl rfl rfl rfl rfl rfl rfl ⟨rfl, rfl, rfl, rfl, rfl⟩ rfl rfl rfl rfl rfl (by kernel_rfl) Try.func9 (by kernel_rfl)
    (of_decide_eq_true (by kernel_rfl)) (by unfold Func.isWrapper; rw [if_neg (of_decide_eq_false (by kernel_rfl))]; exact ⟨rfl, rfl⟩)
    (fun os started H enc _ => lifted os started H enc)
/-- The statement. -/
theorem proved : Rows.FnExactFindProofSaid := over
end Go.Proofs.Ytjbfebjdegabaaa.fnExactFindProof
