/- Each state from which a loop guarantees its condition has a rank, and the ranks prove it: no condition. -/
import Derived.Test.YtiaeakpgldpaiaaRows
import Derived.WalkKit
import Derived.ProofKit
import Derived.OpenShut
import Derived.ShutString
import Derived.ChangeOld
import Derived.Below
import Derived.Test.YtiaeakpgldpaiaaQSpecE
import Derived.Test.YtiaeakpgldpaiaaQImplPl
import Derived.Test.YtiaeakpgldpaiaaQImplJ
import Derived.Test.YtiaeakpgldpaiaaQJ4
import Derived.Test.YtiaeakpgldpaiaaQApp4
import Derived.Test.YtiaeakpgldpaiaaQPlainV
namespace Go.Proofs.Ytiaeakpgldpaiaa.fnFindProof
set_option linter.unusedSimpArgs false
set_option linter.unusedVariables false
set_option maxRecDepth 4000
open Go.ChangeShapes Go.WideShapes Go.ChangeAt Go.RowKit
open Go.ChangeMaps (open_string shut_string)
set_option linter.unusedVariables false
set_option maxHeartbeats 4000000 in
theorem law_FnFindProof (a0 : Option Addr) (len0 cap0 : Nat) (z0 : List Int) (w : World) (w0 : IsRow .u8 w a0 len0 cap0 z0) :
    Calls Try.prog 10 #[.slice a0 len0 cap0] w fun e w' => e = .returned (.bool true) ∧ Below w.heap.size w w' := by
  have hin := ByteIn.of_row w0
  by_cases h0 : len0 ≤ 1048576
  rotate_left
  · go_enter Try.func10, Try.ntmps10
    go_wp2_with fail
    go_ret
    exact ⟨rfl, Below.refl _ _⟩
  go_enter Try.func10, Try.ntmps10
  go_wp2_with fail
  refine (s_DrawFindProof a0 len0 cap0 _ hin).mono ?_
  rintro e wa ⟨⟨p, t, q, ht, rfl⟩, hca⟩
  have hts : t.size ≤ 1048576 := Nat.le_trans ht (by omega)
  clear hin w0 ht
  go_wp2_with fail
  cases hok : ((trOk t && cvB p) && cvB q)
  · have q1 : rkList ((trOk t && cvB p) && cvB q) (fBody p.toNat (dig t)) (andn q.toNat p.toNat) = [] := by rw [hok]; rfl
    have q2 : optI ((trOk t && cvB p) && cvB q) (fWhile p.toNat (dig t) q.toNat) = -1 := by rw [hok]; rfl
    have Q1 := Lib.hid q1; have Q2 := Lib.hid q2; clear q1 q2 hok
    refine (i_FindProof p t q _).mono ?_
    rw [Q1.out, Q2.out]
    rintro e wb ⟨v1, rfl, hi1, hb1⟩
    have hcb := bel_on' hca hb1
    clear hca hb1
    obtain ⟨g1, k1, r1, rfl, _, a3, a4, a5, a6, a7⟩ := hi1
    clear a3 a4 a5 a6 a7
    go_wp2_with fail
    refine (s_FindProof p t q _ hts).mono ?_
    rw [Q1.out, Q2.out]
    rintro e wc ⟨v2, rfl, hi2, hb2⟩
    have hcc := bel_on' hcb hb2
    clear hcb hb2
    obtain ⟨g2, k2, r2, rfl, _, b3, b4, b5, b6, b7⟩ := hi2
    clear b3 b4 b5 b6 b7
    go_wp2_with fail
    go_ret
    exact ⟨rfl, hcc⟩
  · have hall := hok
    simp only [Bool.and_eq_true] at hok
    obtain ⟨⟨hko, hcp⟩, hcq⟩ := hok
    obtain ⟨n, hn, rfl⟩ := (cvB_iff p).1 hcp
    obtain ⟨m, hm2, rfl⟩ := (cvB_iff q).1 hcq
    have hm := dig_mono hko
    have hb := dig_bd t
    obtain ⟨U, hU⟩ : ∃ U, U = txt 16 (fWhile n (dig t)) := ⟨_, rfl⟩
    obtain ⟨I, hI⟩ : ∃ I, I = fWhile n (dig t) m := ⟨_, rfl⟩
    have hI16 : I < 16 := by rw [hI]; exact fWhile_bd hn m hm2
    obtain ⟨R, hR⟩ : ∃ R : Nat → Int, R = rank (fBody n (dig t)) (andn m n) := ⟨_, rfl⟩
    obtain ⟨Z, hZ⟩ : ∃ Z, Z = zrow 4 R := ⟨_, rfl⟩
    obtain ⟨F, hF⟩ : ∃ F, F = fFree n (dig t) m := ⟨_, rfl⟩
    have hF16 : F < 16 := by rw [hF]; exact fFree_bd hn m hm2
    have hZl : Z.length = 4 := by rw [hZ, zrow_len]
    have oU : trOk U = true := by rw [hU]; exact trOk_txt (fWhile_bd hn) (fWhile_mono hn hm)
    have q1 : rkList ((trOk t && cvB (n : Int)) && cvB (m : Int)) (fBody (n : Int).toNat (dig t)) (andn (m : Int).toNat (n : Int).toNat) = Z := by rw [hall, hZ, hR]; rfl
    have q2 : optI ((trOk t && cvB (n : Int)) && cvB (m : Int)) (fWhile (n : Int).toNat (dig t) (m : Int).toNat) = (I : Int) := by rw [hall, hI]; rfl
    have q3 : (#[Value.string (optS (trOk t && cvB (n : Int)) (txt 16 (fWhile (n : Int).toNat (dig t)))), .bool (trOk t && cvB (n : Int))] : Array Value) = #[.string U, .bool true] := by rw [hko, hcp, hU]; rfl
    have q4 : optI ((trOk t && cvB (n : Int)) && cvB (m : Int)) (fFree (n : Int).toNat (dig t) (m : Int).toNat) = (F : Int) := by rw [hall, hF]; rfl
    have q5 : plB (trOk t && cvB (n : Int)) (dig t) (n : Int).toNat (I : Int) Z (m : Int) = true := by rw [hko, hcp, hI, hZ, hR]; exact found_all hb hm hn hm2
    have q6 : dig U m = I := by rw [hU, dig_txt (fWhile_bd hn) m hm2, hI]
    have q7 : imp I F := by rw [hI, hF]; exact while_free hb hm hn hm2
    have q8 : ∀ k, k < 4 → decide (0 ≤ R k) = I.testBit k := fun k hk => by rw [hR, hI]; exact found_has hb hm hn hm2 hk
    have hget : ∀ k, k < 4 → Z[k]? = some (R k) := fun k hk => by rw [hZ]; exact zrow_get _ _ k hk
    have hneg : decide ((I : Int) < 0) = false := by simp
    have Q1 := Lib.hid q1; have Q2 := Lib.hid q2; have Q3 := Lib.hid q3; have Q4 := Lib.hid q4; have Q5 := Lib.hid q5; have Q6 := Lib.hid q6; have Q7 := Lib.hid q7; have Q8 := Lib.hid q8
    have GET := Lib.hid hget; have OU := Lib.hid oU; have HZL := Lib.hid hZl
    clear q1 q2 q3 q4 q5 q6 q7 q8 hget oU hZl hU hI hR hZ hF hm hb hko hcp hcq hall
    refine (i_FindProof n t m _).mono ?_
    rw [Q1.out, Q2.out]
    rintro e wb ⟨v1, rfl, hi1, hb1⟩
    have hcb := bel_on' hca hb1
    clear hca hb1
    obtain ⟨g1, k1, r1, rfl, a2, a3, a4, a5, a6, a7⟩ := hi1
    have A7 := Lib.hid a7; have A3 := Lib.hid a3; have A4 := Lib.hid a4; have A2 := Lib.hid a2
    clear a7 a4 a3 a2
    rw [HZL.out] at a5 ⊢
    go_wp2_with fail
    refine (s_FindProof n t m _ hts).mono ?_
    rw [Q1.out, Q2.out]
    rintro e wc ⟨v2, rfl, hi2, hb2⟩
    have hcc := bel_on' hcb hb2
    have A3' := Lib.hid (A3.out.later hb2)
    clear hcb hb2 A3
    obtain ⟨g2, k2, r2, rfl, _, b3, b4, b5, b6, b7⟩ := hi2
    have B7 := Lib.hid b7; have B3 := Lib.hid b3
    clear b7 b4 b3
    rw [HZL.out] at b5 ⊢
    go_wp2_with fail
    clear hneg
    go_loopw [10] (fun i wr => ∃ k : Nat, k ≤ 4 ∧ i = .int .i64 k ∧ Hid (RowAt wr g1 3 r1) ∧ Hid (RowAt wr g2 3 r2) ∧ Below w.heap.size w wr) (fun i _ => 4 - (intOf i).toNat)
    case atStart => exact ⟨0, by omega, rfl, A3', B3, hcc⟩
    case round =>
      clear hcc A3' B3
      obtain ⟨k, hk, rfl, R1, R2, hc0⟩ := hrel
      by_cases hlt : k < 4
      · have hd : decide ((k : Int) < 4) = true := by simp; omega
        have c1 : wr.cell? ⟨g1, k, none⟩ = some (.int .i64 (R k)) := (R1.out.get k).trans (A7.out k _ (GET.out k hlt))
        have c2 : wr.cell? ⟨g2, k, none⟩ = some (.int .i64 (R k)) := (R2.out.get k).trans (B7.out k _ (GET.out k hlt))
        have i1 := lt_cast hlt
        have b1 := Q8.out k hlt
        have hB := fun w => (i_HasN I k w hI16 hlt).mono (R' := fun e w' => e = .returned (.bool (I.testBit k)) ∧ w' = w) fun e w' h => ⟨h.1, h.2.symm⟩
        have HB := Lib.hid hB; clear hB
        go_wp2_with fail
        go_quiet ((go_at_call 69; exact Calls.quiet_of_same (HB.out _)))
        go_wp2_with fail
        go_roundw
        case rel => exact ⟨k + 1, by omega, by go_num, Lib.hid (R1.out.drewN _), Lib.hid (R2.out.drewN _), bel_drewN hc0 _⟩
        case measure => simp [intOf]; omega
      · obtain rfl : k = 4 := by omega
        have hpl : IntsAt wa.heap.size wr (.slice (some ⟨g1, 0, none⟩) 4 k1) Z := ⟨g1, k1, r1, by rw [HZL.out], A2.out, R1.out, A4.out, by rw [HZL.out]; exact a5, a6, A7.out⟩
        have HPL := Lib.hid hpl; clear hpl
        have hzl : Z.length ≤ 1048576 := by rw [HZL.out]; omega
        go_wp2_with fail
        refine (i_WhileTrans n t _).mono ?_
        rw [Q3.out]
        rintro e wd ⟨rfl, hbd⟩
        have hcd := bel_on' hc0 hbd
        have HPD := Lib.hid (HPL.out.later hbd)
        clear hbd hc0
        go_wp2_with fail
        refine (i_ProvesLoop n t I _ Z m _ _ HPD.out hzl).mono ?_
        rw [Q5.out]
        rintro e we ⟨rfl, hbe⟩
        have hce := bel_on' hcd hbe
        clear hbe hcd
        go_wp2_with fail
        refine (i_ApplyN U m _ OU.out hm2).mono ?_
        rw [Q6.out]
        rintro e wf ⟨rfl, hbf⟩
        have hcf := bel_on' hce hbf
        clear hbf hce
        go_wp2_with fail
        refine (i_WeakestInvariant n t m _).mono ?_
        rw [Q4.out]
        rintro e wg ⟨rfl, hbg⟩
        have hcg := bel_on' hcf hbg
        clear hbg hcf
        go_wp2_with fail
        refine (i_ImpliesN _ _ _ hI16 hF16).mono ?_
        rw [decide_eq_true Q7.out]
        rintro e w' ⟨rfl, rfl⟩
        go_wp2_with fail
        go_ret
        exact ⟨rfl, hcg⟩
theorem own : ownKnob Try.prog.godebug = none := by kernel_rfl
theorem laidOut : laidOutB Try.prog = true := by kernel_rfl
set_option maxRecDepth 100000 in
theorem lifted (os : Os) (started : os.Started) (H : Type) (enc : TypeId × Value → H) :
    ReturnsInHanded {} Try.checked os 10 .any (Rows.fnFindProofSpec.pre6 enc Try.prog Try.f10 Rows.fnFindProofRow.domain false) (Rows.fnFindProofSpec.post enc Try.prog Try.f10 false true false false) := by
  refine returnsInHanded_of_change (C := Try.checked) own started (by kernel_rfl) Try.func10
    (ChangeSpec.witness6 (enc := enc) (C := Try.checked) false ⟨#[], #[.slice none 0 0], []⟩ 8 (by kernel_rfl) (by kernel_rfl) (by kernel_rfl) (by kernel_rfl)) ?_
  intro W base args ds gs before hval0 hW hcnd _
  have hval : ∀ (j : Nat) t v, Try.f10.params[j]? = some t → args[j]? = some v → Value.okWide Try.prog W .any base t v := hval0
  have hW' := hW
  obtain ⟨p, q, hA0, hV, rfl, hfz, hnd⟩ := hW
  have hA : DataW.TrodAll enc Try.prog W 0 (fun _ => true) true Try.f10.params.toList args.toList ds p := hA0
  rw [Try.params10] at hA hval
  obtain ⟨v0, vs0, d0, ds0, p0, q0, hargs, rfl, rfl, h0, r0⟩ := trodAll_cons hA
  obtain ⟨rfl, rfl, rfl⟩ := trodAll_nil r0
  obtain rfl : args = #[v0] := by cases args; simp_all
  obtain ⟨rfl, rfl⟩ := trodVars_none hV
  obtain ⟨a0, len0, cap0, rfl⟩ := okWide_slice Try.underlying22 (hval 0 22 v0 rfl rfl)
  have k0 := h0
  have lt0 : ∀ x ∈ p0, x.block < W.heap.size := by obtain ⟨m, hm⟩ := k0; exact DataW.trod_lt m _ _ _ hm
  obtain ⟨z0, w0⟩ : ∃ zs, IsRow .u8 W a0 len0 cap0 zs := by
    obtain ⟨fuel, hf⟩ := h0
    rcases open_ints Try.underlying22 Try.underlying5 (by kernel_rfl) hf with ⟨hcs, _⟩ | ⟨x, l, c, zs, hcs, _, hl, hm, hz, _, hcell, hwz⟩
    · simp [Value.cells] at hcs
      obtain ⟨rfl, rfl, rfl⟩ := hcs
      exact ⟨[], .inl ⟨rfl, rfl, rfl, rfl⟩⟩
    · simp [Value.cells] at hcs
      obtain ⟨rfl, rfl, rfl⟩ := hcs
      exact ⟨zs, .inr ⟨_, rfl, hl, hm, by simpa using hz, hcell, hwz⟩⟩
  clear hA0 hval0
  refine (law_FnFindProof a0 len0 cap0 z0 W w0).mono fun e W' ⟨he, bel⟩ => ?_
  subst he
  exact ⟨_, rfl, _, _, _, [], _, [], hW', trodAll_mk1 (shut_bool Try.underlying4 _), (trodAll_cons_mk (Below.trod laidOut (by kernel_rfl) (of_decide_eq_true (by kernel_rfl)) k0 bel lt0) trodAll_mk0), rfl, bel.frame _, fun h => by cases h⟩
theorem over : Rows.fnFindProofRow.holds Try.pinned (OpenSpec.ofChange Rows.fnFindProofSpec) :=
  OpenClaim.holds_of_wide 10 Try.f10 rfl rfl rfl rfl rfl rfl rfl ⟨rfl, rfl, rfl, rfl, rfl⟩ rfl rfl rfl rfl rfl (by kernel_rfl) Try.func10 (by kernel_rfl)
    (of_decide_eq_true (by kernel_rfl)) (by unfold Func.isWrapper; rw [if_neg (of_decide_eq_false (by kernel_rfl))]; exact ⟨rfl, rfl⟩)
    (fun os started H enc _ => lifted os started H enc)
/-- The statement. -/
theorem proved : Rows.FnFindProofSaid := over
end Go.Proofs.Ytiaeakpgldpaiaa.fnFindProof
