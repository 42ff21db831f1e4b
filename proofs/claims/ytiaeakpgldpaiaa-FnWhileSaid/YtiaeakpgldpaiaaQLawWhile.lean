/- A loop is an if with its body and itself, its condition is false when it ends, and a conjunctive one that must end is one that need not, from where it ends: no condition. -/
import Derived.Test.YtiaeakpgldpaiaaRows
import Derived.WalkKit
import Derived.ProofKit
import Derived.OpenShut
import Derived.ShutString
import Derived.ChangeOld
import Derived.Below
import Derived.Test.YtiaeakpgldpaiaaQSpecE
import Derived.Test.YtiaeakpgldpaiaaQImplJ
import Derived.Test.YtiaeakpgldpaiaaQJ4
import Derived.Test.YtiaeakpgldpaiaaQApp4
import Derived.Test.YtiaeakpgldpaiaaQPlainW
namespace Go.Proofs.Ytiaeakpgldpaiaa.fnWhile
set_option linter.unusedSimpArgs false
set_option linter.unusedVariables false
set_option maxRecDepth 4000
open Go.ChangeShapes Go.WideShapes Go.ChangeAt Go.RowKit
open Go.ChangeMaps (open_string shut_string)
set_option linter.unusedVariables false
theorem reach0 : ∀ q, q < 16 → fBox (fun _ => 0) q = 15 := by decide
set_option maxHeartbeats 2000000 in
theorem law_FnWhile (a0 : Option Addr) (len0 cap0 : Nat) (z0 : List Int) (w : World) (w0 : IsRow .u8 w a0 len0 cap0 z0) :
    Calls Try.prog 11 #[.slice a0 len0 cap0] w fun e w' => e = .returned (.bool true) ∧ Below w.heap.size w w' := by
  have hin := ByteIn.of_row w0
  by_cases h0 : len0 ≤ 1048576
  rotate_left
  · go_enter Try.func11, Try.ntmps11
    go_wp2_with fail
    go_ret
    exact ⟨rfl, Below.refl _ _⟩
  go_enter Try.func11, Try.ntmps11
  go_wp2_with fail
  refine (s_DrawWhileTrans a0 len0 cap0 _ hin).mono ?_
  rintro e wa ⟨⟨p, t, ht, rfl⟩, hca⟩
  have hts : t.size ≤ 1048576 := Nat.le_trans ht (by omega)
  clear hin w0 ht
  go_wp2_with fail
  cases hok : (trOk t && cvB p)
  · have HOK := Lib.hid hok; clear hok
    refine (i_WhileTrans p t _).mono ?_
    rw [HOK.out]
    rintro e wb ⟨rfl, hbb⟩
    have hcb := bel_on' hca hbb
    clear hbb hca
    go_wp2_with fail
    refine (s_WhileTrans p t _ hts).mono ?_
    rw [HOK.out]
    rintro e w' ⟨rfl, rfl⟩
    go_wp2_with fail
    refine (i_WhileFree p t _).mono ?_
    rw [HOK.out]
    rintro e wc ⟨rfl, hbc⟩
    have hcc := bel_on' hcb hbc
    clear hbc hcb
    go_wp2_with fail
    refine (s_WhileFree p t _ hts).mono ?_
    rw [HOK.out]
    rintro e w' ⟨rfl, rfl⟩
    go_wp2_with fail
    go_ret
    exact ⟨rfl, hcc⟩
  · have hall := hok
    simp only [Bool.and_eq_true] at hok
    obtain ⟨hok, hcp⟩ := hok
    obtain ⟨n, hn, rfl⟩ := (cvB_iff p).1 hcp
    have hm := dig_mono hok
    have hb := dig_bd t
    obtain ⟨U, hU⟩ : ∃ U, U = txt 16 (fWhile n (dig t)) := ⟨_, rfl⟩
    obtain ⟨V, hV⟩ : ∃ V, V = txt 16 (fFree n (dig t)) := ⟨_, rfl⟩
    have oU : trOk U = true := by rw [hU]; exact trOk_txt (fWhile_bd hn) (fWhile_mono hn hm)
    have oV : trOk V = true := by rw [hV]; exact trOk_txt (fFree_bd hn) (fFree_mono hn hm)
    have dU : ∀ q, q < 16 → dig U q = fWhile n (dig t) q := fun q hq => by rw [hU, dig_txt (fWhile_bd hn) q hq]
    have dV : ∀ q, q < 16 → dig V q = fFree n (dig t) q := fun q hq => by rw [hV, dig_txt (fFree_bd hn) q hq]
    have hnn : andn 15 n < 16 := andn_lt (by omega)
    obtain ⟨E, hE⟩ : ∃ E, E = txt 16 (fun q => andn 15 n &&& q) := ⟨_, rfl⟩
    have oE : trOk E = true := by rw [hE]; exact trOk_txt (fun q _ => and_lt hnn) (fun a b _ _ h => imp_and (imp_refl _) h)
    have dE : ∀ q, q < 16 → dig E q = (andn 15 n &&& q) := fun q hq => by rw [hE, dig_txt (fun q _ => and_lt hnn) q hq]
    have h15 : dig U 15 < 16 := dig_lt _ _
    obtain ⟨R, hR⟩ : ∃ R, R = txt 16 (fSpec (dig U 15) (fun _ => 0)) := ⟨_, rfl⟩
    have oR : trOk R = true := by rw [hR]; exact trOk_txt (fun q _ => fSpec_lt h15 q) (fSpec_mono _ _)
    have dR : ∀ q, q < 16 → dig R q = dig U 15 := fun q hq => by
      rw [hR, dig_txt (fun q _ => fSpec_lt h15 q) q hq]
      show dig U 15 &&& fBox (fun _ => 0) q = _
      rw [reach0 q hq, and_all h15]
    have q1 : (#[Value.string (optS (trOk t && cvB (n : Int)) (txt 16 (fWhile (n : Int).toNat (dig t)))), .bool (trOk t && cvB (n : Int))] : Array Value) = #[.string U, .bool true] := by rw [hall, hU]; rfl
    have q2 : (#[Value.string (optS (trOk t && cvB (n : Int)) (txt 16 (fFree (n : Int).toNat (dig t)))), .bool (trOk t && cvB (n : Int))] : Array Value) = #[.string V, .bool true] := by rw [hall, hV]; rfl
    have q3 : ∀ k, k < 16 → ((n &&& dig t (dig U k)) ||| (andn 15 n &&& k)) = dig U k := fun k hk => by rw [dU k hk]; exact while_step hb hm hn hk
    have q4 : ∀ k, k < 16 → ((n &&& dig t (dig V k)) ||| (andn 15 n &&& k)) = dig V k := fun k hk => by rw [dV k hk]; exact free_step hb hm hn hk
    have q5 : ∀ k, k < 16 → dig U (k ||| n) = dig U k := fun k hk => by rw [dU k hk, dU _ (or_lt hk hn)]; exact while_or hb hm hn hk
    have q6 : refB (dig U) (dig V) 16 = true := (refB_iff _ _ _).2 fun i hi => by rw [dU i hi, dV i hi]; exact while_free hb hm hn hi
    have q7 : txt 16 (fun q => dig U (dig E q)) = U := by
      refine Eq.trans (txt_congr fun q hq => ?_) hU.symm
      rw [dU _ (dig_lt _ _), dE q hq]; exact while_not hb hm hn hq
    have q8 : optI (trOk t && cvB (n : Int)) (fWhile (n : Int).toNat (dig t) 15) = (dig U 15 : Int) := by rw [hall, dU 15 (by omega)]; rfl
    have q9 : conjB (dig t) = true → conjB (dig U) = true ∧ txt 16 (fun q => dig V q &&& dig R q) = U := fun hc => by
      refine ⟨?_, ?_⟩
      · rw [conjB_congr dU]; exact conj_to (while_conj hb hm hn (conj_of hc))
      · refine Eq.trans (txt_congr fun q hq => ?_) hU.symm
        rw [dR q hq, dV q hq, dU 15 (by omega)]; exact free_ends hb hm hn (conj_of hc) hq
    have Q1 := Lib.hid q1; have Q2 := Lib.hid q2; have Q3 := Lib.hid q3; have Q4 := Lib.hid q4; have Q5 := Lib.hid q5; have Q6 := Lib.hid q6; have Q7 := Lib.hid q7; have Q8 := Lib.hid q8; have Q9 := Lib.hid q9
    have OK := Lib.hid hok; have OU := Lib.hid oU; have OV := Lib.hid oV; have OE := Lib.hid oE; have OR := Lib.hid oR; have HE := Lib.hid hE; have HR := Lib.hid hR
    clear q1 q2 q3 q4 q5 q6 q7 q8 q9 hok oU oV oE oR hE hR hU hV dU dV dE dR hm hb hall hcp
    refine (i_WhileTrans n t _).mono ?_
    rw [Q1.out]
    rintro e wb ⟨rfl, hbb⟩
    have hcb := bel_on' hca hbb
    clear hbb hca
    go_wp2_with fail
    refine (s_WhileTrans n t _ hts).mono ?_
    rw [Q1.out]
    rintro e w' ⟨rfl, rfl⟩
    go_wp2_with fail
    refine (i_WhileFree n t _).mono ?_
    rw [Q2.out]
    rintro e wc ⟨rfl, hbc⟩
    have hcc := bel_on' hcb hbc
    clear hbc hcb
    go_wp2_with fail
    refine (s_WhileFree n t _ hts).mono ?_
    rw [Q2.out]
    rintro e w' ⟨rfl, rfl⟩
    go_wp2_with fail
    refine (i_NotN n _ hn).mono ?_
    rintro e w' ⟨rfl, rfl⟩
    go_wp2_with fail
    go_loopw [14] (fun i wr => ∃ k : Nat, k ≤ 16 ∧ i = .int .i64 k ∧ Below w.heap.size w wr) (fun i _ => 16 - (intOf i).toNat)
    case atStart => exact ⟨0, by omega, rfl, hcc⟩
    case round =>
      obtain ⟨k, hk, rfl, hc0⟩ := hrel
      by_cases hlt : k < 16
      · have hd : decide ((k : Int) < 16) = true := by simp; omega
        have u1 : dig U k < 16 := dig_lt _ _
        have v1 : dig V k < 16 := dig_lt _ _
        have t1 : dig t (dig U k) < 16 := dig_lt _ _
        have t2 : dig t (dig V k) < 16 := dig_lt _ _
        have kn : k ||| n < 16 := or_lt hlt hn
        go_wp2_with fail
        refine (i_ApplyN U k _ OU.out hlt).mono ?_
        rintro e w1 ⟨rfl, hb1⟩
        have hc1 := bel_on' hc0 hb1
        clear hb1 hc0
        go_wp2_with fail
        refine (i_ApplyN V k _ OV.out hlt).mono ?_
        rintro e w2 ⟨rfl, hb2⟩
        have hc2 := bel_on' hc1 hb2
        clear hb2 hc1
        go_wp2_with fail
        refine (i_ApplyN t (dig U k) _ OK.out u1).mono ?_
        rintro e w3 ⟨rfl, hb3⟩
        have hc3 := bel_on' hc2 hb3
        clear hb3 hc2
        go_wp2_with fail
        refine (l_dcAnd n (dig t (dig U k)) _ hn t1).mono ?_
        rintro e w' ⟨rfl, rfl⟩
        go_wp2_with fail
        refine (l_dcAnd (andn 15 n) k _ hnn hlt).mono ?_
        rintro e w' ⟨rfl, rfl⟩
        go_wp2_with fail
        refine (l_dcOr (n &&& dig t (dig U k)) (andn 15 n &&& k) _ (and_lt hn) (and_lt hnn)).mono ?_
        rw [Q3.out k hlt]
        rintro e w' ⟨rfl, rfl⟩
        go_wp2_with fail
        refine (i_ApplyN t (dig V k) _ OK.out v1).mono ?_
        rintro e w4 ⟨rfl, hb4⟩
        have hc4 := bel_on' hc3 hb4
        clear hb4 hc3
        go_wp2_with fail
        refine (l_dcAnd n (dig t (dig V k)) _ hn t2).mono ?_
        rintro e w' ⟨rfl, rfl⟩
        go_wp2_with fail
        refine (l_dcAnd (andn 15 n) k _ hnn hlt).mono ?_
        rintro e w' ⟨rfl, rfl⟩
        go_wp2_with fail
        refine (l_dcOr (n &&& dig t (dig V k)) (andn 15 n &&& k) _ (and_lt hn) (and_lt hnn)).mono ?_
        rw [Q4.out k hlt]
        rintro e w' ⟨rfl, rfl⟩
        go_wp2_with fail
        refine (l_dcOr k n _ hlt hn).mono ?_
        rintro e w' ⟨rfl, rfl⟩
        go_wp2_with fail
        refine (i_ApplyN U (k ||| n) _ OU.out kn).mono ?_
        rw [Q5.out k hlt]
        rintro e w5 ⟨rfl, hb5⟩
        have hc5 := bel_on' hc4 hb5
        clear hb5 hc4
        go_wp2_with fail
        go_roundw
        case rel => exact ⟨k + 1, by omega, by go_num, hc5⟩
        case measure => simp [intOf]; omega
      · obtain rfl : k = 16 := by omega
        go_wp2_with fail
        refine (i_AssertN (andn 15 n) _ hnn).mono ?_
        rw [← HE.out]
        rintro e w1 ⟨rfl, hb1⟩
        have hc1 := bel_on' hc0 hb1
        clear hb1 hc0
        go_wp2_with fail
        refine (i_StartsN U _ OU.out).mono ?_
        rintro e w2 ⟨rfl, hb2⟩
        have hc2 := bel_on' hc1 hb2
        clear hb2 hc1
        go_wp2_with fail
        refine (i_ReachN (dig U 15) 0 _ h15 (by omega)).mono ?_
        rw [← HR.out]
        rintro e w3 ⟨rfl, hb3⟩
        have hc3 := bel_on' hc2 hb3
        clear hb3 hc2
        go_wp2_with fail
        refine (i_RefinesN U V _ OU.out OV.out).mono ?_
        rw [Q6.out]
        rintro e w4 ⟨rfl, hb4⟩
        have hc4 := bel_on' hc3 hb4
        clear hb4 hc3
        go_wp2_with fail
        refine (l_dcThen U E _ OU.out OE.out).mono ?_
        rw [Q7.out]
        rintro e w5 ⟨rfl, hb5⟩
        have hc5 := bel_on' hc4 hb5
        clear hb5 hc4
        go_wp2_with fail
        refine (i_EndsFrom n t _).mono ?_
        rw [Q8.out]
        rintro e w6 ⟨rfl, hb6⟩
        have hc6 := bel_on' hc5 hb6
        clear hb6 hc5
        go_wp2_with fail
        refine (i_StartsN U _ OU.out).mono ?_
        rintro e w7 ⟨rfl, hb7⟩
        have hc7 := bel_on' hc6 hb7
        clear hb7 hc6
        go_wp2_with fail
        cases hc : conjB (dig t)
        · have HC := Lib.hid hc; clear hc
          refine (i_IsConjN t _ OK.out).mono ?_
          rw [HC.out]
          rintro e w8 ⟨rfl, hb8⟩
          have hc8 := bel_on' hc7 hb8
          clear hb8 hc7
          go_wp2_with fail
          go_ret
          exact ⟨rfl, hc8⟩
        · have C1 := Lib.hid (Q9.out hc).1; have C2 := Lib.hid (Q9.out hc).2
          have HC := Lib.hid hc; clear hc
          refine (i_IsConjN t _ OK.out).mono ?_
          rw [HC.out]
          rintro e w8 ⟨rfl, hb8⟩
          have hc8 := bel_on' hc7 hb8
          clear hb8 hc7
          go_wp2_with fail
          refine (i_IsConjN U _ OU.out).mono ?_
          rw [C1.out]
          rintro e w9 ⟨rfl, hb9⟩
          have hc9 := bel_on' hc8 hb9
          clear hb9 hc8
          go_wp2_with fail
          refine (l_dcMeet V R _ OV.out OR.out).mono ?_
          rw [C2.out]
          rintro e wx ⟨rfl, hbx⟩
          have hcx := bel_on' hc9 hbx
          clear hbx hc9
          go_wp2_with fail
          go_ret
          exact ⟨rfl, hcx⟩
theorem own : ownKnob Try.prog.godebug = none := by kernel_rfl
theorem laidOut : laidOutB Try.prog = true := by kernel_rfl
set_option maxRecDepth 100000 in
theorem lifted (os : Os) (started : os.Started) (H : Type) (enc : TypeId × Value → H) :
    ReturnsInHanded {} Try.checked os 11 .any (Rows.fnWhileSpec.pre6 enc Try.prog Try.f11 Rows.fnWhileRow.domain false) (Rows.fnWhileSpec.post enc Try.prog Try.f11 false true false false) := by
  refine returnsInHanded_of_change (C := Try.checked) own started (by kernel_rfl) Try.func11
    (ChangeSpec.witness6 (enc := enc) (C := Try.checked) false ⟨#[], #[.slice none 0 0], []⟩ 8 (by kernel_rfl) (by kernel_rfl) (by kernel_rfl) (by kernel_rfl)) ?_
  intro W base args ds gs before hval0 hW hcnd _
  have hval : ∀ (j : Nat) t v, Try.f11.params[j]? = some t → args[j]? = some v → Value.okWide Try.prog W .any base t v := hval0
  have hW' := hW
  obtain ⟨p, q, hA0, hV, rfl, hfz, hnd⟩ := hW
  have hA : DataW.TrodAll enc Try.prog W 0 (fun _ => true) true Try.f11.params.toList args.toList ds p := hA0
  rw [Try.params11] at hA hval
  obtain ⟨v0, vs0, d0, ds0, p0, q0, hargs, rfl, rfl, h0, r0⟩ := trodAll_cons hA
  obtain ⟨rfl, rfl, rfl⟩ := trodAll_nil r0
  obtain rfl : args = #[v0] := by cases args; simp_all
  obtain ⟨rfl, rfl⟩ := trodVars_none hV
  obtain ⟨a0, len0, cap0, rfl⟩ := okWide_slice Try.underlying22 (hval 0 22 v0 rfl rfl)
  have k0 := h0
  have lt0 : ∀ x ∈ p0, x.block < W.heap.size := by obtain ⟨m, hm⟩ := k0; exact DataW.trod_lt m _ _ _ hm
  obtain ⟨z0, w0⟩ : ∃ zs, IsRow .u8 W a0 len0 cap0 zs := by
    obtain ⟨fuel, hf⟩ := h0
    rcases open_ints Try.underlying22 Try.underlying5 (by kernel_rfl) hf with ⟨hcs, _⟩ | ⟨x, l, c, zs, hcs, _, hl, hm, hz, _, hcell, hwz⟩
    · simp [Value.cells] at hcs
      obtain ⟨rfl, rfl, rfl⟩ := hcs
      exact ⟨[], .inl ⟨rfl, rfl, rfl, rfl⟩⟩
    · simp [Value.cells] at hcs
      obtain ⟨rfl, rfl, rfl⟩ := hcs
      exact ⟨zs, .inr ⟨_, rfl, hl, hm, by simpa using hz, hcell, hwz⟩⟩
  clear hA0 hval0
  refine (law_FnWhile a0 len0 cap0 z0 W w0).mono fun e W' ⟨he, bel⟩ => ?_
  subst he
  exact ⟨_, rfl, _, _, _, [], _, [], hW', trodAll_mk1 (shut_bool Try.underlying4 _), (trodAll_cons_mk (Below.trod laidOut (by kernel_rfl) (of_decide_eq_true (by kernel_rfl)) k0 bel lt0) trodAll_mk0), rfl, bel.frame _, fun h => by cases h⟩
theorem over : Rows.fnWhileRow.holds Try.pinned (OpenSpec.ofChange Rows.fnWhileSpec) :=
  OpenClaim.holds_of_wide 11 Try.f11 rfl rfl rfl rfl rfl rfl rfl ⟨rfl, rfl, rfl, rfl, rfl⟩ rfl rfl rfl rfl rfl (by kernel_rfl) Try.func11 (by kernel_rfl)
    (of_decide_eq_true (by kernel_rfl)) (by unfold Func.isWrapper; rw [if_neg (of_decide_eq_false (by kernel_rfl))]; exact ⟨rfl, rfl⟩)
    (fun os started H enc _ => lifted os started H enc)
/-- The statement. -/
theorem proved : Rows.FnWhileSaid := over
end Go.Proofs.Ytiaeakpgldpaiaa.fnWhile
