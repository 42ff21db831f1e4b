/- Stars are choices of a few repetitions, idempotent and dual: no condition. -/
import Derived.Test.YtiaeakpgldpaiaaRows
import Derived.WalkKit
import Derived.ProofKit
import Derived.OpenShut
import Derived.ShutString
import Derived.ChangeOld
import Derived.Below
import Derived.Test.YtiaeakpgldpaiaaSpecE
import Derived.Test.YtiaeakpgldpaiaaImplJ
import Derived.Test.YtiaeakpgldpaiaaImplF
import Derived.Test.YtiaeakpgldpaiaaDrawF
import Derived.Test.YtiaeakpgldpaiaaPlainS
namespace Go.Proofs.Ytiaeakpgldpaiaa.fnStars
set_option linter.unusedSimpArgs false
set_option linter.unusedVariables false
set_option maxRecDepth 4000
open Go.ChangeShapes Go.WideShapes Go.ChangeAt Go.RowKit
open Go.ChangeMaps (open_string shut_string)
set_option linter.unusedVariables false
set_option maxHeartbeats 2000000 in
theorem law_FnStars (a0 : Option Addr) (len0 cap0 : Nat) (z0 : List Int) (w : World) (w0 : IsRow .u8 w a0 len0 cap0 z0) :
    Calls Try.prog 6 #[.slice a0 len0 cap0] w fun e w' => e = .returned (.bool true) ∧ Below w.heap.size w w' := by
  have hin := ByteIn.of_row w0
  by_cases h0 : len0 ≤ 1048576
  rotate_left
  · go_enter Try.func6, Try.ntmps6
    go_wp2_with fail
    go_ret
    exact ⟨rfl, Below.refl _ _⟩
  go_enter Try.func6, Try.ntmps6
  go_wp2_with fail
  refine (s_DrawAngelStar a0 len0 cap0 _ hin).mono ?_
  rintro e wa ⟨⟨t, ht, rfl⟩, hca⟩
  have hts : t.size ≤ 1048576 := Nat.le_trans ht (by omega)
  clear hin w0 ht
  go_wp2_with fail
  cases hok : trOk t
  · have HOK := Lib.hid hok; clear hok
    refine (i_AngelStar t _).mono ?_
    rw [HOK.out]
    rintro e wb ⟨rfl, hbb⟩
    have hcb := bel_on' hca hbb
    clear hbb hca
    go_wp2_with fail
    refine (s_AngelStar t _ hts).mono ?_
    rw [HOK.out]
    rintro e w' ⟨rfl, rfl⟩
    go_wp2_with fail
    refine (i_DemonStar t _).mono ?_
    rw [HOK.out]
    rintro e wc ⟨rfl, hbc⟩
    have hcc := bel_on' hcb hbc
    clear hbc hcb
    go_wp2_with fail
    refine (s_DemonStar t _ hts).mono ?_
    rw [HOK.out]
    rintro e w' ⟨rfl, rfl⟩
    go_wp2_with fail
    go_ret
    exact ⟨rfl, hcc⟩
  · have hm := dig_mono hok
    have hb := dig_bd t
    obtain ⟨P, hP⟩ : ∃ P, P = txt 16 (fun q => lfp (eqO (dig t) q)) := ⟨_, rfl⟩
    obtain ⟨S, hS⟩ : ∃ S, S = txt 16 (fun q => gfp (eqA (dig t) q)) := ⟨_, rfl⟩
    obtain ⟨E, hE⟩ : ∃ E, E = txt 16 (fDual (dig t)) := ⟨_, rfl⟩
    have oE : trOk E = true := by rw [hE]; exact fDual_ok hok
    have hDE : ∀ p, p < 16 → dig E p = fDual (dig t) p := fun p hp => by rw [hE, dig_txt (fDual_bd _) p hp]
    obtain ⟨D, hD⟩ : ∃ D, D = txt 16 (fun q => gfp (eqA (dig E) q)) := ⟨_, rfl⟩
    have oP : trOk P = true := by rw [hP]; exact trOk_txt (aS_bd hb) (aS_mono hb hm)
    have oS : trOk S = true := by rw [hS]; exact trOk_txt (dS_bd _) (dS_mono hb hm)
    have oD : trOk D = true := by rw [hD]; exact trOk_txt (dS_bd _) (dS_mono (dig_bd E) (dig_mono oE))
    have dP : ∀ q, q < 16 → dig P q = lfp (eqO (dig t) q) := fun q hq => by rw [hP, dig_txt (aS_bd hb) q hq]
    have dS : ∀ q, q < 16 → dig S q = gfp (eqA (dig t) q) := fun q hq => by rw [hS, dig_txt (dS_bd _) q hq]
    have dD : ∀ q, q < 16 → dig D q = gfp (eqA (dig E) q) := fun q hq => by rw [hD, dig_txt (dS_bd _) q hq]
    have q1 : (#[Value.string (optS (trOk t) (txt 16 (fun q => lfp (eqO (dig t) q)))), .bool (trOk t)] : Array Value) = #[.string P, .bool true] := by rw [hok, hP]; rfl
    have q2 : (#[Value.string (optS (trOk t) (txt 16 (fun q => gfp (eqA (dig t) q)))), .bool (trOk t)] : Array Value) = #[.string S, .bool true] := by rw [hok, hS]; rfl
    have q3 : ∀ k : Nat, k < 16 → optI (trOk t && cvB (k : Int)) (lfp (eqO (dig t) (k : Int).toNat)) = (dig P k : Int) := fun k hk => by rw [hok, cvB_nat k hk, dP k hk]; rfl
    have q4 : ∀ k : Nat, k < 16 → optI (trOk t && cvB (k : Int)) (gfp (eqA (dig t) (k : Int).toNat)) = (dig S k : Int) := fun k hk => by rw [hok, cvB_nat k hk, dS k hk]; rfl
    have q5 : (#[Value.string (optS (trOk E) (txt 16 (fun q => gfp (eqA (dig E) q)))), .bool (trOk E)] : Array Value) = #[.string D, .bool true] := by rw [oE, hD]; rfl
    have q6 : txt 16 (pwO (dig t) 6) = P := by rw [hP]; exact txt_congr fun q hq => star_six hb hm hq
    have q7 : txt 16 (pwA (dig t) 6) = S := by rw [hS]; exact txt_congr fun q hq => each_six hb hm hq
    have q8 : txt 16 (fun p => dig P (dig P p)) = P := by
      refine Eq.trans (txt_congr fun q hq => ?_) hP.symm
      rw [dP _ (dig_lt _ _), dP q hq, lfp_or_again hb hm hq]
    have q9 : txt 16 (fun p => dig S (dig S p)) = S := by
      refine Eq.trans (txt_congr fun q hq => ?_) hS.symm
      rw [dS _ (dig_lt _ _), dS q hq, gfp_and_again hb hm hq]
    have q10 : txt 16 (fDual (dig D)) = P := by
      rw [hP]
      refine txt_congr fun p hp => ?_
      show andn 15 (dig D (andn 15 p)) = _
      rw [dD _ (andn_lt (by omega)), dS_dual hb hm hDE hp]
    have q11 : refB (dig S) (dig ⟨#[48, 49, 50, 51, 52, 53, 54, 55, 56, 57, 97, 98, 99, 100, 101, 102]⟩) 16 = true := (refB_iff _ _ _).2 fun i hi => by
      rw [dS i hi, skip_dig i hi]; exact dS_below hb hm hi
    have q12 : refB (dig ⟨#[48, 49, 50, 51, 52, 53, 54, 55, 56, 57, 97, 98, 99, 100, 101, 102]⟩) (dig P) 16 = true := (refB_iff _ _ _).2 fun i hi => by
      rw [dP i hi, skip_dig i hi]; exact aS_above hb hm hi
    have q13 : refB (dig t) (dig P) 16 = true := (refB_iff _ _ _).2 fun i hi => by
      rw [dP i hi]; exact aS_step hb hm hi
    have q14 : refB (dig S) (dig t) 16 = true := (refB_iff _ _ _).2 fun i hi => by
      rw [dS i hi]; exact dS_step hb hm hi
    have Q1 := Lib.hid q1; have Q2 := Lib.hid q2; have Q3 := Lib.hid q3; have Q4 := Lib.hid q4; have Q5 := Lib.hid q5; have Q6 := Lib.hid q6; have Q7 := Lib.hid q7; have Q8 := Lib.hid q8; have Q9 := Lib.hid q9; have Q10 := Lib.hid q10; have Q11 := Lib.hid q11; have Q12 := Lib.hid q12; have Q13 := Lib.hid q13; have Q14 := Lib.hid q14
    have OK := Lib.hid hok; have OP := Lib.hid oP; have OS := Lib.hid oS; have OD := Lib.hid oD; have HE := Lib.hid hE
    clear q1 q2 q3 q4 q5 q6 q7 q8 q9 q10 q11 q12 q13 q14 hok oP oS oD oE hE hP hS hD hDE dP dS dD hm hb
    refine (i_AngelStar t _).mono ?_
    rw [Q1.out]
    rintro e wb ⟨rfl, hbb⟩
    have hcb := bel_on' hca hbb
    clear hbb hca
    go_wp2_with fail
    refine (s_AngelStar t _ hts).mono ?_
    rw [Q1.out]
    rintro e w' ⟨rfl, rfl⟩
    go_wp2_with fail
    refine (i_DemonStar t _).mono ?_
    rw [Q2.out]
    rintro e wc ⟨rfl, hbc⟩
    have hcc := bel_on' hcb hbc
    clear hbc hcb
    go_wp2_with fail
    refine (s_DemonStar t _ hts).mono ?_
    rw [Q2.out]
    rintro e w' ⟨rfl, rfl⟩
    go_wp2_with fail
    go_loopw [12] (fun i wr => ∃ k : Nat, k ≤ 16 ∧ i = .int .i64 k ∧ Below w.heap.size w wr) (fun i _ => 16 - (intOf i).toNat)
    case atStart => exact ⟨0, by omega, rfl, hcc⟩
    case round =>
      obtain ⟨k, hk, rfl, hc0⟩ := hrel
      by_cases hlt : k < 16
      · have hd : decide ((k : Int) < 16) = true := by simp; omega
        go_wp2_with fail
        refine (i_ApplyN P k _ OP.out hlt).mono ?_
        rintro e w1 ⟨rfl, hb1⟩
        have hc1 := bel_on' hc0 hb1
        clear hb1 hc0
        go_wp2_with fail
        refine (i_LeastFrom t k _).mono ?_
        rw [Q3.out k hlt]
        rintro e w2 ⟨rfl, hb2⟩
        have hc2 := bel_on' hc1 hb2
        clear hb2 hc1
        go_wp2_with fail
        refine (i_ApplyN S k _ OS.out hlt).mono ?_
        rintro e w3 ⟨rfl, hb3⟩
        have hc3 := bel_on' hc2 hb3
        clear hb3 hc2
        go_wp2_with fail
        refine (i_GreatestIn t k _).mono ?_
        rw [Q4.out k hlt]
        rintro e w4 ⟨rfl, hb4⟩
        have hc4 := bel_on' hc3 hb4
        clear hb4 hc3
        go_wp2_with fail
        go_roundw
        case rel => exact ⟨k + 1, by omega, by go_num, hc4⟩
        case measure => simp [intOf]; omega
      · obtain rfl : k = 16 := by omega
        rw [show ((16 : Nat) : Int) = 16 from rfl]
        go_wp2_with fail
        go_loopw [13, 14, 15] (fun po ea i wr => ∃ j : Nat, j ≤ 6 ∧ i = .int .i64 j ∧ po = .string (txt 16 (pwO (dig t) j)) ∧ ea = .string (txt 16 (pwA (dig t) j)) ∧ Below w.heap.size w wr) (fun _ _ i _ => 6 - (intOf i).toNat)
        case atStart => exact ⟨0, by omega, rfl, by rw [← skip_txtO], by rw [← skip_txtA], hc0⟩
        case round =>
          clear hc0
          obtain ⟨j, hj, rfl, rfl, rfl, hc0⟩ := hrel
          by_cases hlj : j < 6
          · have hd : decide ((j : Int) < 6) = true := by simp; omega
            go_wp2_with fail
            refine (l_dcThen t (txt 16 (pwO (dig t) j)) _ OK.out (pwO_ok OK.out j)).mono ?_
            rintro e w1 ⟨rfl, hb1⟩
            have hc1 := bel_on' hc0 hb1
            clear hb1 hc0
            go_wp2_with fail
            refine (l_dcJoin ⟨#[48, 49, 50, 51, 52, 53, 54, 55, 56, 57, 97, 98, 99, 100, 101, 102]⟩ _ _ skip_ok (then_ok OK.out (pwO_ok OK.out j))).mono ?_
            rw [pwO_step t j]
            rintro e w2 ⟨rfl, hb2⟩
            have hc2 := bel_on' hc1 hb2
            clear hb2 hc1
            go_wp2_with fail
            refine (l_dcThen t (txt 16 (pwA (dig t) j)) _ OK.out (pwA_ok OK.out j)).mono ?_
            rintro e w3 ⟨rfl, hb3⟩
            have hc3 := bel_on' hc2 hb3
            clear hb3 hc2
            go_wp2_with fail
            refine (l_dcMeet ⟨#[48, 49, 50, 51, 52, 53, 54, 55, 56, 57, 97, 98, 99, 100, 101, 102]⟩ _ _ skip_ok (then_ok OK.out (pwA_ok OK.out j))).mono ?_
            rw [pwA_step t j]
            rintro e w4 ⟨rfl, hb4⟩
            have hc4 := bel_on' hc3 hb4
            clear hb4 hc3
            go_wp2_with fail
            go_roundw
            case rel => exact ⟨j + 1, by omega, by go_num, rfl, rfl, hc4⟩
            case measure => simp [intOf]; omega
          · obtain rfl : j = 6 := by omega
            rw [Q6.out, Q7.out]
            go_wp2_with fail
            refine (l_dcDual t _ OK.out).mono ?_
            rw [← HE.out]
            rintro e w1 ⟨rfl, hb1⟩
            have hc1 := bel_on' hc0 hb1
            clear hb1 hc0
            go_wp2_with fail
            refine (i_DemonStar E _).mono ?_
            rw [Q5.out]
            rintro e w2 ⟨rfl, hb2⟩
            have hc2 := bel_on' hc1 hb2
            clear hb2 hc1
            go_wp2_with fail
            refine (l_dcThen P P _ OP.out OP.out).mono ?_
            rw [Q8.out]
            rintro e w3 ⟨rfl, hb3⟩
            have hc3 := bel_on' hc2 hb3
            clear hb3 hc2
            go_wp2_with fail
            refine (l_dcThen S S _ OS.out OS.out).mono ?_
            rw [Q9.out]
            rintro e w4 ⟨rfl, hb4⟩
            have hc4 := bel_on' hc3 hb4
            clear hb4 hc3
            go_wp2_with fail
            refine (l_dcDual D _ OD.out).mono ?_
            rw [Q10.out]
            rintro e w5 ⟨rfl, hb5⟩
            have hc5 := bel_on' hc4 hb5
            clear hb5 hc4
            go_wp2_with fail
            refine (i_RefinesN S ⟨#[48, 49, 50, 51, 52, 53, 54, 55, 56, 57, 97, 98, 99, 100, 101, 102]⟩ _ OS.out skip_ok).mono ?_
            rw [Q11.out]
            rintro e w6 ⟨rfl, hb6⟩
            have hc6 := bel_on' hc5 hb6
            clear hb6 hc5
            go_wp2_with fail
            refine (i_RefinesN ⟨#[48, 49, 50, 51, 52, 53, 54, 55, 56, 57, 97, 98, 99, 100, 101, 102]⟩ P _ skip_ok OP.out).mono ?_
            rw [Q12.out]
            rintro e w7 ⟨rfl, hb7⟩
            have hc7 := bel_on' hc6 hb7
            clear hb7 hc6
            go_wp2_with fail
            refine (i_RefinesN t P _ OK.out OP.out).mono ?_
            rw [Q13.out]
            rintro e w8 ⟨rfl, hb8⟩
            have hc8 := bel_on' hc7 hb8
            clear hb8 hc7
            go_wp2_with fail
            refine (i_RefinesN S t _ OS.out OK.out).mono ?_
            rw [Q14.out]
            rintro e w9 ⟨rfl, hb9⟩
            have hc9 := bel_on' hc8 hb9
            clear hb9 hc8
            go_wp2_with fail
            go_ret
            exact ⟨rfl, hc9⟩
theorem own : ownKnob Try.prog.godebug = none := by kernel_rfl
theorem laidOut : laidOutB Try.prog = true := by kernel_rfl
set_option maxRecDepth 100000 in
theorem lifted (os : Os) (started : os.Started) (H : Type) (enc : TypeId × Value → H) :
    ReturnsInHanded {} Try.checked os 6 .any (Rows.fnStarsSpec.pre6 enc Try.prog Try.f6 Rows.fnStarsRow.domain false) (Rows.fnStarsSpec.post enc Try.prog Try.f6 false true false false) := by
  refine returnsInHanded_of_change (C := Try.checked) own started (by kernel_rfl) Try.func6
    (ChangeSpec.witness6 (enc := enc) (C := Try.checked) false ⟨#[], #[.slice none 0 0], []⟩ 8 (by kernel_rfl) (by kernel_rfl) (by kernel_rfl) (by kernel_rfl)) ?_
  intro W base args ds gs before hval0 hW hcnd _
  have hval : ∀ (j : Nat) t v, Try.f6.params[j]? = some t → args[j]? = some v → Value.okWide Try.prog W .any base t v := hval0
  have hW' := hW
  obtain ⟨p, q, hA0, hV, rfl, hfz, hnd⟩ := hW
  have hA : DataW.TrodAll enc Try.prog W 0 (fun _ => true) true Try.f6.params.toList args.toList ds p := hA0
  rw [Try.params6] at hA hval
  obtain ⟨v0, vs0, d0, ds0, p0, q0, hargs, rfl, rfl, h0, r0⟩ := trodAll_cons hA
  obtain ⟨rfl, rfl, rfl⟩ := trodAll_nil r0
  obtain rfl : args = #[v0] := by cases args; simp_all
  obtain ⟨rfl, rfl⟩ := trodVars_none hV
  obtain ⟨a0, len0, cap0, rfl⟩ := okWide_slice Try.underlying22 (hval 0 22 v0 rfl rfl)
  have k0 := h0
  have lt0 : ∀ x ∈ p0, x.block < W.heap.size := by obtain ⟨m, hm⟩ := k0; exact DataW.trod_lt m _ _ _ hm
  obtain ⟨z0, w0⟩ : ∃ zs, IsRow .u8 W a0 len0 cap0 zs := by
    obtain ⟨fuel, hf⟩ := h0
    rcases open_ints Try.underlying22 Try.underlying5 (by kernel_rfl) hf with ⟨hcs, _⟩ | ⟨x, l, c, zs, hcs, _, hl, hm, hz, _, hcell, hwz⟩
    · simp [Value.cells] at hcs
      obtain ⟨rfl, rfl, rfl⟩ := hcs
      exact ⟨[], .inl ⟨rfl, rfl, rfl, rfl⟩⟩
    · simp [Value.cells] at hcs
      obtain ⟨rfl, rfl, rfl⟩ := hcs
      exact ⟨zs, .inr ⟨_, rfl, hl, hm, by simpa using hz, hcell, hwz⟩⟩
  clear hA0 hval0
  refine (law_FnStars a0 len0 cap0 z0 W w0).mono fun e W' ⟨he, bel⟩ => ?_
  subst he
  exact ⟨_, rfl, _, _, _, [], _, [], hW', trodAll_mk1 (shut_bool Try.underlying4 _), (trodAll_cons_mk (Below.trod laidOut (by kernel_rfl) (of_decide_eq_true (by kernel_rfl)) k0 bel lt0) trodAll_mk0), rfl, bel.frame _, fun h => by cases h⟩
theorem over : Rows.fnStarsRow.holds Try.pinned (OpenSpec.ofChange Rows.fnStarsSpec) :=
  OpenClaim.holds_of_wide 6 Try.f6 rfl rfl rfl rfl rfl rfl rfl ⟨rfl, rfl, rfl, rfl, rfl⟩ rfl rfl rfl rfl rfl (by kernel_rfl) Try.func6 (by kernel_rfl)
    (of_decide_eq_true (by kernel_rfl)) (by unfold Func.isWrapper; rw [if_neg (of_decide_eq_false (by kernel_rfl))]; exact ⟨rfl, rfl⟩)
    (fun os started H enc _ => lifted os started H enc)
/-- The statement. -/
theorem proved : Rows.FnStarsSaid := over
end Go.Proofs.Ytiaeakpgldpaiaa.fnStars
