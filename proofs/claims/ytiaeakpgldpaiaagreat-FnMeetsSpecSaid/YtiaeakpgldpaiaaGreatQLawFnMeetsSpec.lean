/- A contract meets a specification exactly if it leads from each state of the condition to the states to which that is related: no condition. -/
import Derived.Test.YtiaeakpgldpaiaaGreatRows
import Derived.WalkKit
import Derived.ProofKit
import Derived.OpenShut
import Derived.ShutString
import Derived.ChangeOld
import Derived.Below
import Derived.Test.YtiaeakpgldpaiaaGreatQSpecO
import Derived.Test.YtiaeakpgldpaiaaGreatQImplZ
import Derived.Test.YtiaeakpgldpaiaaGreatQDrawK
import Derived.Test.YtiaeakpgldpaiaaGreatQApp5
import Derived.Test.YtiaeakpgldpaiaaGreatQPlainU
namespace Go.Proofs.YtiaeakpgldpaiaaGreat.fnMeetsSpec
set_option linter.unusedSimpArgs false
set_option linter.unusedVariables false
set_option maxRecDepth 4000
open Go.ChangeShapes Go.WideShapes Go.ChangeAt Go.RowKit
open Go.ChangeMaps (open_string shut_string)
set_option linter.unusedVariables false
/-- Do the first states lead where they should? -/
def gd (n : Nat) (R T : Nat → Nat) : Nat → Bool
  | 0 => true
  | k + 1 => gd n R T k && (!n.testBit k || (T (R k)).testBit k)
theorem gd_iff (n : Nat) (R T : Nat → Nat) : ∀ k, gd n R T k = true ↔ ∀ s, s < k → n.testBit s = true → (T (R s)).testBit s = true
  | 0 => by simp [gd]
  | k + 1 => by
    have ih := gd_iff n R T k
    unfold gd
    rw [Bool.and_eq_true, ih]
    constructor
    · rintro ⟨h1, h2⟩ s hs hn
      by_cases e : s = k
      · subst e; rw [hn] at h2; simpa using h2
      · exact h1 s (by omega) hn
    · intro h
      refine ⟨fun s hs => h s (by omega), ?_⟩
      cases hn : n.testBit k
      · rfl
      · rw [h k (by omega) hn]; rfl
theorem one_imp (k X : Nat) : decide (andn (one k) X = 0) = X.testBit k := by
  rw [Bool.eq_iff_iff, decide_eq_true_iff, show (andn (one k) X = 0) = imp (one k) X from rfl, imp_iff]
  constructor
  · intro h; exact h k (by rw [testBit_one]; exact decide_eq_true rfl)
  · intro h i hi
    rw [testBit_one, decide_eq_true_iff] at hi
    subst hi; exact h
set_option maxHeartbeats 2000000 in
theorem law_FnMeetsSpec (a0 : Option Addr) (len0 cap0 : Nat) (z0 : List Int) (w : World) (w0 : IsRow .u8 w a0 len0 cap0 z0) :
    Calls Tryz.prog 3 #[.slice a0 len0 cap0] w fun e w' => e = .returned (.bool true) ∧ Below w.heap.size w w' := by
  have hin := ByteIn.of_row w0
  by_cases h0 : len0 ≤ 1048576
  rotate_left
  · go_enter Tryz.func3, Tryz.ntmps3
    go_wp2_with fail
    go_ret
    exact ⟨rfl, Below.refl _ _⟩
  go_enter Tryz.func3, Tryz.ntmps3
  go_wp2_with fail
  refine (s_DrawMeetsSpec a0 len0 cap0 _ hin).mono ?_
  rintro e wa ⟨⟨p, r, c, hr, rfl⟩, hca⟩
  have xr : r.size ≤ 1048576 := Nat.le_trans hr (by omega)
  clear hin w0 hr
  go_wp2_with fail
  obtain ⟨bI, hbI⟩ : ∃ bI, bI = (((cvB p && relOk r) && ctOk c) && refB (fSpec p.toNat (dig r)) (ctT c) 16) := ⟨_, rfl⟩
  cases h1 : cvB p
  · have q1 : bI = false := by rw [hbI, h1]; rfl
    subst q1
    have Q1 := Lib.hid hbI.symm; have H1 := Lib.hid h1; clear hbI h1
    refine (i_MeetsSpec p r c _).mono ?_
    rw [Q1.out]
    rintro e wb ⟨rfl, hbb⟩
    have hcb := bel_on' hca hbb
    clear hbb hca
    go_wp2_with fail
    refine (s_MeetsSpec p r c _ xr).mono ?_
    rw [Q1.out]
    rintro e wc ⟨rfl, hbc⟩
    have hcc := bel_on' hcb hbc
    clear hbc hcb
    go_wp2_with fail
    refine (i_ConditionValid p _).mono ?_
    rw [H1.out]
    rintro e w' ⟨rfl, rfl⟩
    go_wp2_with fail
    refine (s_MeetsSpec p r c _ xr).mono ?_
    rw [Q1.out]
    rintro e wd ⟨rfl, hbd⟩
    have hcd := bel_on' hcc hbd
    clear hbd hcc
    go_wp2_with fail
    go_ret
    exact ⟨rfl, hcd⟩
  cases h2 : relOk r
  · have q1 : bI = false := by rw [hbI, h1, h2]; rfl
    subst q1
    have Q1 := Lib.hid hbI.symm; have H1 := Lib.hid h1; have H2 := Lib.hid h2; clear hbI h1 h2
    refine (i_MeetsSpec p r c _).mono ?_
    rw [Q1.out]
    rintro e wb ⟨rfl, hbb⟩
    have hcb := bel_on' hca hbb
    clear hbb hca
    go_wp2_with fail
    refine (s_MeetsSpec p r c _ xr).mono ?_
    rw [Q1.out]
    rintro e wc ⟨rfl, hbc⟩
    have hcc := bel_on' hcb hbc
    clear hbc hcb
    go_wp2_with fail
    refine (i_ConditionValid p _).mono ?_
    rw [H1.out]
    rintro e w' ⟨rfl, rfl⟩
    go_wp2_with fail
    refine (i_RelValid r _).mono ?_
    rw [H2.out]
    rintro e wd ⟨rfl, hbd⟩
    have hcd := bel_on' hcc hbd
    clear hbd hcc
    go_wp2_with fail
    refine (s_MeetsSpec p r c _ xr).mono ?_
    rw [Q1.out]
    rintro e we ⟨rfl, hbe⟩
    have hce := bel_on' hcd hbe
    clear hbe hcd
    go_wp2_with fail
    go_ret
    exact ⟨rfl, hce⟩
  cases h3 : ctOk c
  · have q1 : bI = false := by rw [hbI, h1, h2, h3]; rfl
    subst q1
    have Q1 := Lib.hid hbI.symm; have H1 := Lib.hid h1; have H2 := Lib.hid h2; have H3 := Lib.hid h3; clear hbI h1 h2 h3
    refine (i_MeetsSpec p r c _).mono ?_
    rw [Q1.out]
    rintro e wb ⟨rfl, hbb⟩
    have hcb := bel_on' hca hbb
    clear hbb hca
    go_wp2_with fail
    refine (s_MeetsSpec p r c _ xr).mono ?_
    rw [Q1.out]
    rintro e wc ⟨rfl, hbc⟩
    have hcc := bel_on' hcb hbc
    clear hbc hcb
    go_wp2_with fail
    refine (i_ConditionValid p _).mono ?_
    rw [H1.out]
    rintro e w' ⟨rfl, rfl⟩
    go_wp2_with fail
    refine (i_RelValid r _).mono ?_
    rw [H2.out]
    rintro e wd ⟨rfl, hbd⟩
    have hcd := bel_on' hcc hbd
    clear hbd hcc
    go_wp2_with fail
    refine (i_ContractValid c _).mono ?_
    rw [H3.out]
    rintro e we ⟨rfl, hbe⟩
    have hce := bel_on' hcd hbe
    clear hbe hcd
    go_wp2_with fail
    refine (s_MeetsSpec p r c _ xr).mono ?_
    rw [Q1.out]
    rintro e wf ⟨rfl, hbf⟩
    have hcf := bel_on' hce hbf
    clear hbf hce
    go_wp2_with fail
    go_ret
    exact ⟨rfl, hcf⟩
  · obtain ⟨n, hn, rfl⟩ := (cvB_iff p).1 h1
    have q2 : bI = gd n (dig r) (ctT c) 4 := by
      rw [hbI, h1, h2, h3, Bool.eq_iff_iff, gd_iff]
      show refB (fSpec n (dig r)) (ctT c) 16 = true ↔ _
      rw [meets_iff hn (fun s => dig_lt r s) (ctT_mono c)]
      constructor
      · intro h s _ hs; exact h s hs
      · intro h s hs; exact h s (lt_four hn hs) hs
    have q3 : ∀ k, k < 4 → (((cvB (one k : Int) && cvB (dig r k : Int)) && ctOk c) && decide (andn (one k : Int).toNat (ctT c (dig r k : Int).toNat) = 0)) = (ctT c (dig r k)).testBit k := fun k hk => by
      rw [cvB_nat _ (one_lt hk), cvB_nat _ (dig_lt r k), h3]
      show decide (andn (one k) (ctT c (dig r k)) = 0) = _
      exact one_imp k _
    have q4 : ∀ k, k < 4 → fDia (fTurn (dig r)) (one k) 4 = dig r k := fun k hk => image_one (dig r) hk (dig_lt r k)
    have Q1 := Lib.hid hbI.symm; have Q2 := Lib.hid q2; have Q3 := Lib.hid q3; have Q4 := Lib.hid q4; have H1 := Lib.hid h1; have H2 := Lib.hid h2; have H3 := Lib.hid h3
    clear hbI q2 q3 q4 h1 h2 h3
    refine (i_MeetsSpec n r c _).mono ?_
    rw [Q1.out]
    rintro e wb ⟨rfl, hbb⟩
    have hcb := bel_on' hca hbb
    clear hbb hca
    go_wp2_with fail
    have bb : (bI != bI) = false := by cases bI <;> rfl
    refine (s_MeetsSpec n r c _ xr).mono ?_
    rw [Q1.out]
    rintro e wc ⟨rfl, hbc⟩
    have hcc := bel_on' hcb hbc
    clear hbc hcb
    go_wp2_with fail
    refine (i_ConditionValid n _).mono ?_
    rw [H1.out]
    rintro e w' ⟨rfl, rfl⟩
    go_wp2_with fail
    refine (i_RelValid r _).mono ?_
    rw [H2.out]
    rintro e wd ⟨rfl, hbd⟩
    have hcd := bel_on' hcc hbd
    clear hbd hcc
    go_wp2_with fail
    refine (i_ContractValid c _).mono ?_
    rw [H3.out]
    rintro e we ⟨rfl, hbe⟩
    have hce := bel_on' hcd hbe
    clear hbe hcd
    go_wp2_with fail
    clear bb
    go_loopw [7, 8] (fun g i wr => ∃ (k : Nat) (b : Bool), k ≤ 4 ∧ i = .int .i64 k ∧ g = .bool b ∧ Hid (b = gd n (dig r) (ctT c) k) ∧ Below w.heap.size w wr) (fun _ i _ => 4 - (intOf i).toNat)
    case atStart => exact ⟨0, true, by omega, rfl, rfl, Lib.hid rfl, hce⟩
    case round =>
      clear hce
      obtain ⟨k, b, hk, rfl, rfl, HB, hc0⟩ := hrel
      by_cases hlt : k < 4
      · have hd : decide ((k : Int) < 4) = true := by simp; omega
        have hw := wrap_one (t := k) (by omega)
        have ho := one_lt hlt
        cases ht : n.testBit k
        · have HT := Lib.hid ht; clear ht
          go_wp2_with fail
          refine (i_HasN n k _ hn hlt).mono ?_
          rw [HT.out]
          rintro e w' ⟨rfl, rfl⟩
          go_wp2_with fail
          clear hw
          go_roundw
          case rel => exact ⟨k + 1, b, by omega, by go_num, rfl, Lib.hid (by rw [gd, ← HB.out, HT.out]; cases b <;> rfl), hc0⟩
          case measure => simp [intOf]; omega
        · have HT := Lib.hid ht; clear ht
          cases b
          · go_wp2_with fail
            refine (i_HasN n k _ hn hlt).mono ?_
            rw [HT.out]
            rintro e w' ⟨rfl, rfl⟩
            go_wp2_with fail
            clear hw
            go_roundw
            case rel => exact ⟨k + 1, false, by omega, by go_num, rfl, Lib.hid (by rw [gd, ← HB.out]; rfl), hc0⟩
            case measure => simp [intOf]; omega
          · obtain ⟨b', hb'⟩ : ∃ b', b' = (ctT c (dig r k)).testBit k := ⟨_, rfl⟩
            have HB' := Lib.hid hb'; clear hb'
            go_wp2_with fail
            refine (i_HasN n k _ hn hlt).mono ?_
            rw [HT.out]
            rintro e w' ⟨rfl, rfl⟩
            go_wp2_with fail
            refine (i_ImageN r (one k) _ H2.out ho).mono ?_
            rw [Q4.out k hlt]
            rintro e w1 ⟨rfl, hb1⟩
            have hc1 := bel_on' hc0 hb1
            clear hb1 hc0
            go_wp2_with fail
            refine (i_IsCorrect (one k) c (dig r k) _).mono ?_
            rw [Q3.out k hlt, ← HB'.out]
            rintro e w2 ⟨rfl, hb2⟩
            have hc2 := bel_on' hc1 hb2
            clear hb2 hc1
            go_wp2_with fail
            clear hw
            go_roundw
            case rel => exact ⟨k + 1, b', by omega, by go_num, rfl, Lib.hid (by rw [gd, ← HB.out, HT.out, HB'.out]; rfl), hc2⟩
            case measure => simp [intOf]; omega
      · obtain rfl : k = 4 := by omega
        have he : bI = b := Q2.out.trans HB.out.symm
        subst he
        go_wp2_with fail
        go_ret
        exact ⟨ret_bool (by cases bI <;> rfl), hc0⟩
theorem own : ownKnob Tryz.prog.godebug = none := by kernel_rfl
theorem laidOut : laidOutB Tryz.prog = true := by kernel_rfl
set_option maxRecDepth 100000 in
theorem lifted (os : Os) (started : os.Started) (H : Type) (enc : TypeId × Value → H) :
    ReturnsInHanded {} Tryz.checked os 3 .any (Rows.fnMeetsSpecSpec.pre6 enc Tryz.prog Tryz.f3 Rows.fnMeetsSpecRow.domain false) (Rows.fnMeetsSpecSpec.post enc Tryz.prog Tryz.f3 false true false false) := by
  refine returnsInHanded_of_change (C := Tryz.checked) own started (by kernel_rfl) Tryz.func3
    (ChangeSpec.witness6 (enc := enc) (C := Tryz.checked) false ⟨#[], #[.slice none 0 0], []⟩ 8 (by kernel_rfl) (by kernel_rfl) (by kernel_rfl) (by kernel_rfl)) ?_
  intro W base args ds gs before hval0 hW hcnd _
  have hval : ∀ (j : Nat) t v, Tryz.f3.params[j]? = some t → args[j]? = some v → Value.okWide Tryz.prog W .any base t v := hval0
  have hW' := hW
  obtain ⟨p, q, hA0, hV, rfl, hfz, hnd⟩ := hW
  have hA : DataW.TrodAll enc Tryz.prog W 0 (fun _ => true) true Tryz.f3.params.toList args.toList ds p := hA0
  rw [Tryz.params3] at hA hval
  obtain ⟨v0, vs0, d0, ds0, p0, q0, hargs, rfl, rfl, h0, r0⟩ := trodAll_cons hA
  obtain ⟨rfl, rfl, rfl⟩ := trodAll_nil r0
  obtain rfl : args = #[v0] := by cases args; simp_all
  obtain ⟨rfl, rfl⟩ := trodVars_none hV
  obtain ⟨a0, len0, cap0, rfl⟩ := okWide_slice Tryz.underlying22 (hval 0 22 v0 rfl rfl)
  have k0 := h0
  have lt0 : ∀ x ∈ p0, x.block < W.heap.size := by obtain ⟨m, hm⟩ := k0; exact DataW.trod_lt m _ _ _ hm
  obtain ⟨z0, w0⟩ : ∃ zs, IsRow .u8 W a0 len0 cap0 zs := by
    obtain ⟨fuel, hf⟩ := h0
    rcases open_ints Tryz.underlying22 Tryz.underlying5 (by kernel_rfl) hf with ⟨hcs, _⟩ | ⟨x, l, c, zs, hcs, _, hl, hm, hz, _, hcell, hwz⟩
    · simp [Value.cells] at hcs
      obtain ⟨rfl, rfl, rfl⟩ := hcs
      exact ⟨[], .inl ⟨rfl, rfl, rfl, rfl⟩⟩
    · simp [Value.cells] at hcs
      obtain ⟨rfl, rfl, rfl⟩ := hcs
      exact ⟨zs, .inr ⟨_, rfl, hl, hm, by simpa using hz, hcell, hwz⟩⟩
  clear hA0 hval0
  refine (law_FnMeetsSpec a0 len0 cap0 z0 W w0).mono fun e W' ⟨he, bel⟩ => ?_
  subst he
  exact ⟨_, rfl, _, _, _, [], _, [], hW', trodAll_mk1 (shut_bool Tryz.underlying4 _), (trodAll_cons_mk (Below.trod laidOut (by kernel_rfl) (of_decide_eq_true (by kernel_rfl)) k0 bel lt0) trodAll_mk0), rfl, bel.frame _, fun h => by cases h⟩
theorem over : Rows.fnMeetsSpecRow.holds Tryz.pinned (OpenSpec.ofChange Rows.fnMeetsSpecSpec) :=
  OpenClaim.holds_of_wide 3 Tryz.f3 rfl rfl rfl rfl rfl rfl rfl ⟨rfl, rfl, rfl, rfl, rfl⟩ rfl rfl rfl rfl rfl (by kernel_rfl) Tryz.func3 (by kernel_rfl)
    (of_decide_eq_true (by kernel_rfl)) (by unfold Func.isWrapper; rw [if_neg (of_decide_eq_false (by kernel_rfl))]; exact ⟨rfl, rfl⟩)
    (fun os started H enc _ => lifted os started H enc)
/-- The statement. -/
theorem proved : Rows.FnMeetsSpecSaid := over
end Go.Proofs.YtiaeakpgldpaiaaGreat.fnMeetsSpec
