/- The transformer of two specifications' meeting is the least conjunctive one above both, and a conjunctive contract meets it exactly if it meets both: no condition. -/
import Derived.Test.YtiaeakpgldpaiaaRows
import Derived.WalkKit
import Derived.ProofKit
import Derived.OpenShut
import Derived.ShutString
import Derived.ChangeOld
import Derived.Below
import Derived.Test.YtiaeakpgldpaiaaQSpecO
import Derived.Test.YtiaeakpgldpaiaaQSpecD
import Derived.Test.YtiaeakpgldpaiaaQImplZ
import Derived.Test.YtiaeakpgldpaiaaQImplG
import Derived.Test.YtiaeakpgldpaiaaQDrawK
import Derived.Test.YtiaeakpgldpaiaaQApp6
import Derived.Test.YtiaeakpgldpaiaaQPlainU
namespace Go.Proofs.Ytiaeakpgldpaiaa.fnSpecMeet
set_option linter.unusedSimpArgs false
set_option linter.unusedVariables false
set_option maxRecDepth 4000
open Go.ChangeShapes Go.WideShapes Go.ChangeAt Go.RowKit
open Go.ChangeMaps (open_string shut_string)
set_option linter.unusedVariables false
set_option maxHeartbeats 4000000 in
theorem law_FnSpecMeet (a0 : Option Addr) (len0 cap0 : Nat) (z0 : List Int) (a1 : Option Addr) (len1 cap1 : Nat) (z1 : List Int) (w : World) (w0 : IsRow .u8 w a0 len0 cap0 z0) (w1 : IsRow .u8 w a1 len1 cap1 z1) :
    Calls Try.prog 3 #[.slice a0 len0 cap0, .slice a1 len1 cap1] w fun e w' => e = .returned (.bool true) ∧ Below w.heap.size w w' := by
  have hin := ByteIn.of_row w0
  have hin1 := ByteIn.of_row w1
  by_cases h0 : len0 ≤ 1048576
  rotate_left
  · go_enter Try.func3, Try.ntmps3
    go_wp2_with fail
    go_ret
    exact ⟨rfl, Below.refl _ _⟩
  by_cases h1 : len1 ≤ 1048576
  rotate_left
  · go_enter Try.func3, Try.ntmps3
    go_wp2_with fail
    go_ret
    exact ⟨rfl, Below.refl _ _⟩
  go_enter Try.func3, Try.ntmps3
  go_wp2_with fail
  refine (s_DrawSpecMeet a0 len0 cap0 _ hin).mono ?_
  rintro e wa ⟨⟨p, r, q, s, ⟨hr, hs⟩, rfl⟩, hca⟩
  have xr : r.size ≤ 1048576 := Nat.le_trans hr (by omega)
  have xs : s.size ≤ 1048576 := Nat.le_trans hs (by omega)
  have HIN1 := Lib.hid hin1
  clear hin hin1 w0 w1 hr hs
  go_wp2_with fail
  cases hok : ((cvB p && relOk r) && (cvB q && relOk s))
  · have q1 : (#[Value.int .i64 ((if (cvB p && relOk r) && (cvB q && relOk s) then p.toNat ||| q.toNat else 0 : Nat) : Int), .string (optS ((cvB p && relOk r) && (cvB q && relOk s)) (txt 4 (fMeetRel p.toNat q.toNat (dig r) (dig s)))), .bool ((cvB p && relOk r) && (cvB q && relOk s))] : Array Value) = #[.int .i64 0, .string ⟨#[]⟩, .bool false] := by rw [hok]; rfl
    have Q1 := Lib.hid q1; clear q1 hok
    refine (i_SpecMeet p r q s _).mono ?_
    rw [Q1.out]
    rintro e wb ⟨rfl, hbb⟩
    have hcb := bel_on' hca hbb
    clear hbb hca
    go_wp2_with fail
    refine (s_SpecMeet p r q s _ xr xs).mono ?_
    rw [Q1.out]
    rintro e w' ⟨rfl, rfl⟩
    go_wp2_with fail
    go_ret
    exact ⟨rfl, hcb⟩
  · have g := hok
    simp only [Bool.and_eq_true] at g
    obtain ⟨⟨hcp, hkr⟩, hcq, hks⟩ := g
    obtain ⟨n, hn, rfl⟩ := (cvB_iff p).1 hcp
    obtain ⟨m, hm, rfl⟩ := (cvB_iff q).1 hcq
    have gR : ∀ i, dig r i < 16 := fun i => dig_lt r i
    have gS : ∀ i, dig s i < 16 := fun i => dig_lt s i
    obtain ⟨K, hK⟩ : ∃ K, K = (n ||| m) := ⟨_, rfl⟩
    have hK16 : K < 16 := by rw [hK]; exact or_lt hn hm
    have hA : ∀ i, fMeetRel n m (dig r) (dig s) i < 16 := fun i => by
      unfold fMeetRel
      split
      · exact and_lt (gR i)
      · split
        · exact gR i
        · split
          · exact gS i
          · omega
    obtain ⟨A, hAt⟩ : ∃ A, A = txt 4 (fMeetRel n m (dig r) (dig s)) := ⟨_, rfl⟩
    have oA : relOk A = true := by rw [hAt]; exact relOk_txt fun i _ => hA i
    have dA : ∀ i, i < 4 → dig A i = fMeetRel n m (dig r) (dig s) i := fun i hi => by rw [hAt, txt_dig 4 _ i hi (hA i)]
    obtain ⟨T, hT⟩ : ∃ T, T = txt 16 (fSpec n (dig r)) := ⟨_, rfl⟩
    obtain ⟨U, hU⟩ : ∃ U, U = txt 16 (fSpec m (dig s)) := ⟨_, rfl⟩
    obtain ⟨V, hV⟩ : ∃ V, V = txt 16 (fSpec K (dig A)) := ⟨_, rfl⟩
    have oT : trOk T = true := by rw [hT]; exact trOk_txt (fun x _ => fSpec_lt hn x) (fSpec_mono _ _)
    have oU : trOk U = true := by rw [hU]; exact trOk_txt (fun x _ => fSpec_lt hm x) (fSpec_mono _ _)
    have dT : ∀ x, x < 16 → dig T x = fSpec n (dig r) x := fun x hx => by rw [hT, dig_txt (fun x _ => fSpec_lt hn x) x hx]
    have dU : ∀ x, x < 16 → dig U x = fSpec m (dig s) x := fun x hx => by rw [hU, dig_txt (fun x _ => fSpec_lt hm x) x hx]
    obtain ⟨J, hJ⟩ : ∃ J, J = txt 16 (fun x => dig T x ||| dig U x) := ⟨_, rfl⟩
    have bJ : Bd (fun x => dig T x ||| dig U x) := fun x _ => or_lt (dig_lt _ _) (dig_lt _ _)
    have oJ : trOk J = true := by rw [hJ]; exact trOk_txt bJ (fun x y hx hy h => imp_or (dig_mono oT x y hx hy h) (dig_mono oU x y hx hy h))
    have dJ : ∀ x, x < 16 → dig J x = (fSpec n (dig r) x ||| fSpec m (dig s) x) := fun x hx => by rw [hJ, dig_txt bJ x hx, dT x hx, dU x hx]
    have q1 : (#[Value.int .i64 ((if (cvB (n : Int) && relOk r) && (cvB (m : Int) && relOk s) then (n : Int).toNat ||| (m : Int).toNat else 0 : Nat) : Int), .string (optS ((cvB (n : Int) && relOk r) && (cvB (m : Int) && relOk s)) (txt 4 (fMeetRel (n : Int).toNat (m : Int).toNat (dig r) (dig s)))), .bool ((cvB (n : Int) && relOk r) && (cvB (m : Int) && relOk s))] : Array Value) = #[.int .i64 (K : Int), .string A, .bool true] := by
      rw [hok, hAt, hK]; rfl
    have q2 : (#[Value.string (optS (cvB (n : Int) && relOk r) (txt 16 (fSpec (n : Int).toNat (dig r)))), .bool (cvB (n : Int) && relOk r)] : Array Value) = #[.string T, .bool true] := by rw [hcp, hkr, hT]; rfl
    have q3 : (#[Value.string (optS (cvB (m : Int) && relOk s) (txt 16 (fSpec (m : Int).toNat (dig s)))), .bool (cvB (m : Int) && relOk s)] : Array Value) = #[.string U, .bool true] := by rw [hcq, hks, hU]; rfl
    have q4 : (#[Value.string (optS (cvB (K : Int) && relOk A) (txt 16 (fSpec (K : Int).toNat (dig A)))), .bool (cvB (K : Int) && relOk A)] : Array Value) = #[.string V, .bool true] := by rw [cvB_nat K hK16, oA, hV]; rfl
    have q5 : (#[Value.string (optS (trOk J) (txt 16 (fSpec (dig J 15) (fun s => fLead (dig J) s 16)))), .bool (trOk J)] : Array Value) = #[.string V, .bool true] := by
      rw [oJ, hV]
      show #[Value.string (txt 16 (fSpec (dig J 15) (fun s => fLead (dig J) s 16))), Value.bool true] = _
      rw [txt_congr (G := fSpec K (dig A)) fun x hx => by rw [fSpec_congr dA x, hK]; exact meet_above hn hm gR gS dJ x hx]
    have q6 : ((cvB (K : Int) && relOk A) && (cvB (n : Int) && relOk r) && (decide (andn (n : Int).toNat (K : Int).toNat = 0) && fWithin (n : Int).toNat (dig A) (dig r) 4)) = true := by
      rw [cvB_nat K hK16, oA, hcp, hkr]
      show weakB K (dig A) n (dig r) = true
      rw [weakB_congr dA, hK]; exact meet_left hn hm gR gS
    have q7 : ((cvB (K : Int) && relOk A) && (cvB (m : Int) && relOk s) && (decide (andn (m : Int).toNat (K : Int).toNat = 0) && fWithin (m : Int).toNat (dig A) (dig s) 4)) = true := by
      rw [cvB_nat K hK16, oA, hcq, hks]
      show weakB K (dig A) m (dig s) = true
      rw [weakB_congr dA, hK]; exact meet_right hn hm gR gS
    have q8 : ∀ c, (ctOk c && conjB (ctT c)) = true → (((cvB (K : Int) && relOk A) && ctOk c) && refB (fSpec (K : Int).toNat (dig A)) (ctT c) 16) = ((((cvB (n : Int) && relOk r) && ctOk c) && refB (fSpec (n : Int).toNat (dig r)) (ctT c) 16) && (((cvB (m : Int) && relOk s) && ctOk c) && refB (fSpec (m : Int).toNat (dig s)) (ctT c) 16)) := fun c hc => by
      rw [Bool.and_eq_true] at hc
      rw [cvB_nat K hK16, oA, hcp, hkr, hcq, hks, hc.1]
      show refB (fSpec K (dig A)) (ctT c) 16 = (refB (fSpec n (dig r)) (ctT c) 16 && refB (fSpec m (dig s)) (ctT c) 16)
      rw [refB_congr (fun i _ => fSpec_congr dA i) (fun i _ => rfl), hK]
      exact meet_both (ctT_bd c) (ctT_mono c) ((conjB_iff _).1 hc.2) hn hm gR gS
    have Q1 := Lib.hid q1; have Q2 := Lib.hid q2; have Q3 := Lib.hid q3; have Q4 := Lib.hid q4; have Q5 := Lib.hid q5; have Q6 := Lib.hid q6; have Q7 := Lib.hid q7; have Q8 := Lib.hid q8
    have OT := Lib.hid oT; have OU := Lib.hid oU; have HJ := Lib.hid hJ
    clear q1 q2 q3 q4 q5 q6 q7 q8 oT oU oJ oA hT hU hV hJ hAt hK dA dT dU dJ bJ hA gR gS hcp hkr hcq hks hok
    refine (i_SpecMeet n r m s _).mono ?_
    rw [Q1.out]
    rintro e wb ⟨rfl, hbb⟩
    have hcb := bel_on' hca hbb
    clear hbb hca
    go_wp2_with fail
    refine (s_SpecMeet n r m s _ xr xs).mono ?_
    rw [Q1.out]
    rintro e w' ⟨rfl, rfl⟩
    go_wp2_with fail
    refine (i_SpecTrans n r _).mono ?_
    rw [Q2.out]
    rintro e wc ⟨rfl, hbc⟩
    have hcc := bel_on' hcb hbc
    clear hbc hcb
    go_wp2_with fail
    refine (i_SpecTrans m s _).mono ?_
    rw [Q3.out]
    rintro e wd ⟨rfl, hbd⟩
    have hcd := bel_on' hcc hbd
    clear hbd hcc
    go_wp2_with fail
    refine (i_SpecTrans K A _).mono ?_
    rw [Q4.out]
    rintro e we ⟨rfl, hbe⟩
    have hce := bel_on' hcd hbe
    clear hbe hcd
    go_wp2_with fail
    refine (l_dcJoin T U _ OT.out OU.out).mono ?_
    rw [← HJ.out]
    rintro e wf ⟨rfl, hbf⟩
    have hcf := bel_on' hce hbf
    clear hbf hce
    go_wp2_with fail
    refine (i_DemonAbove J _).mono ?_
    rw [Q5.out]
    rintro e wg ⟨rfl, hbg⟩
    have hcg := bel_on' hcf hbg
    clear hbg hcf
    go_wp2_with fail
    refine (s_DrawWeakestSpec a1 len1 cap1 _ (HIN1.out.later hcg)).mono ?_
    rintro e wh ⟨⟨c, rfl⟩, hbh⟩
    have hch := bel_on' hcg hbh
    clear hbh hcg
    go_wp2_with fail
    obtain ⟨P, hP⟩ : ∃ P, P = (if ctOk c && conjB (ctT c) then ctT c 15 else 0) := ⟨_, rfl⟩
    obtain ⟨L, hL⟩ : ∃ L, L = optS (ctOk c && conjB (ctT c)) (txt 4 (fun s => fLead (ctT c) s 16)) := ⟨_, rfl⟩
    cases hcj : (ctOk c && conjB (ctT c))
    · have q9 : (#[Value.int .i64 ((if ctOk c && conjB (ctT c) then ctT c 15 else 0 : Nat) : Int), .string (optS (ctOk c && conjB (ctT c)) (txt 4 (fun s => fLead (ctT c) s 16))), .bool (ctOk c && conjB (ctT c))] : Array Value) = #[.int .i64 (P : Int), .string L, .bool false] := by rw [← hP, ← hL, hcj]
      have QC := Lib.hid q9; clear q9 hcj hP hL
      refine (i_WeakestSpec c _).mono ?_
      rw [QC.out]
      rintro e wi ⟨rfl, hbi⟩
      have hci := bel_on' hch hbi
      clear hbi hch
      go_wp2_with fail
      refine (i_SpecWeaker K A n r _).mono ?_
      rw [Q6.out]
      rintro e wj ⟨rfl, hbj⟩
      have hcj := bel_on' hci hbj
      clear hbj hci
      go_wp2_with fail
      refine (i_SpecWeaker K A m s _).mono ?_
      rw [Q7.out]
      rintro e wk ⟨rfl, hbk⟩
      have hck := bel_on' hcj hbk
      clear hbk hcj
      go_wp2_with fail
      go_ret
      exact ⟨rfl, hck⟩
    · have q9 : (#[Value.int .i64 ((if ctOk c && conjB (ctT c) then ctT c 15 else 0 : Nat) : Int), .string (optS (ctOk c && conjB (ctT c)) (txt 4 (fun s => fLead (ctT c) s 16))), .bool (ctOk c && conjB (ctT c))] : Array Value) = #[.int .i64 (P : Int), .string L, .bool true] := by rw [← hP, ← hL, hcj]
      have q10 := Q8.out c hcj
      obtain ⟨x, hx⟩ : ∃ x, x = (((cvB (n : Int) && relOk r) && ctOk c) && refB (fSpec (n : Int).toNat (dig r)) (ctT c) 16) := ⟨_, rfl⟩
      obtain ⟨y, hy⟩ : ∃ y, y = (((cvB (m : Int) && relOk s) && ctOk c) && refB (fSpec (m : Int).toNat (dig s)) (ctT c) 16) := ⟨_, rfl⟩
      rw [← hx, ← hy] at q10
      have QC := Lib.hid q9; have HX := Lib.hid hx.symm; have HY := Lib.hid hy.symm; have QM := Lib.hid q10; clear q9 q10 hx hy hcj hP hL
      cases x
      · rw [Bool.false_and] at QM
        refine (i_WeakestSpec c _).mono ?_
        rw [QC.out]
        rintro e wi ⟨rfl, hbi⟩
        have hci := bel_on' hch hbi
        clear hbi hch
        go_wp2_with fail
        refine (i_SpecWeaker K A n r _).mono ?_
        rw [Q6.out]
        rintro e wj ⟨rfl, hbj⟩
        have hcj := bel_on' hci hbj
        clear hbj hci
        go_wp2_with fail
        refine (i_SpecWeaker K A m s _).mono ?_
        rw [Q7.out]
        rintro e wk ⟨rfl, hbk⟩
        have hck := bel_on' hcj hbk
        clear hbk hcj
        go_wp2_with fail
        refine (i_MeetsSpec K A c _).mono ?_
        rw [QM.out]
        rintro e wl ⟨rfl, hbl⟩
        have hcl := bel_on' hck hbl
        clear hbl hck
        go_wp2_with fail
        refine (i_MeetsSpec n r c _).mono ?_
        rw [HX.out]
        rintro e wm ⟨rfl, hbm⟩
        have hcm := bel_on' hcl hbm
        clear hbm hcl
        go_wp2_with fail
        go_ret
        exact ⟨rfl, hcm⟩
      · rw [Bool.true_and] at QM
        cases y
        all_goals
          refine (i_WeakestSpec c _).mono ?_
          rw [QC.out]
          rintro e wi ⟨rfl, hbi⟩
          have hci := bel_on' hch hbi
          clear hbi hch
          go_wp2_with fail
          refine (i_SpecWeaker K A n r _).mono ?_
          rw [Q6.out]
          rintro e wj ⟨rfl, hbj⟩
          have hcj := bel_on' hci hbj
          clear hbj hci
          go_wp2_with fail
          refine (i_SpecWeaker K A m s _).mono ?_
          rw [Q7.out]
          rintro e wk ⟨rfl, hbk⟩
          have hck := bel_on' hcj hbk
          clear hbk hcj
          go_wp2_with fail
          refine (i_MeetsSpec K A c _).mono ?_
          rw [QM.out]
          rintro e wl ⟨rfl, hbl⟩
          have hcl := bel_on' hck hbl
          clear hbl hck
          go_wp2_with fail
          refine (i_MeetsSpec n r c _).mono ?_
          rw [HX.out]
          rintro e wm ⟨rfl, hbm⟩
          have hcm := bel_on' hcl hbm
          clear hbm hcl
          go_wp2_with fail
          refine (i_MeetsSpec m s c _).mono ?_
          rw [HY.out]
          rintro e wn ⟨rfl, hbn⟩
          have hcn := bel_on' hcm hbn
          clear hbn hcm
          go_wp2_with fail
          go_ret
          exact ⟨rfl, hcn⟩
theorem own : ownKnob Try.prog.godebug = none := by kernel_rfl
theorem laidOut : laidOutB Try.prog = true := by kernel_rfl
set_option maxRecDepth 100000 in
theorem lifted (os : Os) (started : os.Started) (H : Type) (enc : TypeId × Value → H) :
    ReturnsInHanded {} Try.checked os 3 .any (Rows.fnSpecMeetSpec.pre6 enc Try.prog Try.f3 Rows.fnSpecMeetRow.domain false) (Rows.fnSpecMeetSpec.post enc Try.prog Try.f3 false true false false) := by
  refine returnsInHanded_of_change (C := Try.checked) own started (by kernel_rfl) Try.func3
    (ChangeSpec.witness6 (enc := enc) (C := Try.checked) false ⟨#[], #[.slice none 0 0, .slice none 0 0], []⟩ 8 (by kernel_rfl) (by kernel_rfl) (by kernel_rfl) (by kernel_rfl)) ?_
  intro W base args ds gs before hval0 hW hcnd _
  have hval : ∀ (j : Nat) t v, Try.f3.params[j]? = some t → args[j]? = some v → Value.okWide Try.prog W .any base t v := hval0
  have hW' := hW
  obtain ⟨p, q, hA0, hV, rfl, hfz, hnd⟩ := hW
  have hA : DataW.TrodAll enc Try.prog W 0 (fun _ => true) true Try.f3.params.toList args.toList ds p := hA0
  rw [Try.params3] at hA hval
  obtain ⟨v0, vs0, d0, ds0, p0, q0, hargs, rfl, rfl, h0, r0⟩ := trodAll_cons hA
  obtain ⟨v1, vs1, d1, ds1, p1, q1, rfl, rfl, rfl, h1, r1⟩ := trodAll_cons r0
  obtain ⟨rfl, rfl, rfl⟩ := trodAll_nil r1
  obtain rfl : args = #[v0, v1] := by cases args; simp_all
  obtain ⟨rfl, rfl⟩ := trodVars_none hV
  obtain ⟨a0, len0, cap0, rfl⟩ := okWide_slice Try.underlying22 (hval 0 22 v0 rfl rfl)
  have k0 := h0
  have lt0 : ∀ x ∈ p0, x.block < W.heap.size := by obtain ⟨m, hm⟩ := k0; exact DataW.trod_lt m _ _ _ hm
  obtain ⟨z0, w0⟩ : ∃ zs, IsRow .u8 W a0 len0 cap0 zs := by
    obtain ⟨fuel, hf⟩ := h0
    rcases open_ints Try.underlying22 Try.underlying5 (by kernel_rfl) hf with ⟨hcs, _⟩ | ⟨x, l, c, zs, hcs, _, hl, hm, hz, _, hcell, hwz⟩
    · simp [Value.cells] at hcs
      obtain ⟨rfl, rfl, rfl⟩ := hcs
      exact ⟨[], .inl ⟨rfl, rfl, rfl, rfl⟩⟩
    · simp [Value.cells] at hcs
      obtain ⟨rfl, rfl, rfl⟩ := hcs
      exact ⟨zs, .inr ⟨_, rfl, hl, hm, by simpa using hz, hcell, hwz⟩⟩
  obtain ⟨a1, len1, cap1, rfl⟩ := okWide_slice Try.underlying22 (hval 1 22 v1 rfl rfl)
  have k1 := h1
  have lt1 : ∀ x ∈ p1, x.block < W.heap.size := by obtain ⟨m, hm⟩ := k1; exact DataW.trod_lt m _ _ _ hm
  obtain ⟨z1, w1⟩ : ∃ zs, IsRow .u8 W a1 len1 cap1 zs := by
    obtain ⟨fuel, hf⟩ := h1
    rcases open_ints Try.underlying22 Try.underlying5 (by kernel_rfl) hf with ⟨hcs, _⟩ | ⟨x, l, c, zs, hcs, _, hl, hm, hz, _, hcell, hwz⟩
    · simp [Value.cells] at hcs
      obtain ⟨rfl, rfl, rfl⟩ := hcs
      exact ⟨[], .inl ⟨rfl, rfl, rfl, rfl⟩⟩
    · simp [Value.cells] at hcs
      obtain ⟨rfl, rfl, rfl⟩ := hcs
      exact ⟨zs, .inr ⟨_, rfl, hl, hm, by simpa using hz, hcell, hwz⟩⟩
  clear hA0 hval0
  refine (law_FnSpecMeet a0 len0 cap0 z0 a1 len1 cap1 z1 W w0 w1).mono fun e W' ⟨he, bel⟩ => ?_
  subst he
  exact ⟨_, rfl, _, _, _, [], _, [], hW', trodAll_mk1 (shut_bool Try.underlying4 _), (trodAll_cons_mk (Below.trod laidOut (by kernel_rfl) (of_decide_eq_true (by kernel_rfl)) k0 bel lt0) (trodAll_cons_mk (Below.trod laidOut (by kernel_rfl) (of_decide_eq_true (by kernel_rfl)) k1 bel lt1) trodAll_mk0)), rfl, bel.frame _, fun h => by cases h⟩
theorem over : Rows.fnSpecMeetRow.holds Try.pinned (OpenSpec.ofChange Rows.fnSpecMeetSpec) :=
  OpenClaim.holds_of_wide 3 Try.f3 rfl rfl rfl rfl rfl rfl rfl ⟨rfl, rfl, rfl, rfl, rfl⟩ rfl rfl rfl rfl rfl (by kernel_rfl) Try.func3 (by kernel_rfl)
    (of_decide_eq_true (by kernel_rfl)) (by unfold Func.isWrapper; rw [if_neg (of_decide_eq_false (by kernel_rfl))]; exact ⟨rfl, rfl⟩)
    (fun os started H enc _ => lifted os started H enc)
/-- The statement. -/
theorem proved : Rows.FnSpecMeetSaid := over
end Go.Proofs.Ytiaeakpgldpaiaa.fnSpecMeet
