/- A fixed point of a sequence can be rolled; refinement makes both greater: no condition. -/
import Derived.Test.YtmhiphcnclkhhaaRows
import Derived.WalkKit
import Derived.ProofKit
import Derived.OpenShut
import Derived.ShutString
import Derived.ChangeOld
import Derived.Below
import Derived.Test.YtmhiphcnclkhhaaSpecD
import Derived.Test.YtmhiphcnclkhhaaImplF
import Derived.Test.YtmhiphcnclkhhaaDrawF
import Derived.Test.YtmhiphcnclkhhaaPlainC
import Derived.Test.YtmhiphcnclkhhaaApp2
namespace Go.Proofs.Ytmhiphcnclkhhaa.fnRolling
set_option linter.unusedSimpArgs false
set_option linter.unusedVariables false
set_option maxRecDepth 4000
open Go.ChangeShapes Go.WideShapes Go.ChangeAt Go.RowKit
open Go.ChangeMaps (open_string shut_string)
set_option linter.unusedVariables false
set_option maxHeartbeats 2000000 in
theorem law_FnRolling (a0 : Option Addr) (len0 cap0 : Nat) (z0 : List Int) (w : World) (w0 : IsRow .u8 w a0 len0 cap0 z0) :
    Calls Try.prog 9 #[.slice a0 len0 cap0] w fun e w' => e = .returned (.bool true) ∧ Below w.heap.size w w' := by
  have hin := ByteIn.of_row w0
  by_cases h0 : len0 ≤ 1048576
  rotate_left
  · go_enter Try.func9, Try.ntmps9
    go_wp2_with fail
    go_ret
    exact ⟨rfl, Below.refl _ _⟩
  go_enter Try.func9, Try.ntmps9
  go_wp2_with fail
  refine (s_DrawThenTrans a0 len0 cap0 _ hin).mono ?_
  rintro e wa ⟨⟨t, u, ht, rfl⟩, hca⟩
  have hts : t.size ≤ 1048576 := Nat.le_trans ht.1 (by omega)
  have hus : u.size ≤ 1048576 := Nat.le_trans ht.2 (by omega)
  clear hin w0 ht
  go_wp2_with fail
  cases hok : (trOk t && trOk u)
  · have HOK := Lib.hid hok; clear hok
    refine (i_ThenTrans t u _).mono ?_
    rw [HOK.out]
    rintro e wb ⟨rfl, hbb⟩
    have hcb := bel_on' hca hbb
    clear hbb hca
    go_wp2_with fail
    refine (s_ThenTrans t u _ hts hus).mono ?_
    rw [HOK.out]
    rintro e w' ⟨rfl, rfl⟩
    go_wp2_with fail
    go_ret
    exact ⟨rfl, hcb⟩
  · have hall := hok
    simp only [Bool.and_eq_true] at hok
    obtain ⟨hot, hou⟩ := hok
    have mt := dig_mono hot
    have bt := dig_bd t
    have mu := dig_mono hou
    have bu := dig_bd u
    obtain ⟨V, hV⟩ : ∃ V, V = txt 16 (fun p => dig t (dig u p)) := ⟨_, rfl⟩
    obtain ⟨W, hW⟩ : ∃ W, W = txt 16 (fun p => dig u (dig t p)) := ⟨_, rfl⟩
    have bV : Bd (fun p => dig t (dig u p)) := fun p _ => dig_lt _ _
    have bW : Bd (fun p => dig u (dig t p)) := fun p _ => dig_lt _ _
    have v1 : trOk V = true := by rw [hV]; exact trOk_txt bV (fun p q hp hq h => mt _ _ (bu p hp) (bu q hq) (mu p q hp hq h))
    have w1 : trOk W = true := by rw [hW]; exact trOk_txt bW (fun p q hp hq h => mu _ _ (bt p hp) (bt q hq) (mt p q hp hq h))
    obtain ⟨L, hL⟩ : ∃ L, L = lfp (fun p => dig u (dig t p)) := ⟨_, rfl⟩
    obtain ⟨G, hG⟩ : ∃ G, G = gfp (fun p => dig u (dig t p)) := ⟨_, rfl⟩
    have hL16 : L < 16 := by rw [hL]; exact lfp_lt bW
    have hG16 : G < 16 := by rw [hG]; exact gfp_lt bW
    have q1 : (#[Value.string (optS (trOk t && trOk u) (txt 16 (fun p => dig t (dig u p)))), .bool (trOk t && trOk u)] : Array Value) = #[.string V, .bool true] := by rw [hall, hV]; rfl
    have q2 : optI (trOk V) (lfp (dig V)) = (dig t L : Int) := by
      rw [v1, hV, lfp_congr (dig_bd _) (fun p hp => dig_txt bV p hp), roll_lfp bt mt bu mu, hL]; rfl
    have q3 : optI (trOk W) (lfp (dig W)) = (L : Int) := by
      rw [w1, hW, lfp_congr (dig_bd _) (fun p hp => dig_txt bW p hp), hL]; rfl
    have q4 : optI (trOk V) (gfp (dig V)) = (dig t G : Int) := by
      rw [v1, hV, gfp_congr (dig_bd _) (fun p hp => dig_txt bV p hp), roll_gfp bt mt bu mu, hG]; rfl
    have q5 : optI (trOk W) (gfp (dig W)) = (G : Int) := by
      rw [w1, hW, gfp_congr (dig_bd _) (fun p hp => dig_txt bW p hp), hG]; rfl
    obtain ⟨A, hA⟩ : ∃ A, A = lfp (dig t) := ⟨_, rfl⟩
    obtain ⟨B, hB⟩ : ∃ B, B = gfp (dig t) := ⟨_, rfl⟩
    obtain ⟨C, hC⟩ : ∃ C, C = lfp (dig u) := ⟨_, rfl⟩
    obtain ⟨D, hD⟩ : ∃ D, D = gfp (dig u) := ⟨_, rfl⟩
    have q6 : optI (trOk t) (lfp (dig t)) = (A : Int) := by rw [hot, hA]; rfl
    have q7 : optI (trOk t) (gfp (dig t)) = (B : Int) := by rw [hot, hB]; rfl
    have q8 : optI (trOk u) (lfp (dig u)) = (C : Int) := by rw [hou, hC]; rfl
    have q9 : optI (trOk u) (gfp (dig u)) = (D : Int) := by rw [hou, hD]; rfl
    have hA16 : A < 16 := by rw [hA]; exact lfp_lt bt
    have hB16 : B < 16 := by rw [hB]; exact gfp_lt bt
    have hC16 : C < 16 := by rw [hC]; exact lfp_lt bu
    have hD16 : D < 16 := by rw [hD]; exact gfp_lt bu
    have p1 : imp A B := by rw [hA, hB]; exact lfp_gfp bt mt
    have p2 : refB (dig t) (dig u) 16 = true → imp A C := fun h => by rw [hA, hC]; exact lfp_imp bt bu mu (fun y hy => (refB_iff _ _ _).1 h y hy) 4
    have p3 : refB (dig t) (dig u) 16 = true → imp B D := fun h => by rw [hB, hD]; exact gfp_imp bt bu mu (fun y hy => (refB_iff _ _ _).1 h y hy) 4
    have Q1 := Lib.hid q1; have Q2 := Lib.hid q2; have Q3 := Lib.hid q3; have Q4 := Lib.hid q4; have Q5 := Lib.hid q5; have Q6 := Lib.hid q6; have Q7 := Lib.hid q7; have Q8 := Lib.hid q8; have Q9 := Lib.hid q9; have P1 := Lib.hid p1; have P2 := Lib.hid p2; have P3 := Lib.hid p3; have OT := Lib.hid hot; have OU := Lib.hid hou; have HALL := Lib.hid hall; have HW := Lib.hid hW
    clear q1 q2 q3 q4 q5 q6 q7 q8 q9 p1 p2 p3 hot hou hall mt mu bt bu hV hW bV bW v1 w1 hL hG hA hB hC hD
    refine (i_ThenTrans t u _).mono ?_
    rw [Q1.out]
    rintro e wb ⟨rfl, hbb⟩
    have hcb := bel_on' hca hbb
    clear hbb hca
    go_wp2_with fail
    refine (s_ThenTrans t u _ hts hus).mono ?_
    rw [HALL.out]
    rintro e w' ⟨rfl, rfl⟩
    go_wp2_with fail
    refine (l_dcThen u t _ OU.out OT.out).mono ?_
    rw [← HW.out]
    rintro e wc ⟨rfl, hbc⟩
    have hcc := bel_on' hcb hbc
    clear hbc hcb
    go_wp2_with fail
    refine (i_LeastPoint V _).mono ?_
    rw [Q2.out]
    rintro e wd ⟨rfl, hbd⟩
    have hcd := bel_on' hcc hbd
    clear hbd hcc
    go_wp2_with fail
    refine (i_LeastPoint W _).mono ?_
    rw [Q3.out]
    rintro e we ⟨rfl, hbe⟩
    have hce := bel_on' hcd hbe
    clear hbe hcd
    go_wp2_with fail
    refine (i_ApplyN t L _ OT.out hL16).mono ?_
    rintro e wf ⟨rfl, hbf⟩
    have hcf := bel_on' hce hbf
    clear hbf hce
    go_wp2_with fail
    refine (i_GreatestPoint V _).mono ?_
    rw [Q4.out]
    rintro e wg ⟨rfl, hbg⟩
    have hcg := bel_on' hcf hbg
    clear hbg hcf
    go_wp2_with fail
    refine (i_GreatestPoint W _).mono ?_
    rw [Q5.out]
    rintro e wh ⟨rfl, hbh⟩
    have hch := bel_on' hcg hbh
    clear hbh hcg
    go_wp2_with fail
    refine (i_ApplyN t G _ OT.out hG16).mono ?_
    rintro e wi ⟨rfl, hbi⟩
    have hci := bel_on' hch hbi
    clear hbi hch
    go_wp2_with fail
    refine (i_LeastPoint t _).mono ?_
    rw [Q6.out]
    rintro e wj ⟨rfl, hbj⟩
    have hcj := bel_on' hci hbj
    clear hbj hci
    go_wp2_with fail
    refine (i_GreatestPoint t _).mono ?_
    rw [Q7.out]
    rintro e wk ⟨rfl, hbk⟩
    have hck := bel_on' hcj hbk
    clear hbk hcj
    go_wp2_with fail
    refine (i_ImpliesN _ _ _ hA16 hB16).mono ?_
    rw [decide_eq_true P1.out]
    rintro e w' ⟨rfl, rfl⟩
    go_wp2_with fail
    cases href : refB (dig t) (dig u) 16
    · have HR := Lib.hid href; clear href
      refine (i_RefinesN t u _ OT.out OU.out).mono ?_
      rw [HR.out]
      rintro e wl ⟨rfl, hbl⟩
      have hcl := bel_on' hck hbl
      clear hbl hck
      go_wp2_with fail
      go_ret
      exact ⟨rfl, hcl⟩
    · have HR := Lib.hid href; clear href
      refine (i_RefinesN t u _ OT.out OU.out).mono ?_
      rw [HR.out]
      rintro e wl ⟨rfl, hbl⟩
      have hcl := bel_on' hck hbl
      clear hbl hck
      go_wp2_with fail
      refine (i_LeastPoint t _).mono ?_
      rw [Q6.out]
      rintro e wm ⟨rfl, hbm⟩
      have hcm := bel_on' hcl hbm
      clear hbm hcl
      go_wp2_with fail
      refine (i_LeastPoint u _).mono ?_
      rw [Q8.out]
      rintro e wn ⟨rfl, hbn⟩
      have hcn := bel_on' hcm hbn
      clear hbn hcm
      go_wp2_with fail
      refine (i_ImpliesN _ _ _ hA16 hC16).mono ?_
      rw [decide_eq_true (P2.out HR.out)]
      rintro e w' ⟨rfl, rfl⟩
      go_wp2_with fail
      refine (i_GreatestPoint t _).mono ?_
      rw [Q7.out]
      rintro e wo ⟨rfl, hbo⟩
      have hco := bel_on' hcn hbo
      clear hbo hcn
      go_wp2_with fail
      refine (i_GreatestPoint u _).mono ?_
      rw [Q9.out]
      rintro e wp ⟨rfl, hbp⟩
      have hcp := bel_on' hco hbp
      clear hbp hco
      go_wp2_with fail
      refine (i_ImpliesN _ _ _ hB16 hD16).mono ?_
      rw [decide_eq_true (P3.out HR.out)]
      rintro e w' ⟨rfl, rfl⟩
      go_wp2_with fail
      go_ret
      exact ⟨rfl, hcp⟩
theorem own : ownKnob Try.prog.godebug = none := by kernel_rfl
theorem laidOut : laidOutB Try.prog = true := by kernel_rfl
set_option maxRecDepth 100000 in
theorem lifted (os : Os) (started : os.Started) (H : Type) (enc : TypeId × Value → H) :
    ReturnsInHanded {} Try.checked os 9 .any (Rows.fnRollingSpec.pre6 enc Try.prog Try.f9 Rows.fnRollingRow.domain false) (Rows.fnRollingSpec.post enc Try.prog Try.f9 false true false false) := by
  refine returnsInHanded_of_change (C := Try.checked) own started (by kernel_rfl) Try.func9
    (ChangeSpec.witness6 (enc := enc) (C := Try.checked) false ⟨#[], #[.slice none 0 0], []⟩ 8 (by kernel_rfl) (by kernel_rfl) (by kernel_rfl) (by kernel_rfl)) ?_
  intro W base args ds gs before hval0 hW hcnd _
  have hval : ∀ (j : Nat) t v, Try.f9.params[j]? = some t → args[j]? = some v → Value.okWide Try.prog W .any base t v := hval0
  have hW' := hW
  obtain ⟨p, q, hA0, hV, rfl, hfz, hnd⟩ := hW
  have hA : DataW.TrodAll enc Try.prog W 0 (fun _ => true) true Try.f9.params.toList args.toList ds p := hA0
  rw [Try.params9] at hA hval
  obtain ⟨v0, vs0, d0, ds0, p0, q0, hargs, rfl, rfl, h0, r0⟩ := trodAll_cons hA
  obtain ⟨rfl, rfl, rfl⟩ := trodAll_nil r0
  obtain rfl : args = #[v0] := by cases args; simp_all
  obtain ⟨rfl, rfl⟩ := trodVars_none hV
  obtain ⟨a0, len0, cap0, rfl⟩ := okWide_slice Try.underlying34 (hval 0 34 v0 rfl rfl)
  have k0 := h0
  have lt0 : ∀ x ∈ p0, x.block < W.heap.size := by obtain ⟨m, hm⟩ := k0; exact DataW.trod_lt m _ _ _ hm
  obtain ⟨z0, w0⟩ : ∃ zs, IsRow .u8 W a0 len0 cap0 zs := by
    obtain ⟨fuel, hf⟩ := h0
    rcases open_ints Try.underlying34 Try.underlying5 (by kernel_rfl) hf with ⟨hcs, _⟩ | ⟨x, l, c, zs, hcs, _, hl, hm, hz, _, hcell, hwz⟩
    · simp [Value.cells] at hcs
      obtain ⟨rfl, rfl, rfl⟩ := hcs
      exact ⟨[], .inl ⟨rfl, rfl, rfl, rfl⟩⟩
    · simp [Value.cells] at hcs
      obtain ⟨rfl, rfl, rfl⟩ := hcs
      exact ⟨zs, .inr ⟨_, rfl, hl, hm, by simpa using hz, hcell, hwz⟩⟩
  clear hA0 hval0
  refine (law_FnRolling a0 len0 cap0 z0 W w0).mono fun e W' ⟨he, bel⟩ => ?_
  subst he
  exact ⟨_, rfl, _, _, _, [], _, [], hW', trodAll_mk1 (shut_bool Try.underlying4 _), (trodAll_cons_mk (Below.trod laidOut (by kernel_rfl) (of_decide_eq_true (by kernel_rfl)) k0 bel lt0) trodAll_mk0), rfl, bel.frame _, fun h => by cases h⟩
theorem over : Rows.fnRollingRow.holds Try.pinned (OpenSpec.ofChange Rows.fnRollingSpec) :=
  OpenClaim.holds_of_wide 9 Try.f9 rfl rfl rfl rfl rfl rfl rfl ⟨rfl, rfl, rfl, rfl, rfl⟩ rfl rfl rfl rfl rfl (by kernel_rfl) Try.func9 (by kernel_rfl)
    (of_decide_eq_true (by kernel_rfl)) (by unfold Func.isWrapper; rw [if_neg (of_decide_eq_false (by kernel_rfl))]; exact ⟨rfl, rfl⟩)
    (fun os started H enc _ => lifted os started H enc)
/-- The statement. -/
theorem proved : Rows.FnRollingSaid := over
end Go.Proofs.Ytmhiphcnclkhhaa.fnRolling
