/- Repetitions for ever are the same unrolled, and dual: no condition. -/
import Derived.Test.YtiaeakpgldpaiaaRows
import Derived.WalkKit
import Derived.ProofKit
import Derived.OpenShut
import Derived.ShutString
import Derived.ChangeOld
import Derived.Below
import Derived.Test.YtiaeakpgldpaiaaSpecE
import Derived.Test.YtiaeakpgldpaiaaImplJ
import Derived.Test.YtiaeakpgldpaiaaImplF
import Derived.Test.YtiaeakpgldpaiaaDrawF
import Derived.Test.YtiaeakpgldpaiaaPlainO
namespace Go.Proofs.Ytiaeakpgldpaiaa.fnOmegas
set_option linter.unusedSimpArgs false
set_option linter.unusedVariables false
set_option maxRecDepth 4000
open Go.ChangeShapes Go.WideShapes Go.ChangeAt Go.RowKit
open Go.ChangeMaps (open_string shut_string)
set_option linter.unusedVariables false
set_option maxHeartbeats 2000000 in
theorem law_FnOmegas (a0 : Option Addr) (len0 cap0 : Nat) (z0 : List Int) (w : World) (w0 : IsRow .u8 w a0 len0 cap0 z0) :
    Calls Try.prog 7 #[.slice a0 len0 cap0] w fun e w' => e = .returned (.bool true) ∧ Below w.heap.size w w' := by
  have hin := ByteIn.of_row w0
  by_cases h0 : len0 ≤ 1048576
  rotate_left
  · go_enter Try.func7, Try.ntmps7
    go_wp2_with fail
    go_ret
    exact ⟨rfl, Below.refl _ _⟩
  go_enter Try.func7, Try.ntmps7
  go_wp2_with fail
  refine (s_DrawDemonOmega a0 len0 cap0 _ hin).mono ?_
  rintro e wa ⟨⟨t, ht, rfl⟩, hca⟩
  have hts : t.size ≤ 1048576 := Nat.le_trans ht (by omega)
  clear hin w0 ht
  go_wp2_with fail
  cases hok : trOk t
  · have HOK := Lib.hid hok; clear hok
    refine (i_DemonOmega t _).mono ?_
    rw [HOK.out]
    rintro e wb ⟨rfl, hbb⟩
    have hcb := bel_on' hca hbb
    clear hbb hca
    go_wp2_with fail
    refine (s_DemonOmega t _ hts).mono ?_
    rw [HOK.out]
    rintro e w' ⟨rfl, rfl⟩
    go_wp2_with fail
    refine (i_AngelOmega t _).mono ?_
    rw [HOK.out]
    rintro e wc ⟨rfl, hbc⟩
    have hcc := bel_on' hcb hbc
    clear hbc hcb
    go_wp2_with fail
    refine (s_AngelOmega t _ hts).mono ?_
    rw [HOK.out]
    rintro e w' ⟨rfl, rfl⟩
    go_wp2_with fail
    go_ret
    exact ⟨rfl, hcc⟩
  · have hm := dig_mono hok
    have hb := dig_bd t
    obtain ⟨A, hA⟩ : ∃ A, A = txt 16 (fun q => lfp (eqA (dig t) q)) := ⟨_, rfl⟩
    obtain ⟨S, hS⟩ : ∃ S, S = txt 16 (fun q => gfp (eqA (dig t) q)) := ⟨_, rfl⟩
    obtain ⟨B, hB⟩ : ∃ B, B = txt 16 (fun q => gfp (eqO (dig t) q)) := ⟨_, rfl⟩
    obtain ⟨P, hP⟩ : ∃ P, P = txt 16 (fun q => lfp (eqO (dig t) q)) := ⟨_, rfl⟩
    obtain ⟨E, hE⟩ : ∃ E, E = txt 16 (fDual (dig t)) := ⟨_, rfl⟩
    have oE : trOk E = true := by rw [hE]; exact fDual_ok hok
    have hDE : ∀ p, p < 16 → dig E p = fDual (dig t) p := fun p hp => by rw [hE, dig_txt (fDual_bd _) p hp]
    obtain ⟨D, hD⟩ : ∃ D, D = txt 16 (fun q => gfp (eqO (dig E) q)) := ⟨_, rfl⟩
    have oA : trOk A = true := by rw [hA]; exact trOk_txt (dO_bd _) (dO_mono hb hm)
    have oS : trOk S = true := by rw [hS]; exact trOk_txt (dS_bd _) (dS_mono hb hm)
    have oB : trOk B = true := by rw [hB]; exact trOk_txt (aO_bd hb) (aO_mono hb hm)
    have oP : trOk P = true := by rw [hP]; exact trOk_txt (aS_bd hb) (aS_mono hb hm)
    have oD : trOk D = true := by rw [hD]; exact trOk_txt (aO_bd (dig_bd E)) (aO_mono (dig_bd E) (dig_mono oE))
    have dA : ∀ q, q < 16 → dig A q = lfp (eqA (dig t) q) := fun q hq => by rw [hA, dig_txt (dO_bd _) q hq]
    have dB : ∀ q, q < 16 → dig B q = gfp (eqO (dig t) q) := fun q hq => by rw [hB, dig_txt (aO_bd hb) q hq]
    have dD : ∀ q, q < 16 → dig D q = gfp (eqO (dig E) q) := fun q hq => by rw [hD, dig_txt (aO_bd (dig_bd E)) q hq]
    have mono2 : ∀ X, trOk X = true → trOk (txt 16 (fun p => dig t (dig X p))) = true := fun X hX => trOk_txt (fun p _ => dig_lt _ _) (fun p q hp hq h => hm _ _ (dig_lt _ _) (dig_lt _ _) (dig_mono hX p q hp hq h))
    obtain ⟨TA, hTA⟩ : ∃ X, X = txt 16 (fun p => dig t (dig A p)) := ⟨_, rfl⟩
    obtain ⟨TB, hTB⟩ : ∃ X, X = txt 16 (fun p => dig t (dig B p)) := ⟨_, rfl⟩
    have oTA : trOk TA = true := by rw [hTA]; exact mono2 A oA
    have oTB : trOk TB = true := by rw [hTB]; exact mono2 B oB
    have q1 : (#[Value.string (optS (trOk t) (txt 16 (fun q => lfp (eqA (dig t) q)))), .bool (trOk t)] : Array Value) = #[.string A, .bool true] := by rw [hok, hA]; rfl
    have q2 : (#[Value.string (optS (trOk t) (txt 16 (fun q => gfp (eqO (dig t) q)))), .bool (trOk t)] : Array Value) = #[.string B, .bool true] := by rw [hok, hB]; rfl
    have q3 : (#[Value.string (optS (trOk t) (txt 16 (fun q => gfp (eqA (dig t) q)))), .bool (trOk t)] : Array Value) = #[.string S, .bool true] := by rw [hok, hS]; rfl
    have q4 : (#[Value.string (optS (trOk t) (txt 16 (fun q => lfp (eqO (dig t) q)))), .bool (trOk t)] : Array Value) = #[.string P, .bool true] := by rw [hok, hP]; rfl
    have q5 : (#[Value.string (optS (trOk E) (txt 16 (fun q => gfp (eqO (dig E) q)))), .bool (trOk E)] : Array Value) = #[.string D, .bool true] := by rw [oE, hD]; rfl
    have q6 : refB (dig A) (dig S) 16 = true := by
      rw [hA, hS]; exact ref_txt (dO_bd _) (dS_bd _) fun q hq => lfp_gfp (eqA_bd hq) (eqA_mono hm q)
    have q7 : refB (dig P) (dig B) 16 = true := by
      rw [hP, hB]; exact ref_txt (aS_bd hb) (aO_bd hb) fun q hq => lfp_gfp (eqO_bd hb hq) (eqO_mono hm q)
    have q8 : txt 16 (fun p => dig ⟨#[48, 49, 50, 51, 52, 53, 54, 55, 56, 57, 97, 98, 99, 100, 101, 102]⟩ p &&& dig TA p) = A := by
      rw [hA]
      refine txt_congr fun p hp => ?_
      rw [skip_dig p hp, hTA, dig_txt (F := fun p => dig t (dig A p)) (fun p _ => dig_lt _ _) p hp, dA p hp, Nat.and_comm]
      exact lfp_fix (eqA_bd hp) (eqA_mono hm p)
    have q9 : txt 16 (fun p => dig ⟨#[48, 49, 50, 51, 52, 53, 54, 55, 56, 57, 97, 98, 99, 100, 101, 102]⟩ p ||| dig TB p) = B := by
      rw [hB]
      refine txt_congr fun p hp => ?_
      rw [skip_dig p hp, hTB, dig_txt (F := fun p => dig t (dig B p)) (fun p _ => dig_lt _ _) p hp, dB p hp, Nat.or_comm]
      exact gfp_fix (eqO_bd hb hp) (eqO_mono hm p)
    have q10 : txt 16 (fDual (dig D)) = A := by
      rw [hA]
      refine txt_congr fun p hp => ?_
      show andn 15 (dig D (andn 15 p)) = _
      rw [dD _ (andn_lt (by omega)), aO_dual hb hDE hp]
    obtain ⟨L, hL⟩ : ∃ L, L = lfp (dig t) := ⟨_, rfl⟩
    obtain ⟨G, hG⟩ : ∃ G, G = gfp (dig t) := ⟨_, rfl⟩
    have q11 : dig A 15 = L := by rw [dA 15 (by omega), starts_dO hb, hL]
    have q12 : dig B 0 = G := by rw [dB 0 (by omega), miracles_aO hb, hG]
    have q13 : optI (trOk t) (lfp (dig t)) = (L : Int) := by rw [hok, hL]; rfl
    have q14 : optI (trOk t) (gfp (dig t)) = (G : Int) := by rw [hok, hG]; rfl
    have Q1 := Lib.hid q1; have Q2 := Lib.hid q2; have Q3 := Lib.hid q3; have Q4 := Lib.hid q4; have Q5 := Lib.hid q5; have Q6 := Lib.hid q6; have Q7 := Lib.hid q7; have Q8 := Lib.hid q8; have Q9 := Lib.hid q9; have Q10 := Lib.hid q10; have Q11 := Lib.hid q11; have Q12 := Lib.hid q12; have Q13 := Lib.hid q13; have Q14 := Lib.hid q14
    have OK := Lib.hid hok; have OA := Lib.hid oA; have OS := Lib.hid oS; have OB := Lib.hid oB; have OP := Lib.hid oP; have OD := Lib.hid oD; have OTA := Lib.hid oTA; have OTB := Lib.hid oTB; have HE := Lib.hid hE; have HTA := Lib.hid hTA; have HTB := Lib.hid hTB
    clear q1 q2 q3 q4 q5 q6 q7 q8 q9 q10 q11 q12 q13 q14 hok oA oS oB oP oD oE oTA oTB hE hTA hTB hA hS hB hP hD hDE dA dB dD mono2 hL hG hm hb
    refine (i_DemonOmega t _).mono ?_
    rw [Q1.out]
    rintro e wb ⟨rfl, hbb⟩
    have hcb := bel_on' hca hbb
    clear hbb hca
    go_wp2_with fail
    refine (s_DemonOmega t _ hts).mono ?_
    rw [Q1.out]
    rintro e w' ⟨rfl, rfl⟩
    go_wp2_with fail
    refine (i_AngelOmega t _).mono ?_
    rw [Q2.out]
    rintro e wc ⟨rfl, hbc⟩
    have hcc := bel_on' hcb hbc
    clear hbc hcb
    go_wp2_with fail
    refine (s_AngelOmega t _ hts).mono ?_
    rw [Q2.out]
    rintro e w' ⟨rfl, rfl⟩
    go_wp2_with fail
    refine (i_DemonStar t _).mono ?_
    rw [Q3.out]
    rintro e wd ⟨rfl, hbd⟩
    have hcd := bel_on' hcc hbd
    clear hbd hcc
    go_wp2_with fail
    refine (i_AngelStar t _).mono ?_
    rw [Q4.out]
    rintro e we ⟨rfl, hbe⟩
    have hce := bel_on' hcd hbe
    clear hbe hcd
    go_wp2_with fail
    refine (l_dcDual t _ OK.out).mono ?_
    rw [← HE.out]
    rintro e wf ⟨rfl, hbf⟩
    have hcf := bel_on' hce hbf
    clear hbf hce
    go_wp2_with fail
    refine (i_AngelOmega E _).mono ?_
    rw [Q5.out]
    rintro e wg ⟨rfl, hbg⟩
    have hcg := bel_on' hcf hbg
    clear hbg hcf
    go_wp2_with fail
    refine (i_RefinesN A S _ OA.out OS.out).mono ?_
    rw [Q6.out]
    rintro e wh ⟨rfl, hbh⟩
    have hch := bel_on' hcg hbh
    clear hbh hcg
    go_wp2_with fail
    refine (i_RefinesN P B _ OP.out OB.out).mono ?_
    rw [Q7.out]
    rintro e wi ⟨rfl, hbi⟩
    have hci := bel_on' hch hbi
    clear hbi hch
    go_wp2_with fail
    refine (l_dcThen t A _ OK.out OA.out).mono ?_
    rw [← HTA.out]
    rintro e wj ⟨rfl, hbj⟩
    have hcj := bel_on' hci hbj
    clear hbj hci
    go_wp2_with fail
    refine (l_dcMeet ⟨#[48, 49, 50, 51, 52, 53, 54, 55, 56, 57, 97, 98, 99, 100, 101, 102]⟩ TA _ skip_ok OTA.out).mono ?_
    rw [Q8.out]
    rintro e wk ⟨rfl, hbk⟩
    have hck := bel_on' hcj hbk
    clear hbk hcj
    go_wp2_with fail
    refine (l_dcThen t B _ OK.out OB.out).mono ?_
    rw [← HTB.out]
    rintro e wl ⟨rfl, hbl⟩
    have hcl := bel_on' hck hbl
    clear hbl hck
    go_wp2_with fail
    refine (l_dcJoin ⟨#[48, 49, 50, 51, 52, 53, 54, 55, 56, 57, 97, 98, 99, 100, 101, 102]⟩ TB _ skip_ok OTB.out).mono ?_
    rw [Q9.out]
    rintro e wm ⟨rfl, hbm⟩
    have hcm := bel_on' hcl hbm
    clear hbm hcl
    go_wp2_with fail
    refine (l_dcDual D _ OD.out).mono ?_
    rw [Q10.out]
    rintro e wn ⟨rfl, hbn⟩
    have hcn := bel_on' hcm hbn
    clear hbn hcm
    go_wp2_with fail
    refine (i_StartsN A _ OA.out).mono ?_
    rw [Q11.out]
    rintro e wo ⟨rfl, hbo⟩
    have hco := bel_on' hcn hbo
    clear hbo hcn
    go_wp2_with fail
    refine (i_LeastPoint t _).mono ?_
    rw [Q13.out]
    rintro e wp ⟨rfl, hbp⟩
    have hcp := bel_on' hco hbp
    clear hbp hco
    go_wp2_with fail
    refine (i_MiraclesN B _ OB.out).mono ?_
    rw [Q12.out]
    rintro e wq ⟨rfl, hbq⟩
    have hcq := bel_on' hcp hbq
    clear hbq hcp
    go_wp2_with fail
    refine (i_GreatestPoint t _).mono ?_
    rw [Q14.out]
    rintro e wr ⟨rfl, hbr⟩
    have hcr := bel_on' hcq hbr
    clear hbr hcq
    go_wp2_with fail
    go_ret
    exact ⟨rfl, hcr⟩
theorem own : ownKnob Try.prog.godebug = none := by kernel_rfl
theorem laidOut : laidOutB Try.prog = true := by kernel_rfl
set_option maxRecDepth 100000 in
theorem lifted (os : Os) (started : os.Started) (H : Type) (enc : TypeId × Value → H) :
    ReturnsInHanded {} Try.checked os 7 .any (Rows.fnOmegasSpec.pre6 enc Try.prog Try.f7 Rows.fnOmegasRow.domain false) (Rows.fnOmegasSpec.post enc Try.prog Try.f7 false true false false) := by
  refine returnsInHanded_of_change (C := Try.checked) own started (by kernel_rfl) Try.func7
    (ChangeSpec.witness6 (enc := enc) (C := Try.checked) false ⟨#[], #[.slice none 0 0], []⟩ 8 (by kernel_rfl) (by kernel_rfl) (by kernel_rfl) (by kernel_rfl)) ?_
  intro W base args ds gs before hval0 hW hcnd _
  have hval : ∀ (j : Nat) t v, Try.f7.params[j]? = some t → args[j]? = some v → Value.okWide Try.prog W .any base t v := hval0
  have hW' := hW
  obtain ⟨p, q, hA0, hV, rfl, hfz, hnd⟩ := hW
  have hA : DataW.TrodAll enc Try.prog W 0 (fun _ => true) true Try.f7.params.toList args.toList ds p := hA0
  rw [Try.params7] at hA hval
  obtain ⟨v0, vs0, d0, ds0, p0, q0, hargs, rfl, rfl, h0, r0⟩ := trodAll_cons hA
  obtain ⟨rfl, rfl, rfl⟩ := trodAll_nil r0
  obtain rfl : args = #[v0] := by cases args; simp_all
  obtain ⟨rfl, rfl⟩ := trodVars_none hV
  obtain ⟨a0, len0, cap0, rfl⟩ := okWide_slice Try.underlying22 (hval 0 22 v0 rfl rfl)
  have k0 := h0
  have lt0 : ∀ x ∈ p0, x.block < W.heap.size := by obtain ⟨m, hm⟩ := k0; exact DataW.trod_lt m _ _ _ hm
  obtain ⟨z0, w0⟩ : ∃ zs, IsRow .u8 W a0 len0 cap0 zs := by
    obtain ⟨fuel, hf⟩ := h0
    rcases open_ints Try.underlying22 Try.underlying5 (by kernel_rfl) hf with ⟨hcs, _⟩ | ⟨x, l, c, zs, hcs, _, hl, hm, hz, _, hcell, hwz⟩
    · simp [Value.cells] at hcs
      obtain ⟨rfl, rfl, rfl⟩ := hcs
      exact ⟨[], .inl ⟨rfl, rfl, rfl, rfl⟩⟩
    · simp [Value.cells] at hcs
      obtain ⟨rfl, rfl, rfl⟩ := hcs
      exact ⟨zs, .inr ⟨_, rfl, hl, hm, by simpa using hz, hcell, hwz⟩⟩
  clear hA0 hval0
  refine (law_FnOmegas a0 len0 cap0 z0 W w0).mono fun e W' ⟨he, bel⟩ => ?_
  subst he
  exact ⟨_, rfl, _, _, _, [], _, [], hW', trodAll_mk1 (shut_bool Try.underlying4 _), (trodAll_cons_mk (Below.trod laidOut (by kernel_rfl) (of_decide_eq_true (by kernel_rfl)) k0 bel lt0) trodAll_mk0), rfl, bel.frame _, fun h => by cases h⟩
theorem over : Rows.fnOmegasRow.holds Try.pinned (OpenSpec.ofChange Rows.fnOmegasSpec) :=
  OpenClaim.holds_of_wide 7 Try.f7 rfl rfl rfl rfl rfl rfl rfl ⟨rfl, rfl, rfl, rfl, rfl⟩ rfl rfl rfl rfl rfl (by kernel_rfl) Try.func7 (by kernel_rfl)
    (of_decide_eq_true (by kernel_rfl)) (by unfold Func.isWrapper; rw [if_neg (of_decide_eq_false (by kernel_rfl))]; exact ⟨rfl, rfl⟩)
    (fun os started H enc _ => lifted os started H enc)
/-- The statement. -/
theorem proved : Rows.FnOmegasSaid := over
end Go.Proofs.Ytiaeakpgldpaiaa.fnOmegas
