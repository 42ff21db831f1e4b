/- Turns can be unrolled one by one, and a few are enough: no condition. -/
import Derived.Test.YtmhiphcnclkhhaaRows
import Derived.WalkKit
import Derived.ProofKit
import Derived.OpenShut
import Derived.ShutString
import Derived.ChangeOld
import Derived.Below
import Derived.Test.YtmhiphcnclkhhaaSpecD
import Derived.Test.YtmhiphcnclkhhaaImplH
import Derived.Test.YtmhiphcnclkhhaaImplJ
import Derived.Test.YtmhiphcnclkhhaaDrawF
import Derived.Test.YtmhiphcnclkhhaaPlainC
import Derived.Test.YtmhiphcnclkhhaaApp2
namespace Go.Proofs.Ytmhiphcnclkhhaa.fnUnroll
set_option linter.unusedSimpArgs false
set_option linter.unusedVariables false
set_option maxRecDepth 4000
open Go.ChangeShapes Go.WideShapes Go.ChangeAt Go.RowKit
open Go.ChangeMaps (open_string shut_string)
set_option linter.unusedVariables false
theorem unroll_loop {p : Nat} {T : Nat → Nat} (hb : Bd T) (hm : Mono T) (hp : p < 16) {q : Nat} (hq : q < 16) {R : Nat → Nat} (hR : R q = fWhile p T q) : ∀ n, fUnroll p T R n q = fWhile p T q
  | 0 => hR
  | n + 1 => by
    show turn p (T (fUnroll p T R n q)) q = _
    rw [unroll_loop hb hm hp hq hR n, while_fix hb hm hp hq]
theorem unroll_iter {p : Nat} {T R : Nat → Nat} {q : Nat} (hR : R q = 0) : ∀ n, fUnroll p T R n q = iter (eqW p T q) 0 n
  | 0 => hR
  | n + 1 => by
    show turn p (T (fUnroll p T R n q)) q = turn p (T (iter (eqW p T q) 0 n)) q
    rw [unroll_iter hR n]
theorem unroll_more {p : Nat} {T R S : Nat → Nat} {q m : Nat} (hS : S q = fUnroll p T R m q) : ∀ n, fUnroll p T S n q = fUnroll p T R (m + n) q
  | 0 => hS
  | n + 1 => by
    show turn p (T (fUnroll p T S n q)) q = turn p (T (fUnroll p T R (m + n) q)) q
    rw [unroll_more hS n]
theorem zeros_ok : trOk ⟨#[48, 48, 48, 48, 48, 48, 48, 48, 48, 48, 48, 48, 48, 48, 48, 48]⟩ = true := by decide
theorem zeros_dig : ∀ q, q < 16 → dig ⟨#[48, 48, 48, 48, 48, 48, 48, 48, 48, 48, 48, 48, 48, 48, 48, 48]⟩ q = 0 := by decide
set_option maxHeartbeats 2000000 in
theorem law_FnUnroll (a0 : Option Addr) (len0 cap0 : Nat) (z0 : List Int) (a1 : Option Addr) (len1 cap1 : Nat) (z1 : List Int) (w : World) (w0 : IsRow .u8 w a0 len0 cap0 z0) (w1 : IsRow .u8 w a1 len1 cap1 z1) :
    Calls Try.prog 11 #[.slice a0 len0 cap0, .slice a1 len1 cap1] w fun e w' => e = .returned (.bool true) ∧ Below w.heap.size w w' := by
  have hin := ByteIn.of_row w0
  by_cases h0 : len0 ≤ 1048576
  rotate_left
  · go_enter Try.func11, Try.ntmps11
    go_wp2_with fail
    go_ret
    exact ⟨rfl, Below.refl _ _⟩
  by_cases h1 : len1 ≤ 1048576
  rotate_left
  · go_enter Try.func11, Try.ntmps11
    go_wp2_with fail
    go_ret
    exact ⟨rfl, Below.refl _ _⟩
  obtain ⟨K, hK⟩ : ∃ K, K = len1 % 4 := ⟨_, rfl⟩
  have hkm : (len1 : Int) % 4 = (K : Int) := by rw [hK]; simp
  have hK5 : K < 4 := by omega
  clear hK
  go_enter Try.func11, Try.ntmps11
  go_wp2_with fail
  refine (s_DrawUnrollWhile a0 len0 cap0 _ hin).mono ?_
  rintro e wa ⟨⟨p, t, n, r, ht, rfl⟩, hca⟩
  have hts : t.size ≤ 1048576 := Nat.le_trans ht.1 (by omega)
  have hrs : r.size ≤ 1048576 := Nat.le_trans ht.2 (by omega)
  clear hin w0 w1 ht
  go_wp2_with fail
  cases hok : (((trOk t && cvB p) && trOk r) && nB n)
  · have HOK := Lib.hid hok; clear hok
    refine (i_UnrollWhile p t n r _).mono ?_
    rw [HOK.out]
    rintro e wb ⟨rfl, hbb⟩
    have hcb := bel_on' hca hbb
    clear hbb hca
    go_wp2_with fail
    refine (s_UnrollWhile p t n r _ hts hrs).mono ?_
    rw [HOK.out]
    rintro e w' ⟨rfl, rfl⟩
    go_wp2_with fail
    go_ret
    exact ⟨rfl, hcb⟩
  · have hall := hok
    simp only [Bool.and_eq_true] at hok
    obtain ⟨⟨⟨hot, hcp⟩, hor⟩, hn⟩ := hok
    obtain ⟨M, hM, rfl⟩ := (cvB_iff p).1 hcp
    obtain ⟨N, hN, rfl⟩ := (nB_iff n).1 hn
    have mt := dig_mono hot
    have bt := dig_bd t
    have mr := dig_mono hor
    have br := dig_bd r
    have nK : nB (K : Int) = true := (nB_iff _).2 ⟨K, by omega, rfl⟩
    have bU := fUnroll_lt (T := dig t) hM br N
    obtain ⟨U, hU⟩ : ∃ U, U = txt 16 (fUnroll M (dig t) (dig r) N) := ⟨_, rfl⟩
    obtain ⟨B, hB⟩ : ∃ B, B = txt 16 (fUnroll M (dig t) (dig r) (N + K)) := ⟨_, rfl⟩
    obtain ⟨L, hL⟩ : ∃ L, L = txt 16 (fWhile M (dig t)) := ⟨_, rfl⟩
    have mU : ∀ n, Mono (fUnroll M (dig t) (dig r) n) := fun n => by
      intro x y hx hy h
      induction n with
      | zero => exact mr x y hx hy h
      | succ n ih => exact imp_turn (mt _ _ (fUnroll_lt hM br n x hx) (fUnroll_lt hM br n y hy) ih) h
    have oU : trOk U = true := by rw [hU]; exact trOk_txt bU (mU N)
    have oL : trOk L = true := by rw [hL]; exact trOk_txt (fWhile_bd hM) (fWhile_mono hM mt)
    have q1 : (#[Value.string (optS (((trOk t && cvB (M : Int)) && trOk r) && nB (N : Int)) (txt 16 (fUnroll (M : Int).toNat (dig t) (dig r) (N : Int).toNat))), .bool (((trOk t && cvB (M : Int)) && trOk r) && nB (N : Int))] : Array Value) = #[.string U, .bool true] := by rw [hall, hU]; rfl
    have q2 : (#[Value.string (optS (((trOk t && cvB (M : Int)) && trOk U) && nB (K : Int)) (txt 16 (fUnroll (M : Int).toNat (dig t) (dig U) (K : Int).toNat))), .bool (((trOk t && cvB (M : Int)) && trOk U) && nB (K : Int))] : Array Value) = #[.string B, .bool true] := by
      rw [hot, hcp, oU, nK]
      show #[Value.string (txt 16 (fUnroll M (dig t) (dig U) K)), Value.bool true] = _
      rw [hB, txt_congr (G := fUnroll M (dig t) (dig r) (N + K)) fun q hq => unroll_more (by rw [hU, dig_txt bU q hq]) K]
    have q3 : (#[Value.string (optS (trOk t && cvB (M : Int)) (txt 16 (fWhile (M : Int).toNat (dig t)))), .bool (trOk t && cvB (M : Int))] : Array Value) = #[.string L, .bool true] := by rw [hot, hcp, hL]; rfl
    have q4 : (#[Value.string (optS (((trOk t && cvB (M : Int)) && trOk L) && nB (N : Int)) (txt 16 (fUnroll (M : Int).toNat (dig t) (dig L) (N : Int).toNat))), .bool (((trOk t && cvB (M : Int)) && trOk L) && nB (N : Int))] : Array Value) = #[.string L, .bool true] := by
      rw [hot, hcp, oL, hn]
      show #[Value.string (txt 16 (fUnroll M (dig t) (dig L) N)), Value.bool true] = _
      rw [txt_congr (G := fWhile M (dig t)) fun q hq => unroll_loop bt mt hM hq (by rw [hL, dig_txt (fWhile_bd hM) q hq]) N, ← hL]
    have q5 : (#[Value.string (optS (((trOk t && cvB (M : Int)) && trOk ⟨#[48, 48, 48, 48, 48, 48, 48, 48, 48, 48, 48, 48, 48, 48, 48, 48]⟩) && nB 4) (txt 16 (fUnroll (M : Int).toNat (dig t) (dig ⟨#[48, 48, 48, 48, 48, 48, 48, 48, 48, 48, 48, 48, 48, 48, 48, 48]⟩) (4 : Int).toNat))), .bool (((trOk t && cvB (M : Int)) && trOk ⟨#[48, 48, 48, 48, 48, 48, 48, 48, 48, 48, 48, 48, 48, 48, 48, 48]⟩) && nB 4)] : Array Value) = #[.string L, .bool true] := by
      rw [hot, hcp, zeros_ok]
      show #[Value.string (txt 16 (fUnroll M (dig t) (dig _) 4)), Value.bool true] = _
      rw [txt_congr (G := fWhile M (dig t)) fun q hq => unroll_iter (zeros_dig q hq) 4, ← hL]
    have q6 : (#[Value.string (optS (((trOk t && cvB (M : Int)) && trOk ⟨#[48, 48, 48, 48, 48, 48, 48, 48, 48, 48, 48, 48, 48, 48, 48, 48]⟩) && nB 5) (txt 16 (fUnroll (M : Int).toNat (dig t) (dig ⟨#[48, 48, 48, 48, 48, 48, 48, 48, 48, 48, 48, 48, 48, 48, 48, 48]⟩) (5 : Int).toNat))), .bool (((trOk t && cvB (M : Int)) && trOk ⟨#[48, 48, 48, 48, 48, 48, 48, 48, 48, 48, 48, 48, 48, 48, 48, 48]⟩) && nB 5)] : Array Value) = #[.string L, .bool true] := by
      rw [hot, hcp, zeros_ok]
      show #[Value.string (txt 16 (fUnroll M (dig t) (dig _) 5)), Value.bool true] = _
      rw [txt_congr (G := fWhile M (dig t)) fun q hq => (unroll_iter (zeros_dig q hq) 5).trans (lfp_fix (eqW_bd hM hq) (eqW_mono mt M q)), ← hL]
    have q7 : refB (dig L) (dig L) 16 = true := (refB_iff _ _ _).2 fun i _ => imp_refl _
    have q8 : nB ((N : Int) + (K : Int)) = true → (#[Value.string (optS (((trOk t && cvB (M : Int)) && trOk r) && nB ((N : Int) + (K : Int))) (txt 16 (fUnroll (M : Int).toNat (dig t) (dig r) ((N : Int) + (K : Int)).toNat))), .bool (((trOk t && cvB (M : Int)) && trOk r) && nB ((N : Int) + (K : Int)))] : Array Value) = #[.string B, .bool true] := fun h => by
      rw [hot, hcp, hor, h, hB]; rfl
    have q9 : nB ((N : Int) + (K : Int)) = false → (#[Value.string (optS (((trOk t && cvB (M : Int)) && trOk r) && nB ((N : Int) + (K : Int))) (txt 16 (fUnroll (M : Int).toNat (dig t) (dig r) ((N : Int) + (K : Int)).toNat))), .bool (((trOk t && cvB (M : Int)) && trOk r) && nB ((N : Int) + (K : Int)))] : Array Value) = #[.string ⟨#[]⟩, .bool false] := fun h => by
      rw [hot, hcp, hor, h]; rfl
    have Q1 := Lib.hid q1; have Q2 := Lib.hid q2; have Q3 := Lib.hid q3; have Q4 := Lib.hid q4; have Q5 := Lib.hid q5; have Q6 := Lib.hid q6; have Q7 := Lib.hid q7; have Q8 := Lib.hid q8; have Q9 := Lib.hid q9; have OL := Lib.hid oL
    clear q1 q2 q3 q4 q5 q6 q7 q8 q9 hot hcp hor hn mt bt mr br nK bU hU hB hL mU oU oL hall
    refine (i_UnrollWhile M t N r _).mono ?_
    rw [Q1.out]
    rintro e wb ⟨rfl, hbb⟩
    have hcb := bel_on' hca hbb
    clear hbb hca
    go_wp2_with fail
    refine (s_UnrollWhile M t N r _ hts hrs).mono ?_
    rw [Q1.out]
    rintro e w' ⟨rfl, rfl⟩
    go_wp2_with fail
    refine (i_UnrollWhile M t K U _).mono ?_
    rw [Q2.out]
    rintro e wc ⟨rfl, hbc⟩
    have hcc := bel_on' hcb hbc
    clear hbc hcb
    go_wp2_with fail
    cases hf : nB ((N : Int) + (K : Int))
    · have HF := Lib.hid hf; clear hf
      refine (i_UnrollWhile M t ((N : Int) + (K : Int)) r _).mono ?_
      rw [Q9.out HF.out]
      rintro e wd ⟨rfl, hbd⟩
      have hcd := bel_on' hcc hbd
      clear hbd hcc
      go_wp2_with fail
      refine (i_WhileTrans M t _).mono ?_
      rw [Q3.out]
      rintro e we ⟨rfl, hbe⟩
      have hce := bel_on' hcd hbe
      clear hbe hcd
      go_wp2_with fail
      refine (i_UnrollWhile M t N L _).mono ?_
      rw [Q4.out]
      rintro e wf ⟨rfl, hbf⟩
      have hcf := bel_on' hce hbf
      clear hbf hce
      go_wp2_with fail
      refine (i_UnrollWhile M t 4 ⟨#[48, 48, 48, 48, 48, 48, 48, 48, 48, 48, 48, 48, 48, 48, 48, 48]⟩ _).mono ?_
      rw [Q5.out]
      rintro e wg ⟨rfl, hbg⟩
      have hcg := bel_on' hcf hbg
      clear hbg hcf
      go_wp2_with fail
      refine (i_UnrollWhile M t 5 ⟨#[48, 48, 48, 48, 48, 48, 48, 48, 48, 48, 48, 48, 48, 48, 48, 48]⟩ _).mono ?_
      rw [Q6.out]
      rintro e wh ⟨rfl, hbh⟩
      have hch := bel_on' hcg hbh
      clear hbh hcg
      go_wp2_with fail
      refine (i_RefinesN L L _ OL.out OL.out).mono ?_
      rw [Q7.out]
      rintro e wi ⟨rfl, hbi⟩
      have hci := bel_on' hch hbi
      clear hbi hch
      go_wp2_with fail
      go_ret
      exact ⟨rfl, hci⟩
    · have HF := Lib.hid hf; clear hf
      refine (i_UnrollWhile M t ((N : Int) + (K : Int)) r _).mono ?_
      rw [Q8.out HF.out]
      rintro e wd ⟨rfl, hbd⟩
      have hcd := bel_on' hcc hbd
      clear hbd hcc
      go_wp2_with fail
      refine (i_WhileTrans M t _).mono ?_
      rw [Q3.out]
      rintro e we ⟨rfl, hbe⟩
      have hce := bel_on' hcd hbe
      clear hbe hcd
      go_wp2_with fail
      refine (i_UnrollWhile M t N L _).mono ?_
      rw [Q4.out]
      rintro e wf ⟨rfl, hbf⟩
      have hcf := bel_on' hce hbf
      clear hbf hce
      go_wp2_with fail
      refine (i_UnrollWhile M t 4 ⟨#[48, 48, 48, 48, 48, 48, 48, 48, 48, 48, 48, 48, 48, 48, 48, 48]⟩ _).mono ?_
      rw [Q5.out]
      rintro e wg ⟨rfl, hbg⟩
      have hcg := bel_on' hcf hbg
      clear hbg hcf
      go_wp2_with fail
      refine (i_UnrollWhile M t 5 ⟨#[48, 48, 48, 48, 48, 48, 48, 48, 48, 48, 48, 48, 48, 48, 48, 48]⟩ _).mono ?_
      rw [Q6.out]
      rintro e wh ⟨rfl, hbh⟩
      have hch := bel_on' hcg hbh
      clear hbh hcg
      go_wp2_with fail
      refine (i_RefinesN L L _ OL.out OL.out).mono ?_
      rw [Q7.out]
      rintro e wi ⟨rfl, hbi⟩
      have hci := bel_on' hch hbi
      clear hbi hch
      go_wp2_with fail
      go_ret
      exact ⟨rfl, hci⟩
theorem own : ownKnob Try.prog.godebug = none := by kernel_rfl
theorem laidOut : laidOutB Try.prog = true := by kernel_rfl
set_option maxRecDepth 100000 in
theorem lifted (os : Os) (started : os.Started) (H : Type) (enc : TypeId × Value → H) :
    ReturnsInHanded {} Try.checked os 11 .any (Rows.fnUnrollSpec.pre6 enc Try.prog Try.f11 Rows.fnUnrollRow.domain false) (Rows.fnUnrollSpec.post enc Try.prog Try.f11 false true false false) := by
  refine returnsInHanded_of_change (C := Try.checked) own started (by kernel_rfl) Try.func11
    (ChangeSpec.witness6 (enc := enc) (C := Try.checked) false ⟨#[], #[.slice none 0 0, .slice none 0 0], []⟩ 8 (by kernel_rfl) (by kernel_rfl) (by kernel_rfl) (by kernel_rfl)) ?_
  intro W base args ds gs before hval0 hW hcnd _
  have hval : ∀ (j : Nat) t v, Try.f11.params[j]? = some t → args[j]? = some v → Value.okWide Try.prog W .any base t v := hval0
  have hW' := hW
  obtain ⟨p, q, hA0, hV, rfl, hfz, hnd⟩ := hW
  have hA : DataW.TrodAll enc Try.prog W 0 (fun _ => true) true Try.f11.params.toList args.toList ds p := hA0
  rw [Try.params11] at hA hval
  obtain ⟨v0, vs0, d0, ds0, p0, q0, hargs, rfl, rfl, h0, r0⟩ := trodAll_cons hA
  obtain ⟨v1, vs1, d1, ds1, p1, q1, rfl, rfl, rfl, h1, r1⟩ := trodAll_cons r0
  obtain ⟨rfl, rfl, rfl⟩ := trodAll_nil r1
  obtain rfl : args = #[v0, v1] := by cases args; simp_all
  obtain ⟨rfl, rfl⟩ := trodVars_none hV
  obtain ⟨a0, len0, cap0, rfl⟩ := okWide_slice Try.underlying34 (hval 0 34 v0 rfl rfl)
  have k0 := h0
  have lt0 : ∀ x ∈ p0, x.block < W.heap.size := by obtain ⟨m, hm⟩ := k0; exact DataW.trod_lt m _ _ _ hm
  obtain ⟨z0, w0⟩ : ∃ zs, IsRow .u8 W a0 len0 cap0 zs := by
    obtain ⟨fuel, hf⟩ := h0
    rcases open_ints Try.underlying34 Try.underlying5 (by kernel_rfl) hf with ⟨hcs, _⟩ | ⟨x, l, c, zs, hcs, _, hl, hm, hz, _, hcell, hwz⟩
    · simp [Value.cells] at hcs
      obtain ⟨rfl, rfl, rfl⟩ := hcs
      exact ⟨[], .inl ⟨rfl, rfl, rfl, rfl⟩⟩
    · simp [Value.cells] at hcs
      obtain ⟨rfl, rfl, rfl⟩ := hcs
      exact ⟨zs, .inr ⟨_, rfl, hl, hm, by simpa using hz, hcell, hwz⟩⟩
  obtain ⟨a1, len1, cap1, rfl⟩ := okWide_slice Try.underlying34 (hval 1 34 v1 rfl rfl)
  have k1 := h1
  have lt1 : ∀ x ∈ p1, x.block < W.heap.size := by obtain ⟨m, hm⟩ := k1; exact DataW.trod_lt m _ _ _ hm
  obtain ⟨z1, w1⟩ : ∃ zs, IsRow .u8 W a1 len1 cap1 zs := by
    obtain ⟨fuel, hf⟩ := h1
    rcases open_ints Try.underlying34 Try.underlying5 (by kernel_rfl) hf with ⟨hcs, _⟩ | ⟨x, l, c, zs, hcs, _, hl, hm, hz, _, hcell, hwz⟩
    · simp [Value.cells] at hcs
      obtain ⟨rfl, rfl, rfl⟩ := hcs
      exact ⟨[], .inl ⟨rfl, rfl, rfl, rfl⟩⟩
    · simp [Value.cells] at hcs
      obtain ⟨rfl, rfl, rfl⟩ := hcs
      exact ⟨zs, .inr ⟨_, rfl, hl, hm, by simpa using hz, hcell, hwz⟩⟩
  clear hA0 hval0
  refine (law_FnUnroll a0 len0 cap0 z0 a1 len1 cap1 z1 W w0 w1).mono fun e W' ⟨he, bel⟩ => ?_
  subst he
  exact ⟨_, rfl, _, _, _, [], _, [], hW', trodAll_mk1 (shut_bool Try.underlying4 _), (trodAll_cons_mk (Below.trod laidOut (by kernel_rfl) (of_decide_eq_true (by kernel_rfl)) k0 bel lt0) (trodAll_cons_mk (Below.trod laidOut (by kernel_rfl) (of_decide_eq_true (by kernel_rfl)) k1 bel lt1) trodAll_mk0)), rfl, bel.frame _, fun h => by cases h⟩
theorem over : Rows.fnUnrollRow.holds Try.pinned (OpenSpec.ofChange Rows.fnUnrollSpec) :=
  OpenClaim.holds_of_wide 11 Try.f11 rfl rfl rfl rfl rfl rfl rfl ⟨rfl, rfl, rfl, rfl, rfl⟩ rfl rfl rfl rfl rfl (by kernel_rfl) Try.func11 (by kernel_rfl)
    (of_decide_eq_true (by kernel_rfl)) (by unfold Func.isWrapper; rw [if_neg (of_decide_eq_false (by kernel_rfl))]; exact ⟨rfl, rfl⟩)
    (fun os started H enc _ => lifted os started H enc)
/-- The statement. -/
theorem proved : Rows.FnUnrollSaid := over
end Go.Proofs.Ytmhiphcnclkhhaa.fnUnroll
