/- Exactly the states that reach the condition have a rank, and ranks fall on the way: no condition. -/
import Derived.Test.YtmhiphcnclkhhaaRows
import Derived.WalkKit
import Derived.ProofKit
import Derived.OpenShut
import Derived.ShutString
import Derived.ChangeOld
import Derived.Below
import Derived.Test.YtmhiphcnclkhhaaSpecR
import Derived.Test.YtmhiphcnclkhhaaImplRk
import Derived.Test.YtmhiphcnclkhhaaImplF
import Derived.Test.YtmhiphcnclkhhaaDrawF
import Derived.Test.YtmhiphcnclkhhaaPlainR
namespace Go.Proofs.Ytmhiphcnclkhhaa.fnRanks
set_option linter.unusedSimpArgs false
set_option linter.unusedVariables false
set_option maxRecDepth 4000
open Go.ChangeShapes Go.WideShapes Go.ChangeAt Go.RowKit
open Go.ChangeMaps (open_string shut_string)
set_option linter.unusedVariables false
set_option maxHeartbeats 4000000 in
theorem law_FnRanks (a0 : Option Addr) (len0 cap0 : Nat) (z0 : List Int) (w : World) (w0 : IsRow .u8 w a0 len0 cap0 z0) :
    Calls Try.prog 8 #[.slice a0 len0 cap0] w fun e w' => e = .returned (.bool true) ∧ Below w.heap.size w w' := by
  have hin := ByteIn.of_row w0
  by_cases h0 : len0 ≤ 1048576
  rotate_left
  · go_enter Try.func8, Try.ntmps8
    go_wp2_with fail
    go_ret
    exact ⟨rfl, Below.refl _ _⟩
  go_enter Try.func8, Try.ntmps8
  go_wp2_with fail
  refine (s_DrawRanksOf a0 len0 cap0 _ hin).mono ?_
  rintro e wa ⟨⟨t, p, ht, rfl⟩, hca⟩
  have hts : t.size ≤ 1048576 := Nat.le_trans ht (by omega)
  clear hin w0 ht
  go_wp2_with fail
  cases hok : (trOk t && cvB p)
  · have HOK := Lib.hid hok; clear hok
    refine (i_RanksOf t p _).mono ?_
    rw [HOK.out]
    rintro e wb ⟨v1, rfl, hi1, hb1⟩
    obtain ⟨g1, k1, r1, rfl, -⟩ := hi1
    have hcb := bel_on' hca hb1
    clear hca hb1
    go_wp2_with fail
    refine (s_RanksOf t p _ hts).mono ?_
    rw [HOK.out]
    rintro e wc ⟨v2, rfl, hi2, hb2⟩
    obtain ⟨g2, k2, r2, rfl, -⟩ := hi2
    have hcc := bel_on' hcb hb2
    clear hcb hb2
    go_wp2_with fail
    go_ret
    exact ⟨rfl, hcc⟩
  · have hall := hok
    simp only [Bool.and_eq_true] at hok
    obtain ⟨hot, hcp⟩ := hok
    obtain ⟨n, hn, rfl⟩ := (cvB_iff p).1 hcp
    have mt := dig_mono hot
    have bt := dig_bd t
    obtain ⟨R, hR⟩ : ∃ R, R = rank (dig t) n := ⟨_, rfl⟩
    obtain ⟨Z, hZ⟩ : ∃ Z, Z = zrow 4 R := ⟨_, rfl⟩
    have hZl : Z.length = 4 := by rw [hZ, zrow_len]
    have q1 : (if (trOk t && cvB (n : Int)) = true then zrow 4 (rank (dig t) (n : Int).toNat) else []) = Z := by rw [hall, hZ, hR]; rfl
    have q2 : rkList (trOk t && cvB (n : Int)) (dig t) (n : Int).toNat = Z := by rw [hall, hZ, hR]; rfl
    have hget : ∀ k, k < 4 → Z[k]? = some (R k) := fun k hk => by rw [hZ]; exact zrow_get _ _ k hk
    have p1 : ∀ k, (R k == 0) = n.testBit k := fun k => by rw [hR]; exact rank_zero bt mt hn k
    have p2 : ∀ k, 0 < R k → (dig t (lessTo n R k 4)).testBit k = true := fun k h => by rw [hR] at h ⊢; exact rank_less bt mt hn k h
    have p3 : optI (trOk t && cvB (n : Int)) (lfp (eqO (dig t) (n : Int).toNat)) = ((mkC (fun s => decide (0 ≤ R s)) 4 : Nat) : Int) := by
      rw [hall, hR, rank_all bt mt hn]; rfl
    have p4 : ∀ k, R k < 5 := fun k => by rw [hR]; exact rank_lt _ _ _
    have p5 : ∀ k, -1 ≤ R k := fun k => by rw [hR]; exact rank_ge _ _ _
    have Q1 := Lib.hid q1; have Q2 := Lib.hid q2; have GET := Lib.hid hget; have P1 := Lib.hid p1; have P2 := Lib.hid p2; have P3 := Lib.hid p3; have P4 := Lib.hid p4; have P5 := Lib.hid p5; have OT := Lib.hid hot; have HZL := Lib.hid hZl
    clear q1 q2 hget p1 p2 p3 p4 p5 hot hcp mt bt hR hZ hall hZl
    refine (i_RanksOf t n _).mono ?_
    rw [Q1.out]
    rintro e wb ⟨v1, rfl, hi1, hb1⟩
    have hcb := bel_on' hca hb1
    clear hca hb1
    obtain ⟨g1, k1, r1, rfl, _, a3, a4, a5, a6, a7⟩ := hi1
    have A7 := Lib.hid a7; have A3 := Lib.hid a3
    clear a7 a4 a3
    rw [HZL.out] at a5 ⊢
    go_wp2_with fail
    refine (s_RanksOf t n _ hts).mono ?_
    rw [Q2.out]
    rintro e wc ⟨v2, rfl, hi2, hb2⟩
    have hcc := bel_on' hcb hb2
    have A3' := Lib.hid (A3.out.later hb2)
    clear hcb hb2 A3
    obtain ⟨g2, k2, r2, rfl, _, b3, b4, b5, b6, b7⟩ := hi2
    have B7 := Lib.hid b7; have B3 := Lib.hid b3
    clear b7 b4 b3
    rw [HZL.out] at b5 ⊢
    go_wp2_with fail
    go_loopw [7, 8] (fun a i wr => ∃ k : Nat, k ≤ 4 ∧ i = .int .i64 k ∧ a = .int .i64 (mkC (fun s => decide (0 ≤ R s)) k : Int) ∧ Hid (RowAt wr g1 3 r1) ∧ Hid (RowAt wr g2 3 r2) ∧ Below w.heap.size w wr) (fun _ i _ => 4 - (intOf i).toNat)
    case atStart => exact ⟨0, by omega, rfl, rfl, A3', B3, hcc⟩
    case round =>
      clear hcc A3' B3
      obtain ⟨k, hk, rfl, rfl, R1, R2, hc0⟩ := hrel
      by_cases hlt : k < 4
      · have hd : decide ((k : Int) < 4) = true := by simp; omega
        have c1 : wr.cell? ⟨g1, k, none⟩ = some (.int .i64 (R k)) := (R1.out.get k).trans (A7.out k _ (GET.out k hlt))
        have c2 : wr.cell? ⟨g2, k, none⟩ = some (.int .i64 (R k)) := (R2.out.get k).trans (B7.out k _ (GET.out k hlt))
        have i1 := lt_cast hlt
        have b1 := P1.out k
        have hR4 : decide (4 < R k) = false := decide_eq_false (by have := P4.out k; omega)
        have hB := fun w => (i_HasN n k w hn hlt).mono (R' := fun e w' => e = .returned (.bool (n.testBit k)) ∧ w' = w) fun e w' h => ⟨h.1, h.2.symm⟩
        have HB := Lib.hid hB; clear hB
        have hz : mkC (fun s => decide (0 ≤ R s)) k < 65536 := Nat.lt_of_lt_of_le (mkC_lt _ k) (Nat.pow_le_pow_right (n := 2) (j := 16) (by decide) (by omega))
        have e1 := wrap_one (t := k) (by omega)
        have e2 := bits_or_nat _ _ hz (one_lt16 (t := k) (by omega))
        by_cases hneg : R k < 0
        · have hmk : mkC (fun s => decide (0 ≤ R s)) (k + 1) = mkC (fun s => decide (0 ≤ R s)) k := by rw [mkC, if_neg (by simp; omega)]
          have HMK := Lib.hid hmk; clear hmk
          have d1 : decide (R k < 0) = true := decide_eq_true hneg
          go_wp2_with fail
          go_quiet ((go_at_call 34; exact Calls.quiet_of_same (HB.out _)))
          go_wp2_with fail
          clear d1
          go_roundw
          case rel => exact ⟨k + 1, by omega, by go_num, by rw [HMK.out], Lib.hid (R1.out.drewN _), Lib.hid (R2.out.drewN _), bel_drewN hc0 _⟩
          case measure => simp [intOf]; omega
        · have hmk : mkC (fun s => decide (0 ≤ R s)) (k + 1) = mkC (fun s => decide (0 ≤ R s)) k ||| one k := by rw [mkC, if_pos (by simp; omega)]; rfl
          have HMK := Lib.hid hmk; clear hmk
          have d1 : decide (R k < 0) = false := decide_eq_false hneg
          go_wp2_with fail
          go_quiet ((go_at_call 34; exact Calls.quiet_of_same (HB.out _)))
          go_wp2_with fail
          clear d1 c1 c2 hR4 b1 e1 e2
          go_loopw [9, 10] (fun l i wq => ∃ u : Nat, u ≤ 4 ∧ i = .int .i64 u ∧ l = .int .i64 (lessTo n R k u : Int) ∧ Hid (RowAt wq g1 3 r1) ∧ Hid (RowAt wq g2 3 r2) ∧ Below w.heap.size w wq) (fun _ i _ => 4 - (intOf i).toNat)
          case atStart => exact ⟨0, by omega, rfl, rfl, Lib.hid (R1.out.drewN _), Lib.hid (R2.out.drewN _), bel_drewN hc0 _⟩
          case round =>
            clear hc0 R1 R2
            obtain ⟨u, hu, rfl, rfl, R1, R2, hc0⟩ := hrel
            by_cases hlu : u < 4
            · have c1 : wr.cell? ⟨g1, u, none⟩ = some (.int .i64 (R u)) := (R1.out.get u).trans (A7.out u _ (GET.out u hlu))
              have c2 : wr.cell? ⟨g1, k, none⟩ = some (.int .i64 (R k)) := (R1.out.get k).trans (A7.out k _ (GET.out k hlt))
              have i2 := lt_cast hlu
              have hw := wrap_one (t := u) (by omega)
              have hl := lessTo_lt hn R k u hu
              have e5 := bits_or_nat (lessTo n R k u) (one u) (by omega) (one_lt16 (by omega))
              by_cases hge : 0 ≤ R u
              · have d2 : decide (0 ≤ R u) = true := decide_eq_true hge
                by_cases hru : R u < R k
                · have d3 : decide (R u < R k) = true := decide_eq_true hru
                  have hyes : lessTo n R k (u + 1) = lessTo n R k u ||| one u := by rw [lessTo, if_pos ⟨hge, hru⟩]
                  have HY := Lib.hid hyes; clear hyes
                  go_wp2_with fail
                  go_quiet (fail)
                  go_wp2_with fail
                  go_roundw
                  case rel => exact ⟨u + 1, by omega, by go_num, by rw [HY.out], Lib.hid (R1.out.drewN _), Lib.hid (R2.out.drewN _), bel_drewN hc0 _⟩
                  case measure => simp [intOf]; omega
                · have d3 : decide (R u < R k) = false := decide_eq_false hru
                  have hno : lessTo n R k (u + 1) = lessTo n R k u := by rw [lessTo, if_neg (fun h => hru h.2)]
                  have HN := Lib.hid hno; clear hno
                  go_wp2_with fail
                  go_quiet (fail)
                  go_wp2_with fail
                  go_roundw
                  case rel => exact ⟨u + 1, by omega, by go_num, by rw [HN.out], Lib.hid (R1.out.drewN _), Lib.hid (R2.out.drewN _), bel_drewN hc0 _⟩
                  case measure => simp [intOf]; omega
              · have d2 : decide (0 ≤ R u) = false := decide_eq_false hge
                have hno : lessTo n R k (u + 1) = lessTo n R k u := by rw [lessTo, if_neg (fun h => hge h.1)]
                have HN := Lib.hid hno; clear hno
                go_wp2_with fail
                go_quiet (fail)
                go_wp2_with fail
                go_roundw
                case rel => exact ⟨u + 1, by omega, by go_num, by rw [HN.out], Lib.hid (R1.out.drewN _), Lib.hid (R2.out.drewN _), bel_drewN hc0 _⟩
                case measure => simp [intOf]; omega
            · obtain rfl : u = 4 := by omega
              have c2 : wr.cell? ⟨g1, k, none⟩ = some (.int .i64 (R k)) := (R1.out.get k).trans (A7.out k _ (GET.out k hlt))
              have hl := lessTo_lt hn R k 4 (by omega)
              have hTl := dig_lt t (lessTo n R k 4)
              by_cases hpos : 0 < R k
              · have d4 : decide (0 < R k) = true := decide_eq_true hpos
                have P2k := P2.out k hpos
                have HP2 := Lib.hid P2k; clear P2k
                go_wp2_with fail
                refine (i_ApplyN t (lessTo n R k 4) _ OT.out hl).mono ?_
                rintro e wd ⟨rfl, hbd⟩
                have R1' := Lib.hid (R1.out.later hbd); have R2' := Lib.hid (R2.out.later hbd)
                have hcd := bel_on' hc0 hbd
                clear hbd
                go_wp2_with fail
                refine (i_HasN _ k _ hTl hlt).mono ?_
                rw [HP2.out]
                rintro e w' ⟨rfl, rfl⟩
                go_wp2_with fail
                go_roundw
                case rel => exact ⟨k + 1, by omega, by go_num, by rw [HMK.out], R1', R2', hcd⟩
                case measure => simp [intOf]; omega
              · have d4 : decide (0 < R k) = false := decide_eq_false hpos
                go_wp2_with fail
                go_roundw
                case rel => exact ⟨k + 1, by omega, by go_num, by rw [HMK.out], R1, R2, hc0⟩
                case measure => simp [intOf]; omega
      · obtain rfl : k = 4 := by omega
        go_wp2_with fail
        refine (i_LeastFrom t n _).mono ?_
        rw [P3.out]
        rintro e wd ⟨rfl, hbd⟩
        go_wp2_with fail
        go_ret
        exact ⟨rfl, bel_on' hc0 hbd⟩
theorem own : ownKnob Try.prog.godebug = none := by kernel_rfl
theorem laidOut : laidOutB Try.prog = true := by kernel_rfl
set_option maxRecDepth 100000 in
theorem lifted (os : Os) (started : os.Started) (H : Type) (enc : TypeId × Value → H) :
    ReturnsInHanded {} Try.checked os 8 .any (Rows.fnRanksSpec.pre6 enc Try.prog Try.f8 Rows.fnRanksRow.domain false) (Rows.fnRanksSpec.post enc Try.prog Try.f8 false true false false) := by
  refine returnsInHanded_of_change (C := Try.checked) own started (by kernel_rfl) Try.func8
    (ChangeSpec.witness6 (enc := enc) (C := Try.checked) false ⟨#[], #[.slice none 0 0], []⟩ 8 (by kernel_rfl) (by kernel_rfl) (by kernel_rfl) (by kernel_rfl)) ?_
  intro W base args ds gs before hval0 hW hcnd _
  have hval : ∀ (j : Nat) t v, Try.f8.params[j]? = some t → args[j]? = some v → Value.okWide Try.prog W .any base t v := hval0
  have hW' := hW
  obtain ⟨p, q, hA0, hV, rfl, hfz, hnd⟩ := hW
  have hA : DataW.TrodAll enc Try.prog W 0 (fun _ => true) true Try.f8.params.toList args.toList ds p := hA0
  rw [Try.params8] at hA hval
  obtain ⟨v0, vs0, d0, ds0, p0, q0, hargs, rfl, rfl, h0, r0⟩ := trodAll_cons hA
  obtain ⟨rfl, rfl, rfl⟩ := trodAll_nil r0
  obtain rfl : args = #[v0] := by cases args; simp_all
  obtain ⟨rfl, rfl⟩ := trodVars_none hV
  obtain ⟨a0, len0, cap0, rfl⟩ := okWide_slice Try.underlying34 (hval 0 34 v0 rfl rfl)
  have k0 := h0
  have lt0 : ∀ x ∈ p0, x.block < W.heap.size := by obtain ⟨m, hm⟩ := k0; exact DataW.trod_lt m _ _ _ hm
  obtain ⟨z0, w0⟩ : ∃ zs, IsRow .u8 W a0 len0 cap0 zs := by
    obtain ⟨fuel, hf⟩ := h0
    rcases open_ints Try.underlying34 Try.underlying5 (by kernel_rfl) hf with ⟨hcs, _⟩ | ⟨x, l, c, zs, hcs, _, hl, hm, hz, _, hcell, hwz⟩
    · simp [Value.cells] at hcs
      obtain ⟨rfl, rfl, rfl⟩ := hcs
      exact ⟨[], .inl ⟨rfl, rfl, rfl, rfl⟩⟩
    · simp [Value.cells] at hcs
      obtain ⟨rfl, rfl, rfl⟩ := hcs
      exact ⟨zs, .inr ⟨_, rfl, hl, hm, by simpa using hz, hcell, hwz⟩⟩
  clear hA0 hval0
  refine (law_FnRanks a0 len0 cap0 z0 W w0).mono fun e W' ⟨he, bel⟩ => ?_
  subst he
  exact ⟨_, rfl, _, _, _, [], _, [], hW', trodAll_mk1 (shut_bool Try.underlying4 _), (trodAll_cons_mk (Below.trod laidOut (by kernel_rfl) (of_decide_eq_true (by kernel_rfl)) k0 bel lt0) trodAll_mk0), rfl, bel.frame _, fun h => by cases h⟩
theorem over : Rows.fnRanksRow.holds Try.pinned (OpenSpec.ofChange Rows.fnRanksSpec) :=
  OpenClaim.holds_of_wide 8 Try.f8 rfl rfl rfl rfl rfl rfl rfl ⟨rfl, rfl, rfl, rfl, rfl⟩ rfl rfl rfl rfl rfl (by kernel_rfl) Try.func8 (by kernel_rfl)
    (of_decide_eq_true (by kernel_rfl)) (by unfold Func.isWrapper; rw [if_neg (of_decide_eq_false (by kernel_rfl))]; exact ⟨rfl, rfl⟩)
    (fun os started H enc _ => lifted os started H enc)
/-- The statement. -/
theorem proved : Rows.FnRanksSaid := over
end Go.Proofs.Ytmhiphcnclkhhaa.fnRanks
