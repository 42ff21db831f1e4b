/- The program's reader of contracts: the walk. -/
import Derived.Test.YtiaeakpgldpaiaaImplQ
namespace Go.Proofs.Ytiaeakpgldpaiaa
set_option linter.unusedSimpArgs false
set_option linter.unusedVariables false
set_option maxRecDepth 4000
open Go.RowKit

theorem rd_none {c : ByteArray} {f a np : Nat} (ha : a < c.size) (hP : shpP (byt c a) = (np : Int)) (h : digs c (a + 1) (shpD (byt c a)) = false ∨ seqRd c f np (a + 1 + shpD (byt c a)) = none) : rd c (f + 1) a = none := by
  rw [rd_seq ha hP]
  rcases h with h | h
  · rw [h]; rfl
  · rw [h]; split <;> rfl
theorem rd_some {c : ByteArray} {f a np e : Nat} {xs : List Ct} (ha : a < c.size) (hP : shpP (byt c a) = (np : Int)) (h : digs c (a + 1) (shpD (byt c a)) = true) (h' : seqRd c f np (a + 1 + shpD (byt c a)) = some (xs, e)) : rd c (f + 1) a = some (mkCt (byt c a) (digF c (a + 1) (shpD (byt c a))) xs, e) := by
  rw [rd_seq ha hP, if_pos h, h']; rfl
set_option maxHeartbeats 4000000 in
theorem i_readFrom (c : ByteArray) (hc : c.size ≤ 200) : ∀ (f a : Nat) (z : Int) (w : World), z = (a : Int) → c.size ≤ a + f → Calls Try.prog 189 #[.string c, .int .i64 z] w (RdPost w (rd c f a)) := by
  intro f
  induction f with
  | zero =>
    intro a z w hz hf
    subst hz
    go_enter Try.func189, Try.ntmps189
    go_wp2_with fail
    go_ret2
    exact ⟨Below.refl _ _, rfl⟩
  | succ f ih =>
    intro a z w hz hf
    subst hz
    have IH := Lib.hid ih; clear ih
    by_cases hlt : a < c.size
    rotate_left
    · have hr := rd_end (c := c) (f := f + 1) (a := a) (by omega)
      rw [hr]
      clear hr
      go_enter Try.func189, Try.ntmps189
      go_wp2_with fail
      go_ret2
      exact ⟨Below.refl _ _, rfl⟩
    have hbyt := byt_get c a hlt
    have hle := shpD_le (byt c a)
    rcases shpP_cases (byt c a) with ⟨hP, hbad⟩ | ⟨np, hnp, hP⟩
    · rw [hbad c f a rfl]
      rw [← hbyt] at hP hle
      have HP := Lib.hid hP; clear hP hbad hbyt
      go_enter Try.func189, Try.ntmps189
      go_wp2_with fail
      refine (i_shapeOf (c[a]'hlt) _ _ rfl).mono ?_
      rw [HP.out]
      rintro e w' ⟨rfl, rfl⟩
      go_wp2_with fail
      go_ret2
      exact ⟨Below.refl _ _, rfl⟩
    have hno := fun h => rd_none (f := f) hlt hP h
    have hyes := fun (e : Nat) (xs : List Ct) h h' => rd_some (f := f) (e := e) (xs := xs) hlt hP h h'
    have hwhole := fun (B : Nat) (wr : World) (S : Nat → Prop) (v : Value) (xs : List Ct) (bs : List Nat) (tx : ByteArray) (W : Nat) h h1 h2 h3 => Kids.whole (c := c) (a := a) (np := np) (B := B) (wr := wr) (S := S) (v := v) (xs := xs) (bs := bs) (tx := tx) (W := W) h hP hnp h1 h2 h3
    obtain ⟨n, hn⟩ : ∃ n, n = shpD (byt c a) := ⟨_, rfl⟩
    obtain ⟨op, hop⟩ : ∃ op, op = byt c a := ⟨_, rfl⟩
    rw [← hop] at hn hP hle
    rw [← hop, ← hn] at hno hyes hwhole
    rw [← hn] at hle
    have hopc : c[a]'hlt = op := by rw [hbyt, hop]
    have hPc : shpP (c[a]'hlt) = (np : Int) := by rw [hopc]; exact hP
    have hDc : shpD (c[a]'hlt) = n := by rw [hopc]; exact hn.symm
    have HPC := Lib.hid hPc; have HDC := Lib.hid hDc; have HNO := Lib.hid hno; have HOPC := Lib.hid hopc
    have HYES := Lib.hid hyes; have HW := Lib.hid hwhole
    clear hPc hDc hno hyes hwhole hopc hbyt hop hn hP
    by_cases hfar : a + 1 + n ≤ c.size
    rotate_left
    · have hr := HNO.out (.inl (digs_far hfar))
      rw [hr]
      clear hr
      go_enter Try.func189, Try.ntmps189
      go_wp2_with fail
      refine (i_shapeOf (c[a]'hlt) _ _ rfl).mono ?_
      rw [HPC.out, HDC.out]
      rintro e w' ⟨rfl, rfl⟩
      go_wp2_with fail
      go_ret2
      exact ⟨Below.refl _ _, rfl⟩
    obtain ⟨D, hD⟩ : ∃ D : Nat → Nat, D = fun i => dig c (a + 1 + i) := ⟨_, rfl⟩
    have HD := Lib.hid hD; clear hD
    have hrow0 : RowAt (w.alloc (.cells (node (c[a]'hlt) 0 (fun _ => 0) (.slice none 0 0) ⟨#[]⟩) 122)) w.heap.size 122 (node (c[a]'hlt) 0 (fun _ => 0) (.slice none 0 0) ⟨#[]⟩) := RowAt.fresh _ _ _
    have hb0 := bel_1 w (.cells (node (c[a]'hlt) 0 (fun _ => 0) (.slice none 0 0) ⟨#[]⟩) 122)
    have d1 : decide ((np : Int) < 0) = false := decide_eq_false (by omega)
    have d2 : decide ((c.size : Int) < (a : Int) + 1 + (n : Int)) = false := decide_eq_false (by omega)
    go_enter Try.func189, Try.ntmps189
    go_wp2_with fail
    refine (i_shapeOf (c[a]'hlt) _ _ rfl).mono ?_
    rw [HPC.out, HDC.out]
    rintro e w' ⟨rfl, rfl⟩
    go_wp2_with fail
    clear d1 d2
    go_loopw [10] (fun t wr => ∃ j : Nat, j ≤ n ∧ t = .int .i64 ((a : Int) + 1 + (j : Int)) ∧ Hid (∀ i, i < j → 0 ≤ hexVal (byt c (a + 1 + i))) ∧ RowAt wr w.heap.size 122 (node op (pJ D j) (rJ n D j) (.slice none 0 0) ⟨#[]⟩) ∧ Below w.heap.size w wr) (fun t _ => (a + 1 + n : Nat) - (intOf t).toNat)
    case atStart =>
      refine ⟨0, by omega, by go_num, Lib.hid fun i hi => by omega, ?_, hb0⟩
      exact hrow0.of (by rw [HOPC.out]; exact node_congr (R := fun _ => 0) (Q := rJ n D 0) rfl fun i _ => by unfold rJ; rw [if_neg (by omega)])
    case round =>
      clear hrow0 hb0
      obtain ⟨j, hj, rfl, HX, hrow, hbel⟩ := hrel
      by_cases hjn : j < n
      · have hlk : a + 1 + j < c.size := by omega
        have hg := byt_get c (a + 1 + j) hlk
        have HG := Lib.hid hg; clear hg
        by_cases hneg : hexVal (c[a + 1 + j]'hlk) < 0
        · have hr := HNO.out (.inl (digs_no hjn (by rw [← HG.out]; exact hneg)))
          rw [hr]
          clear hr
          go_wp2_with fail
          refine (i_digitOf (c[a + 1 + j]'hlk) _).mono ?_
          rintro e w' ⟨rfl, rfl⟩
          go_wp2_with fail
          go_ret2
          exact ⟨hbel, rfl⟩
        · have hv : hexVal (c[a + 1 + j]'hlk) = (D j : Int) := by rw [HG.out, HD.out]; exact hexVal_nat (by rw [← HG.out]; omega)
          have hnn : ¬ ((D j : Int) < 0) := by omega
          have HV := Lib.hid hv; clear hv
          have c1 : wr.cell? ⟨w.heap.size, 1, none⟩ = some (.int .i64 (pJ D j : Int)) := hrow.get 1
          have f1 := hrow.free 1
          have hnext : ∀ i, i < j + 1 → 0 ≤ hexVal (byt c (a + 1 + i)) := fun i hi => by
            rcases Nat.lt_or_ge i j with h | h
            · exact HX.out i h
            · obtain rfl : i = j := by omega
              rw [← HG.out]; omega
          have HN := Lib.hid hnext; clear hnext
          by_cases h4 : n = 4
          · have b4 : ((n : Int) == 4) = true := by simp [h4]
            have hj4 : j < 4 := by omega
            have c2 : wr.cell? ⟨w.heap.size, 2 + j, none⟩ = some (.int .i64 (rJ n D j j : Int)) := (hrow.get (2 + j)).trans (node_rget _ _ _ _ _ j hj4)
            have f2 := hrow.free (2 + j)
            have i1 := lt_cast hj4
            have ei : (a : Int) + 1 + (j : Int) - (a : Int) - 1 = (j : Int) := by omega
            have H4 := Lib.hid h4; clear h4
            go_wp2_with fail
            refine (i_digitOf (c[a + 1 + j]'hlk) _).mono ?_
            rw [HV.out]
            rintro e w' ⟨rfl, rfl⟩
            go_wp2_with fail
            go_roundw
            case rel =>
              refine ⟨j + 1, by omega, by go_num, HN, ?_, (hbel.setCell (by simp) _).setCell (by simp) _⟩
              have h := ((hrow.setAt 1 (.int .i64 (D j : Int))).setAt (2 + j) (.int .i64 (D j : Int)))
              rw [node_p, node_r _ _ _ _ _ _ j hj4] at h
              exact h.of (node_congr (pJ_succ D j).symm fun i _ => rJ_upd n D j H4.out i)
            case measure => simp [intOf]; omega
          · have b4 : ((n : Int) == 4) = false := by rw [beq_eq_false_iff_ne]; omega
            have H4 := Lib.hid h4; clear h4
            go_wp2_with fail
            refine (i_digitOf (c[a + 1 + j]'hlk) _).mono ?_
            rw [HV.out]
            rintro e w' ⟨rfl, rfl⟩
            go_wp2_with fail
            go_roundw
            case rel =>
              refine ⟨j + 1, by omega, by go_num, HN, ?_, hbel.setCell (by simp) _⟩
              have h := (hrow.setAt 1 (.int .i64 (D j : Int)))
              rw [node_p] at h
              exact h.of (node_congr (pJ_succ D j).symm fun i _ => rJ_not n D j (j + 1) H4.out i)
            case measure => simp [intOf]; omega
      · obtain rfl : j = n := by omega
        have hdigs : digs c (a + 1) j = true := (digs_iff _ _ _).2 ⟨by omega, HX.out⟩
        have HDG := Lib.hid hdigs; clear hdigs
        obtain ⟨i0, hi, hz0, hz1, hz2⟩ := info_parts infoPtr
        have HI := Lib.hid hi; have HZ0 := Lib.hid hz0; have HZ1 := Lib.hid hz1; have HZ2 := Lib.hid hz2
        clear hi hz0 hz1 hz2
        obtain ⟨P, hPd⟩ : ∃ P, P = pJ D j := ⟨_, rfl⟩
        obtain ⟨R, hRd⟩ : ∃ R, R = rJ j D j := ⟨_, rfl⟩
        rw [← hPd, ← hRd] at hrow
        have HPD := Lib.hid hPd; have HRD := Lib.hid hRd; clear hPd hRd
        go_wp2_with fail
        go_loopw [8, 71] (fun ev t wr => ∃ (m en : Nat) (xs : List Ct) (bs : List Nat) (v : Value) (S : Nat → Prop), m ≤ np ∧ t = .int .i64 m ∧ ev = .int .i64 en ∧ a + 1 ≤ en ∧ en ≤ c.size ∧ Hid (seqRd c f m (a + 1 + j) = some (xs, en) ∧ xs.length = m) ∧ RowAt wr w.heap.size 122 (node op P R v ⟨#[]⟩) ∧ Kids w.heap.size wr S v xs bs ∧ Below w.heap.size w wr) (fun _ t _ => np - (intOf t).toNat)
        case atStart => exact ⟨0, a + 1 + j, [], [], .slice none 0 0, _, by omega, rfl, by go_num, by omega, hfar, Lib.hid ⟨rfl, rfl⟩, hrow, Kids.start _ _, hbel⟩
        case round =>
          clear hrow hbel
          obtain ⟨m, en, xs, bs, v, S, hm, rfl, rfl, hen1, hen2, HS, hrow, hkids, hbel⟩ := hrel
          by_cases hmn : m < np
          · cases hr : rd c f en with
            | none =>
              have hrn := HNO.out (.inr (by
                have := seqRd_no HS.out.1 hr (np - (m + 1))
                rw [show m + 1 + (np - (m + 1)) = np from by omega] at this
                exact this))
              rw [hrn]
              have HR := Lib.hid hr; clear hr hrn
              go_wp2_with fail
              refine (IH.out en _ _ rfl (by omega)).mono ?_
              rw [HR.out]
              rintro e w1 ⟨hb1, rfl⟩
              go_wp2_with fail
              go_ret2
              exact ⟨bel_on' hbel hb1, rfl⟩
            | some r =>
              obtain ⟨x, e'⟩ := r
              have hg := rd_gt hr
              have hrs := seqRd_yes HS.out.1 hr
              have hml : xs.length = m := HS.out.2
              have HR := Lib.hid hr; have HRS := Lib.hid hrs; have HML := Lib.hid hml; clear hr hrs hml
              have hmx : xs.length ≤ 2 := by have := HML.out; omega
              go_wp2_with fail
              refine (IH.out en _ _ rfl (by omega)).mono ?_
              rw [HR.out]
              rintro e w1 ⟨hb1, b1, rfl, hct⟩
              have hrow1 := hrow.later hb1
              have hown1 := ownsRow_below hkids.own hb1
              have hown_lt := hkids.own.lt
              have hBlt := hrow.lt
              have hsz := hbel.size
              have hsz1 := hb1.size
              have hne : v.ownBlock ≠ some w.heap.size := fun e => by have := hown_lt _ e; omega
              have c6 : w1.cell? ⟨w.heap.size, 6, none⟩ = some v := hrow1.get 6
              have HCT := Lib.hid hct; have HNE := Lib.hid hne; have HB1 := Lib.hid hb1; have HOL := Lib.hid hown_lt
              clear hct hne hown_lt hb1
              go_wp2_with (at_builtin; refine wpList_append_lies _ rfl _ _ _ rfl (w.heap.size + 1) 85 i0 (.pointer none) 1 8 Try.underlying120 HI.out HZ0.out HZ1.out HZ2.out rfl (by decide) _ _ _ rfl (hown1.alloc _) ⟨w1.heap.size, 0, none⟩ 1 1 [.pointer (some ⟨b1, 0, none⟩)] rfl rfl (World.news_of_block (heap_alloc_new w1 _)) ?c2 (by decide) ?c3 ?c4 ?c5 _ rfl ?_)
              case c2 => simp [Value.oneCell']
              case c3 => unfold maxLen; omega
              case c4 => omega
              case c5 => simp; omega
              intro g cap w2 hown2 hgrow hlies hglt
              have hrow2 := (hrow1.alloc (.cells #[.pointer (some ⟨b1, 0, none⟩)] 85)).grown hgrow HNE.out
              have c62 : w2.cell? ⟨w.heap.size, 6, none⟩ = some v := hrow2.get 6
              have f62 := hrow2.free 6
              have hbel1 := bel_on' hbel HB1.out
              have hbel2 := (hbel1.alloc (by omega) (.cells #[.pointer (some ⟨b1, 0, none⟩)] 85)).grown hgrow (by simp; omega) (fun k hk => by have := HOL.out k hk; omega)
              have HOWN2 := Lib.hid hown2; have HGROW := Lib.hid hgrow; have HLIES := Lib.hid hlies
              clear hown2 hgrow hlies hown1 c6
              go_wp2_with fail
              go_roundw
              case rel =>
                refine ⟨m + 1, e', xs ++ [x], bs ++ [b1], _, _, by omega, by go_num, rfl, by omega, hg.2, Lib.hid ⟨HRS.out, by simp [HML.out]⟩, ?_, Kids.grow hkids hBlt HB1.out HCT.out HOWN2.out HGROW.out (by have := HLIES.out; simpa using this), hbel2.setCell (by simp) _⟩
                have h := hrow2.setAt 6 (.slice (some ⟨g, 0, none⟩) (xs.length + 1) cap)
                rw [node_v] at h
                exact h
              case measure => simp [intOf]; omega
          · obtain rfl : m = np := by omega
            have hres := HYES.out _ _ HDG.out HS.out.1
            have hml := HS.out.2
            have HML := Lib.hid hml; have HRES := Lib.hid hres; clear hres hml
            have c7 : wr.cell? ⟨w.heap.size, 7, none⟩ = some (.string ⟨#[]⟩) := hrow.get 7
            have f7 := hrow.free 7
            have hsz := hbel.size
            go_wp2_with fail
            go_ret2
            have hrow3 := hrow.setAt 7 (.string (c.extract a en))
            rw [node_t, HPD.out, HRD.out, HD.out] at hrow3
            (try unfold RdPost)
            rw [HRES.out]
            exact ⟨hbel.setCell (by simp) _, w.heap.size, rfl, HW.out _ _ _ _ _ _ _ _ (hkids.text 7 _) HML.out hrow3 (Nat.le_refl _)⟩
/-- What reading a whole contract leaves. -/
def CtPost (w : World) (c : ByteArray) (e : Ending) (w' : World) : Prop := Below w.heap.size w w' ∧
  match ctOf c with
  | none => e = .returned (.pointer none)
  | some x => ∃ b, e = .returned (.pointer (some ⟨b, 0, none⟩)) ∧ CtIn w' (fun k => w.heap.size ≤ k ∧ k < w'.heap.size) x b
set_option maxHeartbeats 1000000 in
theorem i_read (c : ByteArray) (w : World) : Calls Try.prog 113 #[.string c] w (CtPost w c) := by
  by_cases hc : c.size ≤ 200
  rotate_left
  · have hn : ctOf c = none := by unfold ctOf; rw [if_neg hc]
    unfold CtPost
    rw [hn]
    clear hn
    go_enter Try.func113, Try.ntmps113
    go_wp2_with fail
    go_ret
    exact ⟨Below.refl _ _, rfl⟩
  have hrd := i_readFrom c hc 201 0 0 w rfl (by omega)
  cases hr : rd c 201 0 with
  | none =>
    have hn : ctOf c = none := by
      cases h : ctOf c with
      | none => rfl
      | some x => have := ((ctOf_iff c x).1 h).2; rw [hr] at this; cases this
    rw [hr] at hrd
    have HRD := Lib.hid hrd; clear hrd hr
    unfold CtPost
    rw [hn]
    clear hn
    go_enter Try.func113, Try.ntmps113
    go_wp2_with fail
    refine HRD.out.mono ?_
    rintro e w1 ⟨hb, rfl⟩
    go_wp2_with fail
    go_ret
    exact ⟨hb, rfl⟩
  | some r =>
    obtain ⟨x, n⟩ := r
    have hg := rd_gt hr
    rw [hr] at hrd
    have HRD := Lib.hid hrd; clear hrd
    by_cases hn : n = c.size
    · have hx : ctOf c = some x := (ctOf_iff c x).2 ⟨hc, by rw [hr, hn]⟩
      have b1 : ((n : Int) != (c.size : Int)) = false := by rw [hn]; simp
      unfold CtPost
      rw [hx]
      clear hx hr hn
      go_enter Try.func113, Try.ntmps113
      go_wp2_with fail
      refine HRD.out.mono ?_
      rintro e w1 ⟨hb, b, rfl, hct⟩
      have HCT := Lib.hid hct; clear hct
      go_wp2_with fail
      go_ret
      exact ⟨hb, b, rfl, HCT.out⟩
    · have hx : ctOf c = none := by
        cases h : ctOf c with
        | none => rfl
        | some y =>
          have := ((ctOf_iff c y).1 h).2
          rw [hr] at this
          simp at this
          exact absurd this.2 hn
      have b1 : ((n : Int) != (c.size : Int)) = true := by rw [bne_iff_ne]; omega
      unfold CtPost
      rw [hx]
      have HN := Lib.hid hn
      clear hx hr hn
      go_enter Try.func113, Try.ntmps113
      go_wp2_with fail
      refine HRD.out.mono ?_
      rintro e w1 ⟨hb, b, rfl, hct⟩
      clear hct
      go_wp2_with fail
      go_ret
      exact ⟨hb, rfl⟩
end Go.Proofs.Ytiaeakpgldpaiaa
