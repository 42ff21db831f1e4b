/- The reference's reading of contracts. -/
import Derived.Test.YtiaeakpgldpaiaaQSpecD
import Derived.Test.YtiaeakpgldpaiaaQJ0
namespace Go.Proofs.Ytiaeakpgldpaiaa
set_option linter.unusedSimpArgs false
set_option linter.unusedVariables false
set_option maxRecDepth 4000
open Go.RowKit

theorem s_l5Skip (c : ByteArray) (z m : Int) (a n : Nat) (w : World) (hz : z = (a : Int)) (hm : m = (n : Int)) (hc : c.size ≤ 200) (ha : a ≤ 201) (hn : n ≤ 4) : Calls Try.prog 248 #[.string c, .int .i64 z, .int .i64 m] w fun e w' => e = .returned (.int .i64 (skipI c a n)) ∧ w = w' := by
  subst hz hm
  by_cases h : a + n ≤ c.size
  · have e1 := digs_ext h
    have hx : (c.extract a (a + n)).size ≤ 1048576 := by rw [ext_size h]; omega
    have E1 := Lib.hid e1; clear e1
    cases hd : digs c a n
    all_goals
      have HD := Lib.hid hd; clear hd
      go_enter Try.func248, Try.ntmps248
      go_wp2_with fail
      refine (s_l2Digits _ _ _ hx).mono ?_
      rw [E1.out, HD.out]
      rintro e w' ⟨rfl, rfl⟩
      go_wp2_with fail
      go_ret
      exact ⟨ret_int (by unfold skipI; rw [HD.out]; simp), rfl⟩
  · have hd : digs c a n = false := by
      cases e : digs c a n
      · rfl
      · exact absurd ((digs_iff _ _ _).1 e).1 h
    have HD := Lib.hid hd; clear hd
    go_enter Try.func248, Try.ntmps248
    go_wp2_with fail
    go_ret
    exact ⟨ret_int (by unfold skipI; rw [HD.out]; rfl), rfl⟩
theorem s_l5End_neg (c : ByteArray) (w : World) (hc : c.size ≤ 200) : Calls Try.prog 229 #[.string c, .int .i64 (-1)] w fun e w' => e = .returned (.int .i64 (-1)) ∧ w = w' := by
  go_enter Try.func229, Try.ntmps229
  go_wp2_with fail
  go_ret
  exact ⟨rfl, rfl⟩
set_option maxHeartbeats 4000000 in
theorem s_l5End (c : ByteArray) (hc : c.size ≤ 200) : ∀ (f a : Nat) (z : Int) (w : World), z = (a : Int) → c.size ≤ a + f → Calls Try.prog 229 #[.string c, .int .i64 z] w fun e w' => e = .returned (.int .i64 (endI (rd c f a))) ∧ w = w' := by
  intro f
  induction f with
  | zero =>
    intro a z w hz hf
    subst hz
    go_enter Try.func229, Try.ntmps229
    go_wp2_with fail
    go_ret
    exact ⟨rfl, rfl⟩
  | succ f ih =>
    intro a z w hz hf
    subst hz
    have IH := Lib.hid ih; clear ih
    by_cases hlt : a < c.size
    rotate_left
    · have hr := rd_end (c := c) (f := f + 1) (a := a) (by omega)
      have HR := Lib.hid hr; clear hr
      go_enter Try.func229, Try.ntmps229
      go_wp2_with fail
      go_ret
      exact ⟨ret_int (by rw [HR.out]; rfl), rfl⟩
    rcases letters (byt c a) with (hop | hop | hop) | (hop | hop) | (hop | hop) | (hop | hop | hop) | hop | hop | (hop | hop) | hop
    · have hv : ((c[a]'hlt).toNat : Int) = 115 := by rw [byt_get c a hlt, hop]; rfl
      have HOP := Lib.hid hop; clear hop
      go_enter Try.func229, Try.ntmps229
      go_wp2_with fail
      go_ret
      exact ⟨ret_int (by rw [rd_leaf hlt (n := 0) (by rw [HOP.out]; rfl), if_pos (digs_zero (by omega))]; simp [endI]), rfl⟩
    · have hv : ((c[a]'hlt).toNat : Int) = 97 := by rw [byt_get c a hlt, hop]; rfl
      have HOP := Lib.hid hop; clear hop
      go_enter Try.func229, Try.ntmps229
      go_wp2_with fail
      go_ret
      exact ⟨ret_int (by rw [rd_leaf hlt (n := 0) (by rw [HOP.out]; rfl), if_pos (digs_zero (by omega))]; simp [endI]), rfl⟩
    · have hv : ((c[a]'hlt).toNat : Int) = 109 := by rw [byt_get c a hlt, hop]; rfl
      have HOP := Lib.hid hop; clear hop
      go_enter Try.func229, Try.ntmps229
      go_wp2_with fail
      go_ret
      exact ⟨ret_int (by rw [rd_leaf hlt (n := 0) (by rw [HOP.out]; rfl), if_pos (digs_zero (by omega))]; simp [endI]), rfl⟩
    · have hv : ((c[a]'hlt).toNat : Int) = 33 := by rw [byt_get c a hlt, hop]; rfl
      have HOP := Lib.hid hop; clear hop
      go_enter Try.func229, Try.ntmps229
      go_wp2_with fail
      refine (s_l5Skip c _ _ (a + 1) 1 _ (by omega) rfl hc (by omega) (by omega)).mono ?_
      rintro e w' ⟨rfl, rfl⟩
      go_wp2_with fail
      go_ret
      exact ⟨ret_int (by rw [rd_leaf hlt (n := 1) (by rw [HOP.out]; rfl)]; unfold skipI; split <;> rfl), rfl⟩
    · have hv : ((c[a]'hlt).toNat : Int) = 63 := by rw [byt_get c a hlt, hop]; rfl
      have HOP := Lib.hid hop; clear hop
      go_enter Try.func229, Try.ntmps229
      go_wp2_with fail
      refine (s_l5Skip c _ _ (a + 1) 1 _ (by omega) rfl hc (by omega) (by omega)).mono ?_
      rintro e w' ⟨rfl, rfl⟩
      go_wp2_with fail
      go_ret
      exact ⟨ret_int (by rw [rd_leaf hlt (n := 1) (by rw [HOP.out]; rfl)]; unfold skipI; split <;> rfl), rfl⟩
    · have hv : ((c[a]'hlt).toNat : Int) = 65 := by rw [byt_get c a hlt, hop]; rfl
      have HOP := Lib.hid hop; clear hop
      go_enter Try.func229, Try.ntmps229
      go_wp2_with fail
      refine (s_l5Skip c _ _ (a + 1) 4 _ (by omega) rfl hc (by omega) (by omega)).mono ?_
      rintro e w' ⟨rfl, rfl⟩
      go_wp2_with fail
      go_ret
      exact ⟨ret_int (by rw [rd_leaf hlt (n := 4) (by rw [HOP.out]; rfl)]; unfold skipI; split <;> rfl), rfl⟩
    · have hv : ((c[a]'hlt).toNat : Int) = 68 := by rw [byt_get c a hlt, hop]; rfl
      have HOP := Lib.hid hop; clear hop
      go_enter Try.func229, Try.ntmps229
      go_wp2_with fail
      refine (s_l5Skip c _ _ (a + 1) 4 _ (by omega) rfl hc (by omega) (by omega)).mono ?_
      rintro e w' ⟨rfl, rfl⟩
      go_wp2_with fail
      go_ret
      exact ⟨ret_int (by rw [rd_leaf hlt (n := 4) (by rw [HOP.out]; rfl)]; unfold skipI; split <;> rfl), rfl⟩
    · have hv : ((c[a]'hlt).toNat : Int) = 59 := by rw [byt_get c a hlt, hop]; rfl
      have HOP := Lib.hid hop; clear hop
      have hrd := rd_bin (f := f) hlt (n := 0) (by rw [HOP.out]; rfl) (by rw [HOP.out]; rfl) (by rw [HOP.out]; rfl)
      rw [if_pos (digs_zero (by omega)), Nat.add_zero] at hrd
      have HRD := Lib.hid hrd; clear hrd
      cases hr : rd c f (a + 1) with
      | none =>
        have HR := Lib.hid hr; clear hr
        go_enter Try.func229, Try.ntmps229
        go_wp2_with fail
        refine (IH.out (a + 1) _ _ (by omega) (by omega)).mono ?_
        rw [HR.out]
        rintro e w' ⟨rfl, rfl⟩
        go_wp2_with fail
        refine (s_l5End_neg c _ hc).mono ?_
        rintro e w' ⟨rfl, rfl⟩
        go_wp2_with fail
        go_ret
        exact ⟨ret_int (by rw [HRD.out, HR.out]; rfl), rfl⟩
      | some r =>
        obtain ⟨x, e1⟩ := r
        have hg := rd_gt hr
        have HR := Lib.hid hr; clear hr
        go_enter Try.func229, Try.ntmps229
        go_wp2_with fail
        refine (IH.out (a + 1) _ _ (by omega) (by omega)).mono ?_
        rw [HR.out]
        rintro e w' ⟨rfl, rfl⟩
        go_wp2_with fail
        refine (IH.out e1 _ _ rfl (by omega)).mono ?_
        rintro e w' ⟨rfl, rfl⟩
        go_wp2_with fail
        go_ret
        refine ⟨ret_int ?_, rfl⟩
        rw [HRD.out, HR.out]
        show endI (rd c f e1) = endI (match rd c f e1 with | some (y, e') => _ | none => none)
        cases rd c f e1 with
        | none => rfl
        | some r => rfl
    · have hv : ((c[a]'hlt).toNat : Int) = 38 := by rw [byt_get c a hlt, hop]; rfl
      have HOP := Lib.hid hop; clear hop
      have hrd := rd_bin (f := f) hlt (n := 0) (by rw [HOP.out]; rfl) (by rw [HOP.out]; rfl) (by rw [HOP.out]; rfl)
      rw [if_pos (digs_zero (by omega)), Nat.add_zero] at hrd
      have HRD := Lib.hid hrd; clear hrd
      cases hr : rd c f (a + 1) with
      | none =>
        have HR := Lib.hid hr; clear hr
        go_enter Try.func229, Try.ntmps229
        go_wp2_with fail
        refine (IH.out (a + 1) _ _ (by omega) (by omega)).mono ?_
        rw [HR.out]
        rintro e w' ⟨rfl, rfl⟩
        go_wp2_with fail
        refine (s_l5End_neg c _ hc).mono ?_
        rintro e w' ⟨rfl, rfl⟩
        go_wp2_with fail
        go_ret
        exact ⟨ret_int (by rw [HRD.out, HR.out]; rfl), rfl⟩
      | some r =>
        obtain ⟨x, e1⟩ := r
        have hg := rd_gt hr
        have HR := Lib.hid hr; clear hr
        go_enter Try.func229, Try.ntmps229
        go_wp2_with fail
        refine (IH.out (a + 1) _ _ (by omega) (by omega)).mono ?_
        rw [HR.out]
        rintro e w' ⟨rfl, rfl⟩
        go_wp2_with fail
        refine (IH.out e1 _ _ rfl (by omega)).mono ?_
        rintro e w' ⟨rfl, rfl⟩
        go_wp2_with fail
        go_ret
        refine ⟨ret_int ?_, rfl⟩
        rw [HRD.out, HR.out]
        show endI (rd c f e1) = endI (match rd c f e1 with | some (y, e') => _ | none => none)
        cases rd c f e1 with
        | none => rfl
        | some r => rfl
    · have hv : ((c[a]'hlt).toNat : Int) = 124 := by rw [byt_get c a hlt, hop]; rfl
      have HOP := Lib.hid hop; clear hop
      have hrd := rd_bin (f := f) hlt (n := 0) (by rw [HOP.out]; rfl) (by rw [HOP.out]; rfl) (by rw [HOP.out]; rfl)
      rw [if_pos (digs_zero (by omega)), Nat.add_zero] at hrd
      have HRD := Lib.hid hrd; clear hrd
      cases hr : rd c f (a + 1) with
      | none =>
        have HR := Lib.hid hr; clear hr
        go_enter Try.func229, Try.ntmps229
        go_wp2_with fail
        refine (IH.out (a + 1) _ _ (by omega) (by omega)).mono ?_
        rw [HR.out]
        rintro e w' ⟨rfl, rfl⟩
        go_wp2_with fail
        refine (s_l5End_neg c _ hc).mono ?_
        rintro e w' ⟨rfl, rfl⟩
        go_wp2_with fail
        go_ret
        exact ⟨ret_int (by rw [HRD.out, HR.out]; rfl), rfl⟩
      | some r =>
        obtain ⟨x, e1⟩ := r
        have hg := rd_gt hr
        have HR := Lib.hid hr; clear hr
        go_enter Try.func229, Try.ntmps229
        go_wp2_with fail
        refine (IH.out (a + 1) _ _ (by omega) (by omega)).mono ?_
        rw [HR.out]
        rintro e w' ⟨rfl, rfl⟩
        go_wp2_with fail
        refine (IH.out e1 _ _ rfl (by omega)).mono ?_
        rintro e w' ⟨rfl, rfl⟩
        go_wp2_with fail
        go_ret
        refine ⟨ret_int ?_, rfl⟩
        rw [HRD.out, HR.out]
        show endI (rd c f e1) = endI (match rd c f e1 with | some (y, e') => _ | none => none)
        cases rd c f e1 with
        | none => rfl
        | some r => rfl
    · have hv : ((c[a]'hlt).toNat : Int) = 105 := by rw [byt_get c a hlt, hop]; rfl
      have HOP := Lib.hid hop; clear hop
      have hrd := rd_bin (f := f) hlt (n := 1) (by rw [HOP.out]; rfl) (by rw [HOP.out]; rfl) (by rw [HOP.out]; rfl)
      have HRD := Lib.hid hrd; clear hrd
      cases hd : digs c (a + 1) 1
      · have hsk : skipI c (a + 1) 1 = -1 := by unfold skipI; rw [hd]; rfl
        have HSK := Lib.hid hsk; have HD := Lib.hid hd; clear hsk hd
        go_enter Try.func229, Try.ntmps229
        go_wp2_with fail
        refine (s_l5Skip c _ _ (a + 1) 1 _ (by omega) rfl hc (by omega) (by omega)).mono ?_
        rw [HSK.out]
        rintro e w' ⟨rfl, rfl⟩
        go_wp2_with fail
        refine (s_l5End_neg c _ hc).mono ?_
        rintro e w' ⟨rfl, rfl⟩
        go_wp2_with fail
        refine (s_l5End_neg c _ hc).mono ?_
        rintro e w' ⟨rfl, rfl⟩
        go_wp2_with fail
        go_ret
        exact ⟨ret_int (by rw [HRD.out, HD.out]; rfl), rfl⟩
      · have hsk : skipI c (a + 1) 1 = ((a + 1 + 1 : Nat) : Int) := by unfold skipI; rw [hd]; rfl
        have HSK := Lib.hid hsk; have HD := Lib.hid hd; clear hsk hd
        cases hr : rd c f (a + 1 + 1) with
        | none =>
          have HR := Lib.hid hr; clear hr
          go_enter Try.func229, Try.ntmps229
          go_wp2_with fail
          refine (s_l5Skip c _ _ (a + 1) 1 _ (by omega) rfl hc (by omega) (by omega)).mono ?_
          rw [HSK.out]
          rintro e w' ⟨rfl, rfl⟩
          go_wp2_with fail
          refine (IH.out (a + 1 + 1) _ _ (by omega) (by omega)).mono ?_
          rw [HR.out]
          rintro e w' ⟨rfl, rfl⟩
          go_wp2_with fail
          refine (s_l5End_neg c _ hc).mono ?_
          rintro e w' ⟨rfl, rfl⟩
          go_wp2_with fail
          go_ret
          exact ⟨ret_int (by rw [HRD.out, HD.out, if_pos rfl, HR.out]; rfl), rfl⟩
        | some r =>
          obtain ⟨x, e1⟩ := r
          have hg := rd_gt hr
          have HR := Lib.hid hr; clear hr
          go_enter Try.func229, Try.ntmps229
          go_wp2_with fail
          refine (s_l5Skip c _ _ (a + 1) 1 _ (by omega) rfl hc (by omega) (by omega)).mono ?_
          rw [HSK.out]
          rintro e w' ⟨rfl, rfl⟩
          go_wp2_with fail
          refine (IH.out (a + 1 + 1) _ _ (by omega) (by omega)).mono ?_
          rw [HR.out]
          rintro e w' ⟨rfl, rfl⟩
          go_wp2_with fail
          refine (IH.out e1 _ _ rfl (by omega)).mono ?_
          rintro e w' ⟨rfl, rfl⟩
          go_wp2_with fail
          go_ret
          refine ⟨ret_int ?_, rfl⟩
          rw [HRD.out, HD.out, if_pos rfl, HR.out]
          show endI (rd c f e1) = endI (match rd c f e1 with | some (y, e') => _ | none => none)
          cases rd c f e1 with
          | none => rfl
          | some r => rfl
    · have hv : ((c[a]'hlt).toNat : Int) = 119 := by rw [byt_get c a hlt, hop]; rfl
      have HOP := Lib.hid hop; clear hop
      have hrd := rd_un (f := f) hlt (n := 1) (by rw [HOP.out]; rfl) (by rw [HOP.out]; rfl)
      have HRD := Lib.hid hrd; clear hrd
      cases hd : digs c (a + 1) 1
      · have hsk : skipI c (a + 1) 1 = -1 := by unfold skipI; rw [hd]; rfl
        have HSK := Lib.hid hsk; have HD := Lib.hid hd; clear hsk hd
        go_enter Try.func229, Try.ntmps229
        go_wp2_with fail
        refine (s_l5Skip c _ _ (a + 1) 1 _ (by omega) rfl hc (by omega) (by omega)).mono ?_
        rw [HSK.out]
        rintro e w' ⟨rfl, rfl⟩
        go_wp2_with fail
        refine (s_l5End_neg c _ hc).mono ?_
        rintro e w' ⟨rfl, rfl⟩
        go_wp2_with fail
        go_ret
        exact ⟨ret_int (by rw [HRD.out, HD.out]; rfl), rfl⟩
      · have hsk : skipI c (a + 1) 1 = ((a + 1 + 1 : Nat) : Int) := by unfold skipI; rw [hd]; rfl
        have HSK := Lib.hid hsk; have HD := Lib.hid hd; clear hsk hd
        go_enter Try.func229, Try.ntmps229
        go_wp2_with fail
        refine (s_l5Skip c _ _ (a + 1) 1 _ (by omega) rfl hc (by omega) (by omega)).mono ?_
        rw [HSK.out]
        rintro e w' ⟨rfl, rfl⟩
        go_wp2_with fail
        refine (IH.out (a + 1 + 1) _ _ (by omega) (by omega)).mono ?_
        rintro e w' ⟨rfl, rfl⟩
        go_wp2_with fail
        go_ret
        refine ⟨ret_int ?_, rfl⟩
        rw [HRD.out, HD.out, if_pos rfl]
        cases rd c f (a + 1 + 1) with
        | none => rfl
        | some r => rfl
    · have hv : ((c[a]'hlt).toNat : Int) = 42 := by rw [byt_get c a hlt, hop]; rfl
      have HOP := Lib.hid hop; clear hop
      go_enter Try.func229, Try.ntmps229
      go_wp2_with fail
      refine (IH.out (a + 1) _ _ (by omega) (by omega)).mono ?_
      rintro e w' ⟨rfl, rfl⟩
      go_wp2_with fail
      go_ret
      refine ⟨ret_int ?_, rfl⟩
      rw [rd_un hlt (n := 0) (by rw [HOP.out]; rfl) (by rw [HOP.out]; rfl), if_pos (digs_zero (by omega)), Nat.add_zero]
      cases rd c f (a + 1) with
      | none => rfl
      | some r => rfl
    · have hv : ((c[a]'hlt).toNat : Int) = 43 := by rw [byt_get c a hlt, hop]; rfl
      have HOP := Lib.hid hop; clear hop
      go_enter Try.func229, Try.ntmps229
      go_wp2_with fail
      refine (IH.out (a + 1) _ _ (by omega) (by omega)).mono ?_
      rintro e w' ⟨rfl, rfl⟩
      go_wp2_with fail
      go_ret
      refine ⟨ret_int ?_, rfl⟩
      rw [rd_un hlt (n := 0) (by rw [HOP.out]; rfl) (by rw [HOP.out]; rfl), if_pos (digs_zero (by omega)), Nat.add_zero]
      cases rd c f (a + 1) with
      | none => rfl
      | some r => rfl
    · have hrd := rd_bad (f := f) (noLetter_leaf hop) (noLetter_un hop) (noLetter_bin hop)
      have HRD := Lib.hid hrd; clear hrd
      obtain ⟨⟨n1, n2, n3, n4, n5, n6, n7⟩, n8, n9, n10, n11, n12, n13, n14⟩ := hop
      rw [← byt_get c a hlt] at n1 n2 n3 n4 n5 n6 n7 n8 n9 n10 n11 n12 n13 n14
      have m1 := byte_ne (n := 115) (by omega) n1; have m2 := byte_ne (n := 97) (by omega) n2; have m3 := byte_ne (n := 109) (by omega) n3
      have m4 := byte_ne (n := 33) (by omega) n4; have m5 := byte_ne (n := 63) (by omega) n5; have m6 := byte_ne (n := 65) (by omega) n6; have m7 := byte_ne (n := 68) (by omega) n7
      have m8 := byte_ne (n := 59) (by omega) n8; have m9 := byte_ne (n := 38) (by omega) n9; have m10 := byte_ne (n := 124) (by omega) n10; have m11 := byte_ne (n := 105) (by omega) n11
      have m12 := byte_ne (n := 119) (by omega) n12; have m13 := byte_ne (n := 42) (by omega) n13; have m14 := byte_ne (n := 43) (by omega) n14
      clear n1 n2 n3 n4 n5 n6 n7 n8 n9 n10 n11 n12 n13 n14
      simp only [Int.cast_ofNat_Int] at m1 m2 m3 m4 m5 m6 m7 m8 m9 m10 m11 m12 m13 m14
      go_enter Try.func229, Try.ntmps229
      go_wp2_with fail
      go_ret
      exact ⟨ret_int (by rw [HRD.out]; rfl), rfl⟩
theorem s_ContractValid (c : ByteArray) (w : World) : Calls Try.prog 173 #[.string c] w fun e w' => e = .returned (.bool (ctOk c)) ∧ w = w' := by
  have hk := ctOk_end c
  have HK := Lib.hid hk; clear hk
  by_cases hc : c.size ≤ 200
  · go_enter Try.func173, Try.ntmps173
    go_wp2_with fail
    refine (s_l5End c hc 201 0 _ _ rfl (by omega)).mono ?_
    rintro e w' ⟨rfl, rfl⟩
    go_wp2_with fail
    go_ret
    exact ⟨ret_bool (by rw [HK.out, decide_eq_true hc, Bool.true_and]; rfl), rfl⟩
  · go_enter Try.func173, Try.ntmps173
    go_wp2_with fail
    go_ret
    exact ⟨ret_bool (by rw [HK.out, decide_eq_false hc]; rfl), rfl⟩
end Go.Proofs.Ytiaeakpgldpaiaa
