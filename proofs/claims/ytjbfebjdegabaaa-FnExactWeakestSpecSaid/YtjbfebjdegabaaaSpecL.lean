/- The reference's transformers of contracts: the walk by the contract's tree. -/
import Derived.Test.YtjbfebjdegabaaaSpecK
namespace Go.Proofs.Ytjbfebjdegabaaa
set_option linter.unusedSimpArgs false
set_option linter.unusedVariables false
set_option maxRecDepth 4000
open Go.RowKit

/-- What an assertion tells, by name. -/
def fAnd (p : Nat) : Nat → Nat := fun q => p &&& q
theorem fAnd0_lt (i : Nat) : fAnd 0 i < 16 := and_lt (a := 0) (b := i) (by omega)
theorem tr_s (F : Nat → Nat) (q : Nat) : (Ct.leaf 115 F).tr q = 15 &&& q := by rw [Ct.tr]; rfl
theorem tr_a (F : Nat → Nat) (q : Nat) : (Ct.leaf 97 F).tr q = 0 &&& q := by rw [Ct.tr]; rfl
theorem tr_m (F : Nat → Nat) (q : Nat) : (Ct.leaf 109 F).tr q = q ||| andn 15 0 := by rw [Ct.tr]; rfl
theorem tr_as (F : Nat → Nat) (q : Nat) : (Ct.leaf 33 F).tr q = F 0 &&& q := by rw [Ct.tr]; rfl
theorem tr_au (F : Nat → Nat) (q : Nat) : (Ct.leaf 63 F).tr q = q ||| andn 15 (F 0) := by rw [Ct.tr]; rfl
theorem tr_A (F : Nat → Nat) (q : Nat) : (Ct.leaf 65 F).tr q = fDia F q 4 := by rw [Ct.tr]; rfl
theorem tr_D (F : Nat → Nat) (q : Nat) : (Ct.leaf 68 F).tr q = fBox F q := by rw [Ct.tr]; rfl
theorem tr_seq (p : Nat) (x y : Ct) (q : Nat) : (Ct.bin 59 p x y).tr q = x.tr (y.tr q) := by rw [Ct.tr]; rfl
theorem tr_and (p : Nat) (x y : Ct) (q : Nat) : (Ct.bin 38 p x y).tr q = x.tr q &&& y.tr q := by rw [Ct.tr]; rfl
theorem tr_or (p : Nat) (x y : Ct) (q : Nat) : (Ct.bin 124 p x y).tr q = x.tr q ||| y.tr q := by rw [Ct.tr]; rfl
theorem tr_if (p : Nat) (x y : Ct) (q : Nat) : (Ct.bin 105 p x y).tr q = turn p (x.tr q) (y.tr q) := by rw [Ct.tr]; rfl
theorem dual_assert {a p : Nat} (ha : a < 16) (hp : p < 16) : andn 15 (a &&& andn 15 p) = p ||| andn 15 a := by
  apply eq_of_bits (n := 4) (andn_lt (by omega)) (or_lt hp (andn_lt (by omega)))
  intro i hi
  have h15 : (15 : Nat).testBit i = true := by
    have key : ∀ i, i < 4 → (15 : Nat).testBit i = true := by decide
    exact key i hi
  rw [testBit_andn, Nat.testBit_and, testBit_andn, Nat.testBit_or, testBit_andn, h15]
  cases a.testBit i <;> cases p.testBit i <;> rfl
theorem dual_txt {F : Nat → Nat} (hF : ∀ i, i < 16 → F i < 16) : txt 16 (fun p => andn 15 (dig (txt 16 F) (andn 15 p))) = txt 16 (fun p => andn 15 (F (andn 15 p))) :=
  txt_congr fun p _ => by rw [txt_dig 16 F _ (andn_lt (by omega)) (hF _ (andn_lt (by omega)))]
theorem extr_dig {s : ByteArray} {a b i : Nat} (h : a + i < b) (hb : b ≤ s.size) : dig (s.extract a b) i = dig s (a + i) := by unfold dig; rw [byt_ext h hb]
theorem extr_Dg {s : ByteArray} {a n : Nat} (h : digs s a n = true) : Dg n (s.extract a (a + n)) := by
  have h' := (digs_iff _ _ _).1 h
  have e := digs_ext h'.1
  rw [h, Bool.and_eq_true, decide_eq_true_iff] at e
  exact ⟨by omega, e.1⟩
theorem StrsAt.row {B : Nat} {w : World} {v : Value} {ts : List ByteArray} (h : StrsAt B w v ts) (hn : ts ≠ []) : ∃ g cap cur, v = .slice (some ⟨g, 0, none⟩) ts.length cap ∧ RowAt w g 9 cur ∧ ∀ (i : Nat) (t : ByteArray), ts[i]? = some t → cur[i]? = some (Value.string t) := by
  rcases h.2 with h2 | ⟨g, cap, rfl⟩
  · exact absurd h2 hn
  · rcases h.1.2 with ⟨h', _⟩ | ⟨g', cap', cur, h', _, hg, _, _, _, htake⟩
    · simp at h'
    · simp only [Value.slice.injEq, Option.some.injEq, Addr.mk.injEq, and_true, true_and] at h'
      obtain ⟨rfl, rfl⟩ := h'
      refine ⟨g, cap, cur, rfl, hg, fun i t ht => ?_⟩
      have hlt : i < ts.length := (List.getElem?_eq_some_iff.1 ht).1
      have : (cur.toList.take (ts.length * 1))[i]? = (ts.map Value.string)[i]? := by rw [htake]
      rw [List.getElem?_take, if_pos (by omega), List.getElem?_map, ht] at this
      simpa using this
set_option maxHeartbeats 2000000 in
theorem s_l5Trans_leaf (op : UInt8) (F : Nat → Nat) (s : ByteArray) (w : World) (hR : Reads s (.leaf op F)) : Calls Try.prog 91 #[.string s] w fun e w' => e = .returned (.string (txt 16 ((Ct.leaf op F).tr))) ∧ Below w.heap.size w w' := by
  have hs := hR.1
  have h0 := hR.pos
  obtain ⟨n, hop, hl, hd, hF, hsz⟩ := hR.leaf
  subst hF
  clear hR
  rcases letters op with (h | h | h) | (h | h) | (h | h) | (h | h | h) | h | h | (h | h) | h
  case inr.inr.inr.inr.inr.inr.inr => rw [noLetter_leaf h] at hl; cases hl
  case inl.inl =>
    subst h
    have hv : ((s[0]'h0).toNat : Int) = 115 := by rw [byt_get s 0 h0, hop]; rfl
    have hn : n = 0 := by cases hl; rfl
    subst hn
    have hparts := s_l5Parts s (1 + 0) [] w hs h0 (by rw [hop]; rfl) hsz.symm (by simp)
    have HP := Lib.hid hparts; clear hparts
    have hfin : txt 16 (fun q => 15 &&& q) = txt 16 (Ct.leaf 115 (digF s 1 0)).tr := txt_congr fun q _ => (tr_s _ _).symm
    have HFIN := Lib.hid hfin; clear hfin hd hl hop hsz
    go_enter Try.func91, Try.ntmps91
    go_wp2_with fail
    refine HP.out.mono ?_
    rintro e w1 ⟨v, rfl, hst, hb⟩
    go_wp2_with fail
    refine (s_l3Assert 15 _ (by omega)).mono ?_
    rw [HFIN.out]
    rintro e w2 ⟨rfl, rfl⟩
    go_wp2_with fail
    go_ret
    exact ⟨rfl, hb⟩
  case inl.inr.inl =>
    subst h
    have hv : ((s[0]'h0).toNat : Int) = 97 := by rw [byt_get s 0 h0, hop]; rfl
    have hn : n = 0 := by cases hl; rfl
    subst hn
    have hparts := s_l5Parts s (1 + 0) [] w hs h0 (by rw [hop]; rfl) hsz.symm (by simp)
    have HP := Lib.hid hparts; clear hparts
    have hfin : txt 16 (fun q => 0 &&& q) = txt 16 (Ct.leaf 97 (digF s 1 0)).tr := txt_congr fun q _ => (tr_a _ _).symm
    have HFIN := Lib.hid hfin; clear hfin hd hl hop hsz
    go_enter Try.func91, Try.ntmps91
    go_wp2_with fail
    refine HP.out.mono ?_
    rintro e w1 ⟨v, rfl, hst, hb⟩
    go_wp2_with fail
    refine (s_l3Assert 0 _ (by omega)).mono ?_
    rw [HFIN.out]
    rintro e w2 ⟨rfl, rfl⟩
    go_wp2_with fail
    go_ret
    exact ⟨rfl, hb⟩
  case inl.inr.inr =>
    subst h
    have hv : ((s[0]'h0).toNat : Int) = 109 := by rw [byt_get s 0 h0, hop]; rfl
    have hn : n = 0 := by cases hl; rfl
    subst hn
    have hparts := s_l5Parts s (1 + 0) [] w hs h0 (by rw [hop]; rfl) hsz.symm (by simp)
    have HP := Lib.hid hparts; clear hparts
    have hfin : txt 16 (fun p => andn 15 (dig (txt 16 (fAnd 0)) (andn 15 p))) = txt 16 (Ct.leaf 109 (digF s 1 0)).tr := (dual_txt fun i _ => fAnd0_lt i).trans (txt_congr fun q hq => by rw [tr_m]; exact dual_assert (by omega) hq)
    have HFIN := Lib.hid hfin; clear hfin hd hl hop hsz
    go_enter Try.func91, Try.ntmps91
    go_wp2_with fail
    refine HP.out.mono ?_
    rintro e w1 ⟨v, rfl, hst, hb⟩
    go_wp2_with fail
    refine (s_l3Assert 0 _ (by omega)).mono fun e w2 (h : e = .returned (.string (txt 16 (fAnd 0))) ∧ w1 = w2) => ?_
    obtain ⟨rfl, rfl⟩ := h
    go_wp2_with fail
    refine (s_l3Dual _ _ (Dg.txt fun i _ => fAnd0_lt i)).mono ?_
    rw [HFIN.out]
    rintro e w2 ⟨rfl, rfl⟩
    go_wp2_with fail
    go_ret
    exact ⟨rfl, hb⟩
  case inr.inl.inl =>
    subst h
    have hv : ((s[0]'h0).toNat : Int) = 33 := by rw [byt_get s 0 h0, hop]; rfl
    have hn : n = 1 := by cases hl; rfl
    subst hn
    have hparts := s_l5Parts s (1 + 1) [] w hs h0 (by rw [hop]; rfl) hsz.symm (by simp)
    have HP := Lib.hid hparts; clear hparts
    have h1 : 1 < s.size := by omega
    have hx : hexVal (s[1]'h1) = (dig s 1 : Int) := by
      rw [byt_get s 1 h1, hexVal_nat (((digs_iff _ _ _).1 hd).2 0 (by omega))]
      rfl
    have HX := Lib.hid hx; clear hx
    have hpd : digF s 1 1 0 = dig s 1 := rfl
    have HPD := Lib.hid hpd; clear hpd
    have hfin : txt 16 (fun q => dig s 1 &&& q) = txt 16 (Ct.leaf 33 (digF s 1 1)).tr := txt_congr fun q _ => by rw [tr_as, HPD.out]
    have HFIN := Lib.hid hfin; clear hfin hd hl hop hsz
    go_enter Try.func91, Try.ntmps91
    go_wp2_with fail
    refine HP.out.mono ?_
    rintro e w1 ⟨v, rfl, hst, hb⟩
    go_wp2_with fail
    refine (s_l2Hex _ _).mono ?_
    rw [HX.out]
    rintro e w2 ⟨rfl, rfl⟩
    go_wp2_with fail
    refine (s_l3Assert (dig s 1) _ (dig_lt _ _)).mono ?_
    rw [HFIN.out]
    rintro e w2 ⟨rfl, rfl⟩
    go_wp2_with fail
    go_ret
    exact ⟨rfl, hb⟩
  case inr.inl.inr =>
    subst h
    have hv : ((s[0]'h0).toNat : Int) = 63 := by rw [byt_get s 0 h0, hop]; rfl
    have hn : n = 1 := by cases hl; rfl
    subst hn
    have hparts := s_l5Parts s (1 + 1) [] w hs h0 (by rw [hop]; rfl) hsz.symm (by simp)
    have HP := Lib.hid hparts; clear hparts
    have h1 : 1 < s.size := by omega
    have hx : hexVal (s[1]'h1) = (dig s 1 : Int) := by
      rw [byt_get s 1 h1, hexVal_nat (((digs_iff _ _ _).1 hd).2 0 (by omega))]
      rfl
    have HX := Lib.hid hx; clear hx
    have hpd : digF s 1 1 0 = dig s 1 := rfl
    have HPD := Lib.hid hpd; clear hpd
    have hfin : txt 16 (fun p => andn 15 (dig (txt 16 (fun q => dig s 1 &&& q)) (andn 15 p))) = txt 16 (Ct.leaf 63 (digF s 1 1)).tr := (dual_txt fun i _ => and_lt (dig_lt _ _)).trans (txt_congr fun q hq => by rw [tr_au, HPD.out, dual_assert (dig_lt _ _) hq])
    have HFIN := Lib.hid hfin; clear hfin hd hl hop hsz
    go_enter Try.func91, Try.ntmps91
    go_wp2_with fail
    refine HP.out.mono ?_
    rintro e w1 ⟨v, rfl, hst, hb⟩
    go_wp2_with fail
    refine (s_l2Hex _ _).mono ?_
    rw [HX.out]
    rintro e w2 ⟨rfl, rfl⟩
    go_wp2_with fail
    refine (s_l3Assert (dig s 1) _ (dig_lt _ _)).mono ?_
    rintro e w2 ⟨rfl, rfl⟩
    go_wp2_with fail
    refine (s_l3Dual _ _ (Dg.txt fun i _ => and_lt (dig_lt _ _))).mono ?_
    rw [HFIN.out]
    rintro e w2 ⟨rfl, rfl⟩
    go_wp2_with fail
    go_ret
    exact ⟨rfl, hb⟩
  case inr.inr.inl.inl =>
    subst h
    have hv : ((s[0]'h0).toNat : Int) = 65 := by rw [byt_get s 0 h0, hop]; rfl
    have hn : n = 4 := by cases hl; rfl
    subst hn
    have hparts := s_l5Parts s (1 + 4) [] w hs h0 (by rw [hop]; rfl) hsz.symm (by simp)
    have HP := Lib.hid hparts; clear hparts
    have hD : Dg 4 (s.extract 1 5) := extr_Dg hd
    have h5 : 5 ≤ s.size := by omega
    have hfin : txt 16 (fun p => fDia (dig (s.extract 1 5)) p 4) = txt 16 (Ct.leaf 65 (digF s 1 4)).tr := txt_congr fun q _ => by
      rw [tr_A]
      exact fDia_congr q fun i hi => by rw [extr_dig (by omega) h5]; unfold digF; rw [if_pos hi]
    have HFIN := Lib.hid hfin; have HD := Lib.hid hD; clear hfin hd hl hop hsz hD
    go_enter Try.func91, Try.ntmps91
    go_wp2_with fail
    refine HP.out.mono ?_
    rintro e w1 ⟨v, rfl, hst, hb⟩
    go_wp2_with fail
    refine (s_l3Angel _ _ HD.out).mono ?_
    rw [HFIN.out]
    rintro e w2 ⟨rfl, rfl⟩
    go_wp2_with fail
    go_ret
    exact ⟨rfl, hb⟩
  case inr.inr.inl.inr =>
    subst h
    have hv : ((s[0]'h0).toNat : Int) = 68 := by rw [byt_get s 0 h0, hop]; rfl
    have hn : n = 4 := by cases hl; rfl
    subst hn
    have hparts := s_l5Parts s (1 + 4) [] w hs h0 (by rw [hop]; rfl) hsz.symm (by simp)
    have HP := Lib.hid hparts; clear hparts
    have hD : Dg 4 (s.extract 1 5) := extr_Dg hd
    have h5 : 5 ≤ s.size := by omega
    have hfin : txt 16 (fun p => andn 15 (dig (txt 16 (fun p => fDia (dig (s.extract 1 5)) p 4)) (andn 15 p))) = txt 16 (Ct.leaf 68 (digF s 1 4)).tr := (dual_txt fun i _ => fDia_lt _ _).trans (txt_congr fun q _ => by
      rw [tr_D, box_dia fun i _ => dig_lt _ _]
      exact fBox_congr q fun i hi => by rw [extr_dig (by omega) h5]; unfold digF; rw [if_pos hi])
    have HFIN := Lib.hid hfin; have HD := Lib.hid hD; clear hfin hd hl hop hsz hD
    go_enter Try.func91, Try.ntmps91
    go_wp2_with fail
    refine HP.out.mono ?_
    rintro e w1 ⟨v, rfl, hst, hb⟩
    go_wp2_with fail
    refine (s_l3Angel _ _ HD.out).mono ?_
    rintro e w2 ⟨rfl, rfl⟩
    go_wp2_with fail
    refine (s_l3Dual _ _ (Dg.txt fun i _ => fDia_lt _ _)).mono ?_
    rw [HFIN.out]
    rintro e w2 ⟨rfl, rfl⟩
    go_wp2_with fail
    go_ret
    exact ⟨rfl, hb⟩
  all_goals (subst h; cases hl)
set_option maxHeartbeats 2000000 in
theorem s_l5Trans_un (op : UInt8) (p : Nat) (x : Ct) (ihx : (∀ (s : ByteArray) (w : World), Reads s x → Calls Try.prog 91 #[.string s] w fun e w' => e = .returned (.string (txt 16 x.tr)) ∧ Below w.heap.size w w')) (s : ByteArray) (w : World) (hR : Reads s (.un op p x)) : Calls Try.prog 91 #[.string s] w fun e w' => e = .returned (.string (txt 16 ((Ct.un op p x).tr))) ∧ Below w.heap.size w w' := by
  have hs := hR.1
  have h0 := hR.pos
  have hwf := hR.wf
  obtain ⟨n, hop, hl, hu, hd, hp, hlt, hrd, hRx⟩ := hR.un
  have hwx : x.wf := by obtain ⟨_, _, _, _, _, h⟩ := hwf; exact h
  have hparts := s_l5Parts s (1 + n) [s.extract (1 + n) s.size] w hs h0 (by rw [hop]; exact hdN_un hu) ⟨s.size, x, hrd, rfl, rfl⟩ (by simp)
  have hdx : Dg 16 (txt 16 x.tr) := Dg.txt fun i hi => Ct.tr_lt hwx i hi
  have hmx : Mono (dig (txt 16 x.tr)) := Mono.txt (Ct.tr_bd hwx) (Ct.tr_mono hwx)
  have hp16 : p < 16 := by rw [hp]; exact digF_lt _ _ _ _
  have hfin : txt 16 (fun q => lfp (fun y => turnU op p (dig (txt 16 x.tr) y) q)) = txt 16 (Ct.un op p x).tr := txt_congr fun q hq => by
    rw [Ct.tr_un]
    exact lfp_congr (turnU_bd hp16 (dig_bd _) hq) fun y hy => by rw [txt_dig 16 _ y hy (Ct.tr_lt hwx y hy)]
  have hloop := fun w => s_l5Loop s (txt 16 x.tr) op n p w hop hu hd hp h0 hdx hmx
  have HP := Lib.hid hparts; have IHX := Lib.hid ihx; have HFIN := Lib.hid hfin; have HLP := Lib.hid hloop; have HRX := Lib.hid hRx
  clear hparts ihx hfin hloop hRx hR hwf hwx hdx hmx hrd hd hp
  rcases letters op with (h | h | h) | (h | h) | (h | h) | (h | h | h) | h | h | (h | h) | h
  case inr.inr.inr.inr.inr.inr.inr => rw [noLetter_un h] at hu; cases hu
  case inr.inr.inr.inr.inr.inl =>
    subst h
    have hv : ((s[0]'h0).toNat : Int) = 119 := by rw [byt_get s 0 h0, hop]; rfl
    clear hop hl hu
    go_enter Try.func91, Try.ntmps91
    go_wp2_with fail
    refine HP.out.mono ?_
    rintro e w1 ⟨v, rfl, hst, hb⟩
    obtain ⟨g, cap, cur, rfl, hrow, hcur⟩ := StrsAt.row hst (by simp)
    have c0 := (hrow.get 0).trans (hcur 0 _ rfl)
    clear hst hcur hrow
    go_wp2_with fail
    refine (IHX.out _ _ HRX.out).mono ?_
    rintro e w2 ⟨rfl, hb2⟩
    go_wp2_with fail
    refine (HLP.out _).mono ?_
    rw [HFIN.out]
    rintro e w3 ⟨rfl, rfl⟩
    go_wp2_with fail
    go_ret
    exact ⟨rfl, hb.trans (hb2.mono hb.size)⟩
  case inr.inr.inr.inr.inr.inr.inl.inl =>
    subst h
    have hv : ((s[0]'h0).toNat : Int) = 42 := by rw [byt_get s 0 h0, hop]; rfl
    clear hop hl hu
    go_enter Try.func91, Try.ntmps91
    go_wp2_with fail
    refine HP.out.mono ?_
    rintro e w1 ⟨v, rfl, hst, hb⟩
    obtain ⟨g, cap, cur, rfl, hrow, hcur⟩ := StrsAt.row hst (by simp)
    have c0 := (hrow.get 0).trans (hcur 0 _ rfl)
    clear hst hcur hrow
    go_wp2_with fail
    refine (IHX.out _ _ HRX.out).mono ?_
    rintro e w2 ⟨rfl, hb2⟩
    go_wp2_with fail
    refine (HLP.out _).mono ?_
    rw [HFIN.out]
    rintro e w3 ⟨rfl, rfl⟩
    go_wp2_with fail
    go_ret
    exact ⟨rfl, hb.trans (hb2.mono hb.size)⟩
  case inr.inr.inr.inr.inr.inr.inl.inr =>
    subst h
    have hv : ((s[0]'h0).toNat : Int) = 43 := by rw [byt_get s 0 h0, hop]; rfl
    clear hop hl hu
    go_enter Try.func91, Try.ntmps91
    go_wp2_with fail
    refine HP.out.mono ?_
    rintro e w1 ⟨v, rfl, hst, hb⟩
    obtain ⟨g, cap, cur, rfl, hrow, hcur⟩ := StrsAt.row hst (by simp)
    have c0 := (hrow.get 0).trans (hcur 0 _ rfl)
    clear hst hcur hrow
    go_wp2_with fail
    refine (IHX.out _ _ HRX.out).mono ?_
    rintro e w2 ⟨rfl, hb2⟩
    go_wp2_with fail
    refine (HLP.out _).mono ?_
    rw [HFIN.out]
    rintro e w3 ⟨rfl, rfl⟩
    go_wp2_with fail
    go_ret
    exact ⟨rfl, hb.trans (hb2.mono hb.size)⟩
  all_goals (subst h; cases hu)
end Go.Proofs.Ytjbfebjdegabaaa
