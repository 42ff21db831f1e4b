/- Joined texts: SpecK, SpecL, SpecM. -/
import Derived.Test.YtiaeakpgldpaiaaQSpecJ
import Derived.Test.YtiaeakpgldpaiaaQJ2
import Derived.Test.YtiaeakpgldpaiaaQJ1
import Derived.Deep.AppendLies
import Derived.OwnWalk
import Derived.Laws.OwnMore
namespace Go.Proofs.Ytiaeakpgldpaiaa
set_option linter.unusedSimpArgs false
set_option linter.unusedVariables false
set_option maxRecDepth 4000
open Go.RowKit

set_option maxHeartbeats 2000000 in
theorem s_l5Head (c : ByteArray) (w : World) (hc : 0 < c.size) : Calls Try.prog 249 #[.string c] w fun e w' => e = .returned (.int .i64 (hdN (byt c 0) : Int)) ∧ w = w' := by
  rcases letters (byt c 0) with (hop | hop | hop) | (hop | hop) | (hop | hop) | (hop | hop | hop) | hop | hop | (hop | hop) | hop
  · have hv : ((c[0]'hc).toNat : Int) = 115 := by rw [byt_get c 0 hc, hop]; rfl
    have HOP := Lib.hid hop; clear hop
    go_enter Try.func249, Try.ntmps249
    go_wp2_with fail
    go_ret
    exact ⟨ret_int (by rw [HOP.out]; rfl), rfl⟩
  · have hv : ((c[0]'hc).toNat : Int) = 97 := by rw [byt_get c 0 hc, hop]; rfl
    have HOP := Lib.hid hop; clear hop
    go_enter Try.func249, Try.ntmps249
    go_wp2_with fail
    go_ret
    exact ⟨ret_int (by rw [HOP.out]; rfl), rfl⟩
  · have hv : ((c[0]'hc).toNat : Int) = 109 := by rw [byt_get c 0 hc, hop]; rfl
    have HOP := Lib.hid hop; clear hop
    go_enter Try.func249, Try.ntmps249
    go_wp2_with fail
    go_ret
    exact ⟨ret_int (by rw [HOP.out]; rfl), rfl⟩
  · have hv : ((c[0]'hc).toNat : Int) = 33 := by rw [byt_get c 0 hc, hop]; rfl
    have HOP := Lib.hid hop; clear hop
    go_enter Try.func249, Try.ntmps249
    go_wp2_with fail
    go_ret
    exact ⟨ret_int (by rw [HOP.out]; rfl), rfl⟩
  · have hv : ((c[0]'hc).toNat : Int) = 63 := by rw [byt_get c 0 hc, hop]; rfl
    have HOP := Lib.hid hop; clear hop
    go_enter Try.func249, Try.ntmps249
    go_wp2_with fail
    go_ret
    exact ⟨ret_int (by rw [HOP.out]; rfl), rfl⟩
  · have hv : ((c[0]'hc).toNat : Int) = 65 := by rw [byt_get c 0 hc, hop]; rfl
    have HOP := Lib.hid hop; clear hop
    go_enter Try.func249, Try.ntmps249
    go_wp2_with fail
    go_ret
    exact ⟨ret_int (by rw [HOP.out]; rfl), rfl⟩
  · have hv : ((c[0]'hc).toNat : Int) = 68 := by rw [byt_get c 0 hc, hop]; rfl
    have HOP := Lib.hid hop; clear hop
    go_enter Try.func249, Try.ntmps249
    go_wp2_with fail
    go_ret
    exact ⟨ret_int (by rw [HOP.out]; rfl), rfl⟩
  · have hv : ((c[0]'hc).toNat : Int) = 59 := by rw [byt_get c 0 hc, hop]; rfl
    have HOP := Lib.hid hop; clear hop
    go_enter Try.func249, Try.ntmps249
    go_wp2_with fail
    go_ret
    exact ⟨ret_int (by rw [HOP.out]; rfl), rfl⟩
  · have hv : ((c[0]'hc).toNat : Int) = 38 := by rw [byt_get c 0 hc, hop]; rfl
    have HOP := Lib.hid hop; clear hop
    go_enter Try.func249, Try.ntmps249
    go_wp2_with fail
    go_ret
    exact ⟨ret_int (by rw [HOP.out]; rfl), rfl⟩
  · have hv : ((c[0]'hc).toNat : Int) = 124 := by rw [byt_get c 0 hc, hop]; rfl
    have HOP := Lib.hid hop; clear hop
    go_enter Try.func249, Try.ntmps249
    go_wp2_with fail
    go_ret
    exact ⟨ret_int (by rw [HOP.out]; rfl), rfl⟩
  · have hv : ((c[0]'hc).toNat : Int) = 105 := by rw [byt_get c 0 hc, hop]; rfl
    have HOP := Lib.hid hop; clear hop
    go_enter Try.func249, Try.ntmps249
    go_wp2_with fail
    go_ret
    exact ⟨ret_int (by rw [HOP.out]; rfl), rfl⟩
  · have hv : ((c[0]'hc).toNat : Int) = 119 := by rw [byt_get c 0 hc, hop]; rfl
    have HOP := Lib.hid hop; clear hop
    go_enter Try.func249, Try.ntmps249
    go_wp2_with fail
    go_ret
    exact ⟨ret_int (by rw [HOP.out]; rfl), rfl⟩
  · have hv : ((c[0]'hc).toNat : Int) = 42 := by rw [byt_get c 0 hc, hop]; rfl
    have HOP := Lib.hid hop; clear hop
    go_enter Try.func249, Try.ntmps249
    go_wp2_with fail
    go_ret
    exact ⟨ret_int (by rw [HOP.out]; rfl), rfl⟩
  · have hv : ((c[0]'hc).toNat : Int) = 43 := by rw [byt_get c 0 hc, hop]; rfl
    have HOP := Lib.hid hop; clear hop
    go_enter Try.func249, Try.ntmps249
    go_wp2_with fail
    go_ret
    exact ⟨ret_int (by rw [HOP.out]; rfl), rfl⟩
  · have hh : hdN (byt c 0) = 1 := by
      obtain ⟨⟨n1, n2, n3, n4, n5, n6, n7⟩, n8, n9, n10, n11, n12, n13, n14⟩ := hop
      unfold hdN
      rw [if_neg (by simp [n4, n5, n11, n12]), if_neg (by simp [n6, n7])]
    have HH := Lib.hid hh; clear hh
    obtain ⟨⟨n1, n2, n3, n4, n5, n6, n7⟩, n8, n9, n10, n11, n12, n13, n14⟩ := hop
    rw [← byt_get c 0 hc] at n4 n5 n6 n7 n11 n12
    have m4 := byte_ne (n := 33) (by omega) n4; have m5 := byte_ne (n := 63) (by omega) n5; have m6 := byte_ne (n := 65) (by omega) n6; have m7 := byte_ne (n := 68) (by omega) n7
    have m11 := byte_ne (n := 105) (by omega) n11; have m12 := byte_ne (n := 119) (by omega) n12
    clear n1 n2 n3 n4 n5 n6 n7 n8 n9 n10 n11 n12 n13 n14
    simp only [Int.cast_ofNat_Int] at m4 m5 m6 m7 m11 m12
    go_enter Try.func249, Try.ntmps249
    go_wp2_with fail
    go_ret
    exact ⟨ret_int (by rw [HH.out]; rfl), rfl⟩
theorem infoStr : (Try.prog.info? 9).map (fun i => (i.zero, i.size, i.bytes)) = some (some (.string ⟨#[]⟩), 1, 16) := by kernel_rfl
/-- The slice v holds the texts ts, in a block that is new since w0. -/
def StrsAt (B : Nat) (w' : World) (v : Value) (ts : List ByteArray) : Prop := w'.ownsRow B 9 1 v ts.length (ts.map Value.string) ∧ (ts = [] ∨ ∃ g cap, v = .slice (some ⟨g, 0, none⟩) ts.length cap)
set_option maxHeartbeats 2000000 in
theorem s_l5Parts (s : ByteArray) (a : Nat) (ts : List ByteArray) (w : World) (hs : s.size ≤ 200) (h0 : 0 < s.size) (ha : hdN (byt s 0) = a) (hch : Chain s a ts) (hl : ts.length ≤ 2) : Calls Try.prog 230 #[.string s] w fun e w' => ∃ v, e = .returned v ∧ StrsAt w.heap.size w' v ts ∧ Below w.heap.size w w' := by
  obtain ⟨i0, hi, hz0, hz1, hz2⟩ := info_parts infoStr
  have HI := Lib.hid hi; have HZ0 := Lib.hid hz0; have HZ1 := Lib.hid hz1; have HZ2 := Lib.hid hz2; have HA := Lib.hid ha
  clear hi hz0 hz1 hz2 ha
  have hown0 : (w.alloc (.cells #[] 9)).ownsRow w.heap.size 9 1 (.slice (some ⟨w.heap.size, 0, none⟩) 0 0) 0 [] := World.ownsRow_made w #[] 0 (Nat.le_refl _) (by unfold maxLen; omega) rfl
  have hb0 := (Below.refl w.heap.size w).alloc (Nat.le_refl _) (.cells #[] 9)
  have HCH := Lib.hid hch; clear hch
  go_enter Try.func230, Try.ntmps230
  go_wp2_with fail
  refine (s_l5Head s _ h0).mono ?_
  rw [HA.out]
  rintro e w' ⟨rfl, rfl⟩
  go_wp2_with fail
  go_loopw [3, 4] (fun v t wr => ∃ (b : Nat) (done todo : List ByteArray), t = .int .i64 b ∧ b ≤ s.size ∧ Hid (Chain s b todo ∧ done ++ todo = ts) ∧ wr.ownsRow w.heap.size 9 1 v done.length (done.map Value.string) ∧ Hid (done = [] ∨ ∃ g cap, v = .slice (some ⟨g, 0, none⟩) done.length cap) ∧ Below w.heap.size w wr) (fun _ t _ => s.size - (intOf t).toNat)
  case atStart =>
    refine ⟨a, [], ts, rfl, ?_, Lib.hid ⟨HCH.out, rfl⟩, hown0, Lib.hid (.inl rfl), hb0⟩
    have := HCH.out
    cases ts with
    | nil => exact Nat.le_of_eq this
    | cons t ts =>
      obtain ⟨e, x, h1, _⟩ := this
      have := rd_gt h1
      omega
  case round =>
    clear hown0 hb0
    obtain ⟨b, done, todo, rfl, hbs, HC, hown, HF, hbel⟩ := hrel
    cases todo with
    | nil =>
      have hbe : s.size ≤ b := Nat.le_of_eq (HC.out.1 : b = s.size).symm
      go_wp2_with fail
      go_ret
      have hd : done = ts := by have := HC.out.2; rw [List.append_nil] at this; exact this
      subst hd
      exact ⟨_, rfl, ⟨hown, HF.out⟩, hbel⟩
    | cons t ts' =>
      obtain ⟨⟨e, x, hr, ht, hch'⟩, hall⟩ := HC.out
      have hg := rd_gt hr
      have hlen : done.length + 1 ≤ 2 := by rw [← hall] at hl; simp at hl; omega
      have hsz : t.size ≤ 200 := by rw [ht, ext_size hg.2]; omega
      have hbsz := hbel.size
      have HR := Lib.hid hr; have HT := Lib.hid ht; have HC' := Lib.hid hch'; have HALL := Lib.hid hall
      clear hr ht hch' hall HC
      go_wp2_with fail
      refine (s_l5End s hs 200 b _ _ rfl (by omega)).mono ?_
      rw [HR.out]
      rintro e' w' ⟨rfl, rfl⟩
      rw [show endI (some (x, e)) = (e : Int) from rfl]
      go_wp2_with (at_builtin; refine wpList_append_lies _ rfl _ _ _ rfl w.heap.size 9 i0 (.string ⟨#[]⟩) 1 16 Try.underlying126 HI.out HZ0.out HZ1.out HZ2.out rfl (by decide) _ _ _ rfl (hown.alloc _) ⟨wr.heap.size, 0, none⟩ 1 1 [.string (s.extract b e)] rfl rfl (World.news_of_block (heap_alloc_new wr _)) ?c2 (by decide) ?c3 ?c4 ?c5 _ rfl ?_)
      case c2 => simp [Value.oneCell']
      case c3 => unfold maxLen; omega
      case c4 => omega
      case c5 => simp; omega
      intro g cap w1 hown1 hgrow hlies hglt
      have hbel1 := (hbel.alloc hbsz (.cells #[.string (s.extract b e)] 9)).grown hgrow (by simp; omega) (fun k hk => ((hown.alloc (.cells #[.string (s.extract b e)] 9)).lt k hk).1)
      have hown2 : w1.ownsRow w.heap.size 9 1 (.slice (some ⟨g, 0, none⟩) (done.length + 1) cap) (done ++ [t]).length ((done ++ [t]).map Value.string) := by
        rw [List.map_append, List.length_append, HT.out]
        exact hown1
      clear hown1 hgrow hlies hown hbel
      have hlen2 : (done ++ [t]).length = done.length + 1 := by simp
      have HL := Lib.hid hlen2; clear hlen2
      go_wp2_with fail
      go_roundw
      case rel => exact ⟨e, done ++ [t], ts', rfl, hg.2, Lib.hid ⟨HC'.out, by rw [List.append_assoc]; exact HALL.out⟩, hown2, Lib.hid (.inr ⟨g, cap, by rw [HL.out]⟩), hbel1⟩
      case measure => simp [intOf]; omega
theorem s_l5Turn (c : ByteArray) (op : UInt8) (n p b q : Nat) (w : World) (hop : byt c 0 = op) (hu : unD op = some n) (hd : digs c 1 n = true) (hp : p = digF c 1 n 0) (hc : 0 < c.size) (hb : b < 16) (hq : q < 16) : Calls Try.prog 250 #[.string c, .int .i64 (b : Int), .int .i64 (q : Int)] w fun e w' => e = .returned (.int .i64 (turnU op p b q : Int)) ∧ w = w' := by
  have hp16 : p < 16 := by rw [hp]; exact digF_lt _ _ _ _
  have e1 := bits_and_nat p b (by omega) (by omega)
  have e2 := bits_andn_nat q p hq hp16
  have e3 := bits_or_nat (p &&& b) (andn q p) (by have := and_lt (b := b) hp16; omega) (by have := andn_lt (b := p) hq; omega)
  have e4 := bits_and_nat b q (by omega) (by omega)
  have e5 := bits_or_nat b q (by omega) (by omega)
  have hd' := (digs_iff _ _ _).1 hd
  rcases letters op with (h | h | h) | (h | h) | (h | h) | (h | h | h) | h | h | (h | h) | h
  case inr.inr.inr.inr.inr.inr.inr => rw [noLetter_un h] at hu; cases hu
  case inr.inr.inr.inr.inr.inl =>
    subst h
    have hn : n = 1 := by cases hu; rfl
    subst hn
    have hc1 : 1 < c.size := by omega
    have hx : hexVal (c[1]'hc1) = (p : Int) := by
      rw [byt_get c 1 hc1, hexVal_nat (hd'.2 0 (by omega)), hp]
      rfl
    have hv : ((c[0]'hc).toNat : Int) = 119 := by rw [byt_get c 0 hc, hop]; rfl
    have HX := Lib.hid hx; clear hx hop hp hu hd hd'
    go_enter Try.func250, Try.ntmps250
    go_wp2_with fail
    refine (s_l2Hex _ _).mono ?_
    rw [HX.out]
    rintro e w' ⟨rfl, rfl⟩
    go_wp2_with fail
    go_ret
    exact ⟨rfl, rfl⟩
  case inr.inr.inr.inr.inr.inr.inl.inl =>
    subst h
    have hv : ((c[0]'hc).toNat : Int) = 42 := by rw [byt_get c 0 hc, hop]; rfl
    clear hop hp hu hd hd'
    go_enter Try.func250, Try.ntmps250
    go_wp2_with fail
    go_ret
    exact ⟨rfl, rfl⟩
  case inr.inr.inr.inr.inr.inr.inl.inr =>
    subst h
    have hv : ((c[0]'hc).toNat : Int) = 43 := by rw [byt_get c 0 hc, hop]; rfl
    clear hop hp hu hd hd'
    go_enter Try.func250, Try.ntmps250
    go_wp2_with fail
    go_ret
    exact ⟨rfl, rfl⟩
  all_goals (subst h; cases hu)
set_option maxHeartbeats 1000000 in
theorem s_l5Loop (c t : ByteArray) (op : UInt8) (n p : Nat) (w : World) (hop : byt c 0 = op) (hu : unD op = some n) (hdg : digs c 1 n = true) (hpp : p = digF c 1 n 0) (hc : 0 < c.size) (h : Dg 16 t) (hm : Mono (dig t)) : Calls Try.prog 233 #[.string c, .string t] w fun e w' => e = .returned (.string (txt 16 (fun q => lfp (fun y => turnU op p (dig t y) q)))) ∧ w = w' := by
  have hp : p < 16 := by rw [hpp]; exact digF_lt _ _ _ _
  have HM0 := Lib.hid hm; clear hm
  have HOP := Lib.hid hop; have HU := Lib.hid hu; have HDG := Lib.hid hdg; have HPP := Lib.hid hpp
  clear hop hu hdg hpp
  obtain ⟨F, hF⟩ : ∃ F : Nat → Nat, F = fun q => lfp (fun y => turnU op p (dig t y) q) := ⟨_, rfl⟩
  rw [← hF]
  have HF0 := Lib.hid hF; clear hF
  go_enter Try.func233, Try.ntmps233
  go_wp2_with fail
  go_loop [5, 6] (fun o i => ∃ k : Nat, k ≤ 16 ∧ i = .int .i64 k ∧ o = .string (txt k F)) (fun _ i => 16 - (intOf i).toNat)
  case atStart => exact ⟨0, by omega, rfl, rfl⟩
  case round =>
    obtain ⟨k, hk, rfl, rfl⟩ := hrel
    by_cases hlt : k < 16
    · have ht' := txt_snoc k F
      have HT := Lib.hid ht'; clear ht'
      have hz : (txt k F).size ≤ 16 := by rw [txt_size]; exact hk
      obtain ⟨g, hg⟩ : ∃ g : Nat → Nat, g = fun y => turnU op p (dig t y) k := ⟨_, rfl⟩
      have hB : Bd g := by rw [hg]; exact turnU_bd hp (dig_bd t) hlt
      have hM : Mono g := by rw [hg]; exact turnU_mono HM0.out
      have hgl : ∀ y, g y < 16 := by rw [hg]; exact fun y => turnU_lt hp (dig_lt t y) hlt
      have HG := Lib.hid hg; have HB := Lib.hid hB; have HM := Lib.hid hM; have HGL := Lib.hid hgl; clear hB hM hg hgl
      have hd : decide ((k : Int) < 16) = true := by simp; omega
      go_wp2_with fail
      clear hd
      go_loop [7, 8] (fun ys bs => ∃ n y : Nat, y < 16 ∧ ys = .int .i64 y ∧ Hid (y = iter g 0 n) ∧ (bs = .int .i64 (-1) ∨ ∃ m b : Nat, b < 16 ∧ bs = .int .i64 b ∧ Hid (n = m + 1 ∧ b = iter g 0 m))) (fun _ bs => muL bs)
      case atStart => exact ⟨0, 0, by omega, rfl, Lib.hid rfl, .inl rfl⟩
      case round =>
        obtain ⟨n', y, hy, rfl, HY, hbs⟩ := hrel
        have hgy := HGL.out y
        rcases hbs with rfl | ⟨m, b, hb, rfl, HN⟩
        · have hne : ((-1 : Int) != (y : Int)) = true := by rw [bne_iff_ne]; omega
          go_wp2_with fail
          refine (s_l3Value _ _ _ h hy).mono ?_
          rintro e w' ⟨rfl, rfl⟩
          go_wp2_with fail
          refine (s_l5Turn c op n p _ _ _ HOP.out HU.out HDG.out HPP.out hc (dig_lt _ _) hlt).mono ?_
          rw [show turnU op p (dig t y) k = g y from by rw [HG.out]]
          rintro e w' ⟨rfl, rfl⟩
          go_wp2_with fail
          go_round
          case rel => exact ⟨n' + 1, _, hgy, rfl, Lib.hid (by rw [HY.out]; rfl), .inr ⟨n', y, hy, rfl, Lib.hid ⟨rfl, HY.out⟩⟩⟩
          case measure => show muL (.int .i64 (y : Int)) < muL (.int .i64 (-1)); rw [muL_nat, muL_neg]; have := pc_le y; omega
        · by_cases he : b = y
          · have hyF : y = F k := by
              have h1 := HN.out.1; have h2 := HN.out.2; have h3 := HY.out
              subst h1
              have : g (iter g 0 m) = iter g 0 m := by
                show iter g 0 (m + 1) = _
                rw [← h3, ← he, h2]
              rw [h3, show iter g 0 (m + 1) = iter g 0 m from this, lfp_of HB.out HM.out this, HF0.out, HG.out]
            have HF := Lib.hid hyF
            have hne : ((b : Int) != (y : Int)) = false := by rw [he]; simp
            clear he hyF
            go_wp2_with (go_at_call 100; refine (s_l2Digit _ _ hy).mono ?_; rintro e w' ⟨rfl, rfl⟩)
            go_round
            case rel => exact ⟨k + 1, by omega, by go_num, by rw [HF.out, ← HT.out]⟩
            case measure => simp [intOf]; omega
          · have hne : ((b : Int) != (y : Int)) = true := by rw [bne_iff_ne]; omega
            have HE := Lib.hid he; clear he
            go_wp2_with fail
            refine (s_l3Value _ _ _ h hy).mono ?_
            rintro e w' ⟨rfl, rfl⟩
            go_wp2_with fail
            refine (s_l5Turn c op n p _ _ _ HOP.out HU.out HDG.out HPP.out hc (dig_lt _ _) hlt).mono ?_
            rw [show turnU op p (dig t y) k = g y from by rw [HG.out]]
            rintro e w' ⟨rfl, rfl⟩
            go_wp2_with fail
            go_round
            case rel => exact ⟨n' + 1, _, hgy, rfl, Lib.hid (by rw [HY.out]; rfl), .inr ⟨n', y, hy, rfl, Lib.hid ⟨rfl, HY.out⟩⟩⟩
            case measure =>
              show muL (.int .i64 (y : Int)) < muL (.int .i64 (b : Int))
              rw [muL_nat, muL_nat]
              have h1 := HN.out.1; have h2 := HN.out.2; have h3 := HY.out; subst h1
              have := pc_lt hb hy (by rw [h2, h3]; exact iter_up HB.out HM.out m) HE.out
              have := pc_le y
              have := pc_le b
              omega
    · obtain rfl : k = 16 := by omega
      go_wp2_with fail
      go_ret
      exact ⟨rfl, rfl⟩
end Go.Proofs.Ytiaeakpgldpaiaa
namespace Go.Proofs.Ytiaeakpgldpaiaa
set_option linter.unusedSimpArgs false
set_option linter.unusedVariables false
set_option maxRecDepth 4000
open Go.RowKit

/-- What an assertion tells, by name. -/
def fAnd (p : Nat) : Nat → Nat := fun q => p &&& q
theorem fAnd0_lt (i : Nat) : fAnd 0 i < 16 := and_lt (a := 0) (b := i) (by omega)
theorem tr_s (F : Nat → Nat) (q : Nat) : (Ct.leaf 115 F).tr q = 15 &&& q := by rw [Ct.tr]; rfl
theorem tr_a (F : Nat → Nat) (q : Nat) : (Ct.leaf 97 F).tr q = 0 &&& q := by rw [Ct.tr]; rfl
theorem tr_m (F : Nat → Nat) (q : Nat) : (Ct.leaf 109 F).tr q = q ||| andn 15 0 := by rw [Ct.tr]; rfl
theorem tr_as (F : Nat → Nat) (q : Nat) : (Ct.leaf 33 F).tr q = F 0 &&& q := by rw [Ct.tr]; rfl
theorem tr_au (F : Nat → Nat) (q : Nat) : (Ct.leaf 63 F).tr q = q ||| andn 15 (F 0) := by rw [Ct.tr]; rfl
theorem tr_A (F : Nat → Nat) (q : Nat) : (Ct.leaf 65 F).tr q = fDia F q 4 := by rw [Ct.tr]; rfl
theorem tr_D (F : Nat → Nat) (q : Nat) : (Ct.leaf 68 F).tr q = fBox F q := by rw [Ct.tr]; rfl
theorem tr_seq (p : Nat) (x y : Ct) (q : Nat) : (Ct.bin 59 p x y).tr q = x.tr (y.tr q) := by rw [Ct.tr]; rfl
theorem tr_and (p : Nat) (x y : Ct) (q : Nat) : (Ct.bin 38 p x y).tr q = x.tr q &&& y.tr q := by rw [Ct.tr]; rfl
theorem tr_or (p : Nat) (x y : Ct) (q : Nat) : (Ct.bin 124 p x y).tr q = x.tr q ||| y.tr q := by rw [Ct.tr]; rfl
theorem tr_if (p : Nat) (x y : Ct) (q : Nat) : (Ct.bin 105 p x y).tr q = turn p (x.tr q) (y.tr q) := by rw [Ct.tr]; rfl
theorem dual_assert {a p : Nat} (ha : a < 16) (hp : p < 16) : andn 15 (a &&& andn 15 p) = p ||| andn 15 a := by
  apply eq_of_bits (n := 4) (andn_lt (by omega)) (or_lt hp (andn_lt (by omega)))
  intro i hi
  have h15 : (15 : Nat).testBit i = true := by
    have key : ∀ i, i < 4 → (15 : Nat).testBit i = true := by decide
    exact key i hi
  rw [testBit_andn, Nat.testBit_and, testBit_andn, Nat.testBit_or, testBit_andn, h15]
  cases a.testBit i <;> cases p.testBit i <;> rfl
theorem dual_txt {F : Nat → Nat} (hF : ∀ i, i < 16 → F i < 16) : txt 16 (fun p => andn 15 (dig (txt 16 F) (andn 15 p))) = txt 16 (fun p => andn 15 (F (andn 15 p))) :=
  txt_congr fun p _ => by rw [txt_dig 16 F _ (andn_lt (by omega)) (hF _ (andn_lt (by omega)))]
theorem extr_dig {s : ByteArray} {a b i : Nat} (h : a + i < b) (hb : b ≤ s.size) : dig (s.extract a b) i = dig s (a + i) := by unfold dig; rw [byt_ext h hb]
theorem extr_Dg {s : ByteArray} {a n : Nat} (h : digs s a n = true) : Dg n (s.extract a (a + n)) := by
  have h' := (digs_iff _ _ _).1 h
  have e := digs_ext h'.1
  rw [h, Bool.and_eq_true, decide_eq_true_iff] at e
  exact ⟨by omega, e.1⟩
theorem StrsAt.row {B : Nat} {w : World} {v : Value} {ts : List ByteArray} (h : StrsAt B w v ts) (hn : ts ≠ []) : ∃ g cap cur, v = .slice (some ⟨g, 0, none⟩) ts.length cap ∧ RowAt w g 9 cur ∧ ∀ (i : Nat) (t : ByteArray), ts[i]? = some t → cur[i]? = some (Value.string t) := by
  rcases h.2 with h2 | ⟨g, cap, rfl⟩
  · exact absurd h2 hn
  · rcases h.1.2 with ⟨h', _⟩ | ⟨g', cap', cur, h', _, hg, _, _, _, htake⟩
    · simp at h'
    · simp only [Value.slice.injEq, Option.some.injEq, Addr.mk.injEq, and_true, true_and] at h'
      obtain ⟨rfl, rfl⟩ := h'
      refine ⟨g, cap, cur, rfl, hg, fun i t ht => ?_⟩
      have hlt : i < ts.length := (List.getElem?_eq_some_iff.1 ht).1
      have : (cur.toList.take (ts.length * 1))[i]? = (ts.map Value.string)[i]? := by rw [htake]
      rw [List.getElem?_take, if_pos (by omega), List.getElem?_map, ht] at this
      simpa using this
set_option maxHeartbeats 2000000 in
theorem s_l5Trans_leaf (op : UInt8) (F : Nat → Nat) (s : ByteArray) (w : World) (hR : Reads s (.leaf op F)) : Calls Try.prog 174 #[.string s] w fun e w' => e = .returned (.string (txt 16 ((Ct.leaf op F).tr))) ∧ Below w.heap.size w w' := by
  have hs := hR.1
  have h0 := hR.pos
  obtain ⟨n, hop, hl, hd, hF, hsz⟩ := hR.leaf
  subst hF
  clear hR
  rcases letters op with (h | h | h) | (h | h) | (h | h) | (h | h | h) | h | h | (h | h) | h
  case inr.inr.inr.inr.inr.inr.inr => rw [noLetter_leaf h] at hl; cases hl
  case inl.inl =>
    subst h
    have hv : ((s[0]'h0).toNat : Int) = 115 := by rw [byt_get s 0 h0, hop]; rfl
    have hn : n = 0 := by cases hl; rfl
    subst hn
    have hparts := s_l5Parts s (1 + 0) [] w hs h0 (by rw [hop]; rfl) hsz.symm (by simp)
    have HP := Lib.hid hparts; clear hparts
    have hfin : txt 16 (fun q => 15 &&& q) = txt 16 (Ct.leaf 115 (digF s 1 0)).tr := txt_congr fun q _ => (tr_s _ _).symm
    have HFIN := Lib.hid hfin; clear hfin hd hl hop hsz
    go_enter Try.func174, Try.ntmps174
    go_wp2_with fail
    refine HP.out.mono ?_
    rintro e w1 ⟨v, rfl, hst, hb⟩
    go_wp2_with fail
    refine (s_l3Assert 15 _ (by omega)).mono ?_
    rw [HFIN.out]
    rintro e w2 ⟨rfl, rfl⟩
    go_wp2_with fail
    go_ret
    exact ⟨rfl, hb⟩
  case inl.inr.inl =>
    subst h
    have hv : ((s[0]'h0).toNat : Int) = 97 := by rw [byt_get s 0 h0, hop]; rfl
    have hn : n = 0 := by cases hl; rfl
    subst hn
    have hparts := s_l5Parts s (1 + 0) [] w hs h0 (by rw [hop]; rfl) hsz.symm (by simp)
    have HP := Lib.hid hparts; clear hparts
    have hfin : txt 16 (fun q => 0 &&& q) = txt 16 (Ct.leaf 97 (digF s 1 0)).tr := txt_congr fun q _ => (tr_a _ _).symm
    have HFIN := Lib.hid hfin; clear hfin hd hl hop hsz
    go_enter Try.func174, Try.ntmps174
    go_wp2_with fail
    refine HP.out.mono ?_
    rintro e w1 ⟨v, rfl, hst, hb⟩
    go_wp2_with fail
    refine (s_l3Assert 0 _ (by omega)).mono ?_
    rw [HFIN.out]
    rintro e w2 ⟨rfl, rfl⟩
    go_wp2_with fail
    go_ret
    exact ⟨rfl, hb⟩
  case inl.inr.inr =>
    subst h
    have hv : ((s[0]'h0).toNat : Int) = 109 := by rw [byt_get s 0 h0, hop]; rfl
    have hn : n = 0 := by cases hl; rfl
    subst hn
    have hparts := s_l5Parts s (1 + 0) [] w hs h0 (by rw [hop]; rfl) hsz.symm (by simp)
    have HP := Lib.hid hparts; clear hparts
    have hfin : txt 16 (fun p => andn 15 (dig (txt 16 (fAnd 0)) (andn 15 p))) = txt 16 (Ct.leaf 109 (digF s 1 0)).tr := (dual_txt fun i _ => fAnd0_lt i).trans (txt_congr fun q hq => by rw [tr_m]; exact dual_assert (by omega) hq)
    have HFIN := Lib.hid hfin; clear hfin hd hl hop hsz
    go_enter Try.func174, Try.ntmps174
    go_wp2_with fail
    refine HP.out.mono ?_
    rintro e w1 ⟨v, rfl, hst, hb⟩
    go_wp2_with fail
    refine (s_l3Assert 0 _ (by omega)).mono fun e w2 (h : e = .returned (.string (txt 16 (fAnd 0))) ∧ w1 = w2) => ?_
    obtain ⟨rfl, rfl⟩ := h
    go_wp2_with fail
    refine (s_l3Dual _ _ (Dg.txt fun i _ => fAnd0_lt i)).mono ?_
    rw [HFIN.out]
    rintro e w2 ⟨rfl, rfl⟩
    go_wp2_with fail
    go_ret
    exact ⟨rfl, hb⟩
  case inr.inl.inl =>
    subst h
    have hv : ((s[0]'h0).toNat : Int) = 33 := by rw [byt_get s 0 h0, hop]; rfl
    have hn : n = 1 := by cases hl; rfl
    subst hn
    have hparts := s_l5Parts s (1 + 1) [] w hs h0 (by rw [hop]; rfl) hsz.symm (by simp)
    have HP := Lib.hid hparts; clear hparts
    have h1 : 1 < s.size := by omega
    have hx : hexVal (s[1]'h1) = (dig s 1 : Int) := by
      rw [byt_get s 1 h1, hexVal_nat (((digs_iff _ _ _).1 hd).2 0 (by omega))]
      rfl
    have HX := Lib.hid hx; clear hx
    have hpd : digF s 1 1 0 = dig s 1 := rfl
    have HPD := Lib.hid hpd; clear hpd
    have hfin : txt 16 (fun q => dig s 1 &&& q) = txt 16 (Ct.leaf 33 (digF s 1 1)).tr := txt_congr fun q _ => by rw [tr_as, HPD.out]
    have HFIN := Lib.hid hfin; clear hfin hd hl hop hsz
    go_enter Try.func174, Try.ntmps174
    go_wp2_with fail
    refine HP.out.mono ?_
    rintro e w1 ⟨v, rfl, hst, hb⟩
    go_wp2_with fail
    refine (s_l2Hex _ _).mono ?_
    rw [HX.out]
    rintro e w2 ⟨rfl, rfl⟩
    go_wp2_with fail
    refine (s_l3Assert (dig s 1) _ (dig_lt _ _)).mono ?_
    rw [HFIN.out]
    rintro e w2 ⟨rfl, rfl⟩
    go_wp2_with fail
    go_ret
    exact ⟨rfl, hb⟩
  case inr.inl.inr =>
    subst h
    have hv : ((s[0]'h0).toNat : Int) = 63 := by rw [byt_get s 0 h0, hop]; rfl
    have hn : n = 1 := by cases hl; rfl
    subst hn
    have hparts := s_l5Parts s (1 + 1) [] w hs h0 (by rw [hop]; rfl) hsz.symm (by simp)
    have HP := Lib.hid hparts; clear hparts
    have h1 : 1 < s.size := by omega
    have hx : hexVal (s[1]'h1) = (dig s 1 : Int) := by
      rw [byt_get s 1 h1, hexVal_nat (((digs_iff _ _ _).1 hd).2 0 (by omega))]
      rfl
    have HX := Lib.hid hx; clear hx
    have hpd : digF s 1 1 0 = dig s 1 := rfl
    have HPD := Lib.hid hpd; clear hpd
    have hfin : txt 16 (fun p => andn 15 (dig (txt 16 (fun q => dig s 1 &&& q)) (andn 15 p))) = txt 16 (Ct.leaf 63 (digF s 1 1)).tr := (dual_txt fun i _ => and_lt (dig_lt _ _)).trans (txt_congr fun q hq => by rw [tr_au, HPD.out, dual_assert (dig_lt _ _) hq])
    have HFIN := Lib.hid hfin; clear hfin hd hl hop hsz
    go_enter Try.func174, Try.ntmps174
    go_wp2_with fail
    refine HP.out.mono ?_
    rintro e w1 ⟨v, rfl, hst, hb⟩
    go_wp2_with fail
    refine (s_l2Hex _ _).mono ?_
    rw [HX.out]
    rintro e w2 ⟨rfl, rfl⟩
    go_wp2_with fail
    refine (s_l3Assert (dig s 1) _ (dig_lt _ _)).mono ?_
    rintro e w2 ⟨rfl, rfl⟩
    go_wp2_with fail
    refine (s_l3Dual _ _ (Dg.txt fun i _ => and_lt (dig_lt _ _))).mono ?_
    rw [HFIN.out]
    rintro e w2 ⟨rfl, rfl⟩
    go_wp2_with fail
    go_ret
    exact ⟨rfl, hb⟩
  case inr.inr.inl.inl =>
    subst h
    have hv : ((s[0]'h0).toNat : Int) = 65 := by rw [byt_get s 0 h0, hop]; rfl
    have hn : n = 4 := by cases hl; rfl
    subst hn
    have hparts := s_l5Parts s (1 + 4) [] w hs h0 (by rw [hop]; rfl) hsz.symm (by simp)
    have HP := Lib.hid hparts; clear hparts
    have hD : Dg 4 (s.extract 1 5) := extr_Dg hd
    have h5 : 5 ≤ s.size := by omega
    have hfin : txt 16 (fun p => fDia (dig (s.extract 1 5)) p 4) = txt 16 (Ct.leaf 65 (digF s 1 4)).tr := txt_congr fun q _ => by
      rw [tr_A]
      exact fDia_congr q fun i hi => by rw [extr_dig (by omega) h5]; unfold digF; rw [if_pos hi]
    have HFIN := Lib.hid hfin; have HD := Lib.hid hD; clear hfin hd hl hop hsz hD
    go_enter Try.func174, Try.ntmps174
    go_wp2_with fail
    refine HP.out.mono ?_
    rintro e w1 ⟨v, rfl, hst, hb⟩
    go_wp2_with fail
    refine (s_l3Angel _ _ HD.out).mono ?_
    rw [HFIN.out]
    rintro e w2 ⟨rfl, rfl⟩
    go_wp2_with fail
    go_ret
    exact ⟨rfl, hb⟩
  case inr.inr.inl.inr =>
    subst h
    have hv : ((s[0]'h0).toNat : Int) = 68 := by rw [byt_get s 0 h0, hop]; rfl
    have hn : n = 4 := by cases hl; rfl
    subst hn
    have hparts := s_l5Parts s (1 + 4) [] w hs h0 (by rw [hop]; rfl) hsz.symm (by simp)
    have HP := Lib.hid hparts; clear hparts
    have hD : Dg 4 (s.extract 1 5) := extr_Dg hd
    have h5 : 5 ≤ s.size := by omega
    have hfin : txt 16 (fun p => andn 15 (dig (txt 16 (fun p => fDia (dig (s.extract 1 5)) p 4)) (andn 15 p))) = txt 16 (Ct.leaf 68 (digF s 1 4)).tr := (dual_txt fun i _ => fDia_lt _ _).trans (txt_congr fun q _ => by
      rw [tr_D, box_dia fun i _ => dig_lt _ _]
      exact fBox_congr q fun i hi => by rw [extr_dig (by omega) h5]; unfold digF; rw [if_pos hi])
    have HFIN := Lib.hid hfin; have HD := Lib.hid hD; clear hfin hd hl hop hsz hD
    go_enter Try.func174, Try.ntmps174
    go_wp2_with fail
    refine HP.out.mono ?_
    rintro e w1 ⟨v, rfl, hst, hb⟩
    go_wp2_with fail
    refine (s_l3Angel _ _ HD.out).mono ?_
    rintro e w2 ⟨rfl, rfl⟩
    go_wp2_with fail
    refine (s_l3Dual _ _ (Dg.txt fun i _ => fDia_lt _ _)).mono ?_
    rw [HFIN.out]
    rintro e w2 ⟨rfl, rfl⟩
    go_wp2_with fail
    go_ret
    exact ⟨rfl, hb⟩
  all_goals (subst h; cases hl)
set_option maxHeartbeats 2000000 in
theorem s_l5Trans_un (op : UInt8) (p : Nat) (x : Ct) (ihx : (∀ (s : ByteArray) (w : World), Reads s x → Calls Try.prog 174 #[.string s] w fun e w' => e = .returned (.string (txt 16 x.tr)) ∧ Below w.heap.size w w')) (s : ByteArray) (w : World) (hR : Reads s (.un op p x)) : Calls Try.prog 174 #[.string s] w fun e w' => e = .returned (.string (txt 16 ((Ct.un op p x).tr))) ∧ Below w.heap.size w w' := by
  have hs := hR.1
  have h0 := hR.pos
  have hwf := hR.wf
  obtain ⟨n, hop, hl, hu, hd, hp, hlt, hrd, hRx⟩ := hR.un
  have hwx : x.wf := by obtain ⟨_, _, _, _, _, h⟩ := hwf; exact h
  have hparts := s_l5Parts s (1 + n) [s.extract (1 + n) s.size] w hs h0 (by rw [hop]; exact hdN_un hu) ⟨s.size, x, hrd, rfl, rfl⟩ (by simp)
  have hdx : Dg 16 (txt 16 x.tr) := Dg.txt fun i hi => Ct.tr_lt hwx i hi
  have hmx : Mono (dig (txt 16 x.tr)) := Mono.txt (Ct.tr_bd hwx) (Ct.tr_mono hwx)
  have hp16 : p < 16 := by rw [hp]; exact digF_lt _ _ _ _
  have hfin : txt 16 (fun q => lfp (fun y => turnU op p (dig (txt 16 x.tr) y) q)) = txt 16 (Ct.un op p x).tr := txt_congr fun q hq => by
    rw [Ct.tr_un]
    exact lfp_congr (turnU_bd hp16 (dig_bd _) hq) fun y hy => by rw [txt_dig 16 _ y hy (Ct.tr_lt hwx y hy)]
  have hloop := fun w => s_l5Loop s (txt 16 x.tr) op n p w hop hu hd hp h0 hdx hmx
  have HP := Lib.hid hparts; have IHX := Lib.hid ihx; have HFIN := Lib.hid hfin; have HLP := Lib.hid hloop; have HRX := Lib.hid hRx
  clear hparts ihx hfin hloop hRx hR hwf hwx hdx hmx hrd hd hp
  rcases letters op with (h | h | h) | (h | h) | (h | h) | (h | h | h) | h | h | (h | h) | h
  case inr.inr.inr.inr.inr.inr.inr => rw [noLetter_un h] at hu; cases hu
  case inr.inr.inr.inr.inr.inl =>
    subst h
    have hv : ((s[0]'h0).toNat : Int) = 119 := by rw [byt_get s 0 h0, hop]; rfl
    clear hop hl hu
    go_enter Try.func174, Try.ntmps174
    go_wp2_with fail
    refine HP.out.mono ?_
    rintro e w1 ⟨v, rfl, hst, hb⟩
    obtain ⟨g, cap, cur, rfl, hrow, hcur⟩ := StrsAt.row hst (by simp)
    have c0 := (hrow.get 0).trans (hcur 0 _ rfl)
    clear hst hcur hrow
    go_wp2_with fail
    refine (IHX.out _ _ HRX.out).mono ?_
    rintro e w2 ⟨rfl, hb2⟩
    go_wp2_with fail
    refine (HLP.out _).mono ?_
    rw [HFIN.out]
    rintro e w3 ⟨rfl, rfl⟩
    go_wp2_with fail
    go_ret
    exact ⟨rfl, hb.trans (hb2.mono hb.size)⟩
  case inr.inr.inr.inr.inr.inr.inl.inl =>
    subst h
    have hv : ((s[0]'h0).toNat : Int) = 42 := by rw [byt_get s 0 h0, hop]; rfl
    clear hop hl hu
    go_enter Try.func174, Try.ntmps174
    go_wp2_with fail
    refine HP.out.mono ?_
    rintro e w1 ⟨v, rfl, hst, hb⟩
    obtain ⟨g, cap, cur, rfl, hrow, hcur⟩ := StrsAt.row hst (by simp)
    have c0 := (hrow.get 0).trans (hcur 0 _ rfl)
    clear hst hcur hrow
    go_wp2_with fail
    refine (IHX.out _ _ HRX.out).mono ?_
    rintro e w2 ⟨rfl, hb2⟩
    go_wp2_with fail
    refine (HLP.out _).mono ?_
    rw [HFIN.out]
    rintro e w3 ⟨rfl, rfl⟩
    go_wp2_with fail
    go_ret
    exact ⟨rfl, hb.trans (hb2.mono hb.size)⟩
  case inr.inr.inr.inr.inr.inr.inl.inr =>
    subst h
    have hv : ((s[0]'h0).toNat : Int) = 43 := by rw [byt_get s 0 h0, hop]; rfl
    clear hop hl hu
    go_enter Try.func174, Try.ntmps174
    go_wp2_with fail
    refine HP.out.mono ?_
    rintro e w1 ⟨v, rfl, hst, hb⟩
    obtain ⟨g, cap, cur, rfl, hrow, hcur⟩ := StrsAt.row hst (by simp)
    have c0 := (hrow.get 0).trans (hcur 0 _ rfl)
    clear hst hcur hrow
    go_wp2_with fail
    refine (IHX.out _ _ HRX.out).mono ?_
    rintro e w2 ⟨rfl, hb2⟩
    go_wp2_with fail
    refine (HLP.out _).mono ?_
    rw [HFIN.out]
    rintro e w3 ⟨rfl, rfl⟩
    go_wp2_with fail
    go_ret
    exact ⟨rfl, hb.trans (hb2.mono hb.size)⟩
  all_goals (subst h; cases hu)
end Go.Proofs.Ytiaeakpgldpaiaa
namespace Go.Proofs.Ytiaeakpgldpaiaa
set_option linter.unusedSimpArgs false
set_option linter.unusedVariables false
set_option maxRecDepth 4000
open Go.RowKit

set_option maxHeartbeats 4000000 in
theorem s_l5Trans_bin (op : UInt8) (p : Nat) (x y : Ct) (ihx : (∀ (s : ByteArray) (w : World), Reads s x → Calls Try.prog 174 #[.string s] w fun e w' => e = .returned (.string (txt 16 x.tr)) ∧ Below w.heap.size w w')) (ihy : (∀ (s : ByteArray) (w : World), Reads s y → Calls Try.prog 174 #[.string s] w fun e w' => e = .returned (.string (txt 16 y.tr)) ∧ Below w.heap.size w w')) (s : ByteArray) (w : World) (hR : Reads s (.bin op p x y)) : Calls Try.prog 174 #[.string s] w fun e w' => e = .returned (.string (txt 16 ((Ct.bin op p x y).tr))) ∧ Below w.heap.size w w' := by
  have hs := hR.1
  have h0 := hR.pos
  have hwf := hR.wf
  obtain ⟨n, m, hop, hl, hu, hbn, hd, hp, hlt1, hlt2, hrx, hry, hRx, hRy⟩ := hR.bin
  have hwx : x.wf := by obtain ⟨_, _, _, _, _, _, h, _⟩ := hwf; exact h
  have hwy : y.wf := by obtain ⟨_, _, _, _, _, _, _, h⟩ := hwf; exact h
  have hparts := s_l5Parts s (1 + n) [s.extract (1 + n) m, s.extract m s.size] w hs h0 (by rw [hop]; exact hdN_bin hbn) ⟨m, x, hrx, rfl, s.size, y, hry, rfl, rfl⟩ (by simp)
  have hdx : Dg 16 (txt 16 x.tr) := Dg.txt fun i hi => Ct.tr_lt hwx i hi
  have hdy : Dg 16 (txt 16 y.tr) := Dg.txt fun i hi => Ct.tr_lt hwy i hi
  have hp16 : p < 16 := by rw [hp]; exact digF_lt _ _ _ _
  have htx := fun q (hq : q < 16) => txt_dig 16 x.tr q hq (Ct.tr_lt hwx q hq)
  have hty := fun q (hq : q < 16) => txt_dig 16 y.tr q hq (Ct.tr_lt hwy q hq)
  have HP := Lib.hid hparts; have IHX := Lib.hid ihx; have IHY := Lib.hid ihy; have HRX := Lib.hid hRx; have HRY := Lib.hid hRy; have HDX := Lib.hid hdx; have HDY := Lib.hid hdy; have HTX := Lib.hid htx; have HTY := Lib.hid hty; have HWX := Lib.hid hwx; have HWY := Lib.hid hwy
  clear hparts ihx ihy hRx hRy hR hwf hwx hwy hdx hdy hrx hry htx hty
  rcases letters op with (h | h | h) | (h | h) | (h | h) | (h | h | h) | h | h | (h | h) | h
  case inr.inr.inr.inr.inr.inr.inr => rw [noLetter_bin h] at hbn; cases hbn
  case inr.inr.inr.inl.inl =>
    subst h
    have hv : ((s[0]'h0).toNat : Int) = 59 := by rw [byt_get s 0 h0, hop]; rfl
    have hn : n = 0 := by cases hbn; rfl
    subst hn
    have hfin : txt 16 (fun q => dig (txt 16 x.tr) (dig (txt 16 y.tr) q)) = txt 16 (Ct.bin 59 p x y).tr := txt_congr fun q hq => by rw [tr_seq, HTY.out q hq, HTX.out _ (Ct.tr_lt HWY.out q hq)]
    have HFIN := Lib.hid hfin
    clear hfin hop hl hu hbn hd hp
    go_enter Try.func174, Try.ntmps174
    go_wp2_with fail
    refine HP.out.mono ?_
    rintro e w1 ⟨v, rfl, hst, hb⟩
    obtain ⟨g, cap, cur, rfl, hrow, hcur⟩ := StrsAt.row hst (by simp)
    have q0 := hcur 0 _ rfl
    have q1 := hcur 1 _ rfl
    have hr1 := hrow.drew
    have hbd := hb.drew
    have HQ0 := Lib.hid q0; have HQ1 := Lib.hid q1
    clear q0 q1 hst hcur hrow hb
    go_wp2_with fail
    refine wp_region_held_drew (S := fun w3 => RowAt w3 g 9 cur ∧ Below w.heap.size w w3) (by kernel_rfl) (⟨hr1, hbd⟩) (fun hS => ?_)
    simp only [List.size_toArray, List.length_cons, List.length_nil, Nat.zero_add, Nat.reduceAdd, Array.replicate_succ, Array.replicate_zero, List.push_toArray, List.append_toArray, List.nil_append, List.cons_append]
    refine wpAnyH_take (i := 0) (v := .slice (some ⟨g, 0, none⟩) 2 cap) rfl (by kernel_rfl) (by kernel_rfl) (by kernel_rfl) (fun _ _ _ h => h) (Or.inl ⟨by rfl, fun w2 h2 => by (first | rfl | go_simp)⟩) (by assumption) ?_
    simp only [Act.put, List.getElem_toArray, List.getElem_cons_zero, List.getElem_cons_succ, List.setIfInBounds_toArray, List.set_cons_zero, List.set_cons_succ]
    refine wpAnyH_take (i := 1) (v := .pointer (some ⟨g, 0, none⟩)) rfl (by kernel_rfl) (by kernel_rfl) (by kernel_rfl) (fun _ _ _ h => h) (Or.inl ⟨by rfl, fun w2 h2 => by (first | rfl | go_simp)⟩) (by assumption) ?_
    simp only [Act.put, List.getElem_toArray, List.getElem_cons_zero, List.getElem_cons_succ, List.setIfInBounds_toArray, List.set_cons_zero, List.set_cons_succ]
    refine wpAnyH_take (i := 2) (v := .string (s.extract (1 + 0) m)) rfl (by kernel_rfl) (by kernel_rfl) (by kernel_rfl) (fun _ _ _ h => h) (Or.inl ⟨by rfl, fun w6 h6 => by have c := (h6.1.get 0).trans HQ0.out; (first | rfl | go_simp)⟩) (by assumption) ?_
    simp only [Act.put, List.getElem_toArray, List.getElem_cons_zero, List.getElem_cons_succ, List.setIfInBounds_toArray, List.set_cons_zero, List.set_cons_succ]
    refine wpAnyH_take (i := 4) (v := .slice (some ⟨g, 0, none⟩) 2 cap) rfl (by kernel_rfl) (by kernel_rfl) (by kernel_rfl) (fun _ _ _ h => h) (Or.inl ⟨by rfl, fun w2 h2 => by (first | rfl | go_simp)⟩) (by assumption) ?_
    simp only [Act.put, List.getElem_toArray, List.getElem_cons_zero, List.getElem_cons_succ, List.setIfInBounds_toArray, List.set_cons_zero, List.set_cons_succ]
    refine wpAnyH_take (i := 5) (v := .pointer (some ⟨g, 1, none⟩)) rfl (by kernel_rfl) (by kernel_rfl) (by kernel_rfl) (fun _ _ _ h => h) (Or.inl ⟨by rfl, fun w2 h2 => by (first | rfl | go_simp)⟩) (by assumption) ?_
    simp only [Act.put, List.getElem_toArray, List.getElem_cons_zero, List.getElem_cons_succ, List.setIfInBounds_toArray, List.set_cons_zero, List.set_cons_succ]
    refine wpAnyH_take (i := 6) (v := .string (s.extract m s.size)) rfl (by kernel_rfl) (by kernel_rfl) (by kernel_rfl) (fun _ _ _ h => h) (Or.inl ⟨by rfl, fun w6 h6 => by have c := (h6.1.get 1).trans HQ1.out; (first | rfl | go_simp)⟩) (by assumption) ?_
    simp only [Act.put, List.getElem_toArray, List.getElem_cons_zero, List.getElem_cons_succ, List.setIfInBounds_toArray, List.set_cons_zero, List.set_cons_succ]
    refine wpAnyH_ready (rs := [3]) (by kernel_rfl) (by simp) ?_
    refine AllReadyH.cons rfl (fun K hK => ?_) AllReadyH.nil
    rw [if_pos (by rfl)]
    go_simp
    refine (IHX.out _ _ HRX.out).mono ?_
    rintro e w4 ⟨rfl, hb4⟩
    refine hK.out _ _ ⟨hS.1.later hb4, bel_on' hS.2 hb4⟩ (fun hS => ?_)
    simp only [Act.put, List.getElem_toArray, List.getElem_cons_zero, List.getElem_cons_succ, List.setIfInBounds_toArray, List.set_cons_zero, List.set_cons_succ]
    refine wpAnyH_ready (rs := [7]) (by kernel_rfl) (by simp) ?_
    refine AllReadyH.cons rfl (fun K hK => ?_) AllReadyH.nil
    rw [if_pos (by rfl)]
    go_simp
    refine (IHY.out _ _ HRY.out).mono ?_
    rintro e w5 ⟨rfl, hb5⟩
    have hB5 := bel_on' hS.2 hb5
    refine hK.out _ _ ⟨hS.1.later hb5, hB5⟩ (fun hS => ?_)
    simp only [Act.put, List.getElem_toArray, List.getElem_cons_zero, List.getElem_cons_succ, List.setIfInBounds_toArray, List.set_cons_zero, List.set_cons_succ]
    refine wpAnyH_ready (rs := [8]) (by kernel_rfl) (by simp) ?_
    refine AllReadyH.cons rfl (fun K hK => ?_) AllReadyH.nil
    rw [if_pos (by rfl)]
    go_simp
    refine (s_l3Then _ _ _ HDX.out HDY.out).mono ?_
    rw [HFIN.out]
    rintro e w6 ⟨rfl, rfl⟩
    refine hK.out _ _ hS (fun hS => ?_)
    simp only [Act.put, List.getElem_toArray, List.getElem_cons_zero, List.getElem_cons_succ, List.setIfInBounds_toArray, List.set_cons_zero, List.set_cons_succ]
    refine wpAnyH_take (i := 9) (v := .string (txt 16 (Ct.bin 59 p x y).tr)) rfl (by kernel_rfl) (by kernel_rfl) (by kernel_rfl) (fun _ _ _ h => h) (Or.inl ⟨by rfl, fun w2 h2 => by (first | rfl | go_simp)⟩) (by assumption) ?_
    simp only [Act.put, List.getElem_toArray, List.getElem_cons_zero, List.getElem_cons_succ, List.setIfInBounds_toArray, List.set_cons_zero, List.set_cons_succ]
    refine wpAnyH_done (by kernel_rfl) ?_ _
    go_wp2_with fail
    go_ret
    exact ⟨rfl, hB5⟩
  case inr.inr.inr.inl.inr.inl =>
    subst h
    have hv : ((s[0]'h0).toNat : Int) = 38 := by rw [byt_get s 0 h0, hop]; rfl
    have hn : n = 0 := by cases hbn; rfl
    subst hn
    have hfin : txt 16 (fun q => dig (txt 16 x.tr) q &&& dig (txt 16 y.tr) q) = txt 16 (Ct.bin 38 p x y).tr := txt_congr fun q hq => by rw [tr_and, HTY.out q hq, HTX.out q hq]
    have HFIN := Lib.hid hfin
    clear hfin hop hl hu hbn hd hp
    go_enter Try.func174, Try.ntmps174
    go_wp2_with fail
    refine HP.out.mono ?_
    rintro e w1 ⟨v, rfl, hst, hb⟩
    obtain ⟨g, cap, cur, rfl, hrow, hcur⟩ := StrsAt.row hst (by simp)
    have q0 := hcur 0 _ rfl
    have q1 := hcur 1 _ rfl
    have hr1 := hrow.drew
    have hbd := hb.drew
    have HQ0 := Lib.hid q0; have HQ1 := Lib.hid q1
    clear q0 q1 hst hcur hrow hb
    go_wp2_with fail
    refine wp_region_held_drew (S := fun w3 => RowAt w3 g 9 cur ∧ Below w.heap.size w w3) (by kernel_rfl) (⟨hr1, hbd⟩) (fun hS => ?_)
    simp only [List.size_toArray, List.length_cons, List.length_nil, Nat.zero_add, Nat.reduceAdd, Array.replicate_succ, Array.replicate_zero, List.push_toArray, List.append_toArray, List.nil_append, List.cons_append]
    refine wpAnyH_take (i := 0) (v := .slice (some ⟨g, 0, none⟩) 2 cap) rfl (by kernel_rfl) (by kernel_rfl) (by kernel_rfl) (fun _ _ _ h => h) (Or.inl ⟨by rfl, fun w2 h2 => by (first | rfl | go_simp)⟩) (by assumption) ?_
    simp only [Act.put, List.getElem_toArray, List.getElem_cons_zero, List.getElem_cons_succ, List.setIfInBounds_toArray, List.set_cons_zero, List.set_cons_succ]
    refine wpAnyH_take (i := 1) (v := .pointer (some ⟨g, 0, none⟩)) rfl (by kernel_rfl) (by kernel_rfl) (by kernel_rfl) (fun _ _ _ h => h) (Or.inl ⟨by rfl, fun w2 h2 => by (first | rfl | go_simp)⟩) (by assumption) ?_
    simp only [Act.put, List.getElem_toArray, List.getElem_cons_zero, List.getElem_cons_succ, List.setIfInBounds_toArray, List.set_cons_zero, List.set_cons_succ]
    refine wpAnyH_take (i := 2) (v := .string (s.extract (1 + 0) m)) rfl (by kernel_rfl) (by kernel_rfl) (by kernel_rfl) (fun _ _ _ h => h) (Or.inl ⟨by rfl, fun w6 h6 => by have c := (h6.1.get 0).trans HQ0.out; (first | rfl | go_simp)⟩) (by assumption) ?_
    simp only [Act.put, List.getElem_toArray, List.getElem_cons_zero, List.getElem_cons_succ, List.setIfInBounds_toArray, List.set_cons_zero, List.set_cons_succ]
    refine wpAnyH_take (i := 4) (v := .slice (some ⟨g, 0, none⟩) 2 cap) rfl (by kernel_rfl) (by kernel_rfl) (by kernel_rfl) (fun _ _ _ h => h) (Or.inl ⟨by rfl, fun w2 h2 => by (first | rfl | go_simp)⟩) (by assumption) ?_
    simp only [Act.put, List.getElem_toArray, List.getElem_cons_zero, List.getElem_cons_succ, List.setIfInBounds_toArray, List.set_cons_zero, List.set_cons_succ]
    refine wpAnyH_take (i := 5) (v := .pointer (some ⟨g, 1, none⟩)) rfl (by kernel_rfl) (by kernel_rfl) (by kernel_rfl) (fun _ _ _ h => h) (Or.inl ⟨by rfl, fun w2 h2 => by (first | rfl | go_simp)⟩) (by assumption) ?_
    simp only [Act.put, List.getElem_toArray, List.getElem_cons_zero, List.getElem_cons_succ, List.setIfInBounds_toArray, List.set_cons_zero, List.set_cons_succ]
    refine wpAnyH_take (i := 6) (v := .string (s.extract m s.size)) rfl (by kernel_rfl) (by kernel_rfl) (by kernel_rfl) (fun _ _ _ h => h) (Or.inl ⟨by rfl, fun w6 h6 => by have c := (h6.1.get 1).trans HQ1.out; (first | rfl | go_simp)⟩) (by assumption) ?_
    simp only [Act.put, List.getElem_toArray, List.getElem_cons_zero, List.getElem_cons_succ, List.setIfInBounds_toArray, List.set_cons_zero, List.set_cons_succ]
    refine wpAnyH_ready (rs := [3]) (by kernel_rfl) (by simp) ?_
    refine AllReadyH.cons rfl (fun K hK => ?_) AllReadyH.nil
    rw [if_pos (by rfl)]
    go_simp
    refine (IHX.out _ _ HRX.out).mono ?_
    rintro e w4 ⟨rfl, hb4⟩
    refine hK.out _ _ ⟨hS.1.later hb4, bel_on' hS.2 hb4⟩ (fun hS => ?_)
    simp only [Act.put, List.getElem_toArray, List.getElem_cons_zero, List.getElem_cons_succ, List.setIfInBounds_toArray, List.set_cons_zero, List.set_cons_succ]
    refine wpAnyH_ready (rs := [7]) (by kernel_rfl) (by simp) ?_
    refine AllReadyH.cons rfl (fun K hK => ?_) AllReadyH.nil
    rw [if_pos (by rfl)]
    go_simp
    refine (IHY.out _ _ HRY.out).mono ?_
    rintro e w5 ⟨rfl, hb5⟩
    have hB5 := bel_on' hS.2 hb5
    refine hK.out _ _ ⟨hS.1.later hb5, hB5⟩ (fun hS => ?_)
    simp only [Act.put, List.getElem_toArray, List.getElem_cons_zero, List.getElem_cons_succ, List.setIfInBounds_toArray, List.set_cons_zero, List.set_cons_succ]
    refine wpAnyH_ready (rs := [8]) (by kernel_rfl) (by simp) ?_
    refine AllReadyH.cons rfl (fun K hK => ?_) AllReadyH.nil
    rw [if_pos (by rfl)]
    go_simp
    refine (s_l3Meet _ _ _ HDX.out HDY.out).mono ?_
    rw [HFIN.out]
    rintro e w6 ⟨rfl, rfl⟩
    refine hK.out _ _ hS (fun hS => ?_)
    simp only [Act.put, List.getElem_toArray, List.getElem_cons_zero, List.getElem_cons_succ, List.setIfInBounds_toArray, List.set_cons_zero, List.set_cons_succ]
    refine wpAnyH_take (i := 9) (v := .string (txt 16 (Ct.bin 38 p x y).tr)) rfl (by kernel_rfl) (by kernel_rfl) (by kernel_rfl) (fun _ _ _ h => h) (Or.inl ⟨by rfl, fun w2 h2 => by (first | rfl | go_simp)⟩) (by assumption) ?_
    simp only [Act.put, List.getElem_toArray, List.getElem_cons_zero, List.getElem_cons_succ, List.setIfInBounds_toArray, List.set_cons_zero, List.set_cons_succ]
    refine wpAnyH_done (by kernel_rfl) ?_ _
    go_wp2_with fail
    go_ret
    exact ⟨rfl, hB5⟩
  case inr.inr.inr.inl.inr.inr =>
    subst h
    have hv : ((s[0]'h0).toNat : Int) = 124 := by rw [byt_get s 0 h0, hop]; rfl
    have hn : n = 0 := by cases hbn; rfl
    subst hn
    have hfin : txt 16 (fun q => dig (txt 16 x.tr) q ||| dig (txt 16 y.tr) q) = txt 16 (Ct.bin 124 p x y).tr := txt_congr fun q hq => by rw [tr_or, HTY.out q hq, HTX.out q hq]
    have HFIN := Lib.hid hfin
    clear hfin hop hl hu hbn hd hp
    go_enter Try.func174, Try.ntmps174
    go_wp2_with fail
    refine HP.out.mono ?_
    rintro e w1 ⟨v, rfl, hst, hb⟩
    obtain ⟨g, cap, cur, rfl, hrow, hcur⟩ := StrsAt.row hst (by simp)
    have q0 := hcur 0 _ rfl
    have q1 := hcur 1 _ rfl
    have hr1 := hrow.drew
    have hbd := hb.drew
    have HQ0 := Lib.hid q0; have HQ1 := Lib.hid q1
    clear q0 q1 hst hcur hrow hb
    go_wp2_with fail
    refine wp_region_held_drew (S := fun w3 => RowAt w3 g 9 cur ∧ Below w.heap.size w w3) (by kernel_rfl) (⟨hr1, hbd⟩) (fun hS => ?_)
    simp only [List.size_toArray, List.length_cons, List.length_nil, Nat.zero_add, Nat.reduceAdd, Array.replicate_succ, Array.replicate_zero, List.push_toArray, List.append_toArray, List.nil_append, List.cons_append]
    refine wpAnyH_take (i := 0) (v := .slice (some ⟨g, 0, none⟩) 2 cap) rfl (by kernel_rfl) (by kernel_rfl) (by kernel_rfl) (fun _ _ _ h => h) (Or.inl ⟨by rfl, fun w2 h2 => by (first | rfl | go_simp)⟩) (by assumption) ?_
    simp only [Act.put, List.getElem_toArray, List.getElem_cons_zero, List.getElem_cons_succ, List.setIfInBounds_toArray, List.set_cons_zero, List.set_cons_succ]
    refine wpAnyH_take (i := 1) (v := .pointer (some ⟨g, 0, none⟩)) rfl (by kernel_rfl) (by kernel_rfl) (by kernel_rfl) (fun _ _ _ h => h) (Or.inl ⟨by rfl, fun w2 h2 => by (first | rfl | go_simp)⟩) (by assumption) ?_
    simp only [Act.put, List.getElem_toArray, List.getElem_cons_zero, List.getElem_cons_succ, List.setIfInBounds_toArray, List.set_cons_zero, List.set_cons_succ]
    refine wpAnyH_take (i := 2) (v := .string (s.extract (1 + 0) m)) rfl (by kernel_rfl) (by kernel_rfl) (by kernel_rfl) (fun _ _ _ h => h) (Or.inl ⟨by rfl, fun w6 h6 => by have c := (h6.1.get 0).trans HQ0.out; (first | rfl | go_simp)⟩) (by assumption) ?_
    simp only [Act.put, List.getElem_toArray, List.getElem_cons_zero, List.getElem_cons_succ, List.setIfInBounds_toArray, List.set_cons_zero, List.set_cons_succ]
    refine wpAnyH_take (i := 4) (v := .slice (some ⟨g, 0, none⟩) 2 cap) rfl (by kernel_rfl) (by kernel_rfl) (by kernel_rfl) (fun _ _ _ h => h) (Or.inl ⟨by rfl, fun w2 h2 => by (first | rfl | go_simp)⟩) (by assumption) ?_
    simp only [Act.put, List.getElem_toArray, List.getElem_cons_zero, List.getElem_cons_succ, List.setIfInBounds_toArray, List.set_cons_zero, List.set_cons_succ]
    refine wpAnyH_take (i := 5) (v := .pointer (some ⟨g, 1, none⟩)) rfl (by kernel_rfl) (by kernel_rfl) (by kernel_rfl) (fun _ _ _ h => h) (Or.inl ⟨by rfl, fun w2 h2 => by (first | rfl | go_simp)⟩) (by assumption) ?_
    simp only [Act.put, List.getElem_toArray, List.getElem_cons_zero, List.getElem_cons_succ, List.setIfInBounds_toArray, List.set_cons_zero, List.set_cons_succ]
    refine wpAnyH_take (i := 6) (v := .string (s.extract m s.size)) rfl (by kernel_rfl) (by kernel_rfl) (by kernel_rfl) (fun _ _ _ h => h) (Or.inl ⟨by rfl, fun w6 h6 => by have c := (h6.1.get 1).trans HQ1.out; (first | rfl | go_simp)⟩) (by assumption) ?_
    simp only [Act.put, List.getElem_toArray, List.getElem_cons_zero, List.getElem_cons_succ, List.setIfInBounds_toArray, List.set_cons_zero, List.set_cons_succ]
    refine wpAnyH_ready (rs := [3]) (by kernel_rfl) (by simp) ?_
    refine AllReadyH.cons rfl (fun K hK => ?_) AllReadyH.nil
    rw [if_pos (by rfl)]
    go_simp
    refine (IHX.out _ _ HRX.out).mono ?_
    rintro e w4 ⟨rfl, hb4⟩
    refine hK.out _ _ ⟨hS.1.later hb4, bel_on' hS.2 hb4⟩ (fun hS => ?_)
    simp only [Act.put, List.getElem_toArray, List.getElem_cons_zero, List.getElem_cons_succ, List.setIfInBounds_toArray, List.set_cons_zero, List.set_cons_succ]
    refine wpAnyH_ready (rs := [7]) (by kernel_rfl) (by simp) ?_
    refine AllReadyH.cons rfl (fun K hK => ?_) AllReadyH.nil
    rw [if_pos (by rfl)]
    go_simp
    refine (IHY.out _ _ HRY.out).mono ?_
    rintro e w5 ⟨rfl, hb5⟩
    have hB5 := bel_on' hS.2 hb5
    refine hK.out _ _ ⟨hS.1.later hb5, hB5⟩ (fun hS => ?_)
    simp only [Act.put, List.getElem_toArray, List.getElem_cons_zero, List.getElem_cons_succ, List.setIfInBounds_toArray, List.set_cons_zero, List.set_cons_succ]
    refine wpAnyH_ready (rs := [8]) (by kernel_rfl) (by simp) ?_
    refine AllReadyH.cons rfl (fun K hK => ?_) AllReadyH.nil
    rw [if_pos (by rfl)]
    go_simp
    refine (s_l3Join _ _ _ HDX.out HDY.out).mono ?_
    rw [HFIN.out]
    rintro e w6 ⟨rfl, rfl⟩
    refine hK.out _ _ hS (fun hS => ?_)
    simp only [Act.put, List.getElem_toArray, List.getElem_cons_zero, List.getElem_cons_succ, List.setIfInBounds_toArray, List.set_cons_zero, List.set_cons_succ]
    refine wpAnyH_take (i := 9) (v := .string (txt 16 (Ct.bin 124 p x y).tr)) rfl (by kernel_rfl) (by kernel_rfl) (by kernel_rfl) (fun _ _ _ h => h) (Or.inl ⟨by rfl, fun w2 h2 => by (first | rfl | go_simp)⟩) (by assumption) ?_
    simp only [Act.put, List.getElem_toArray, List.getElem_cons_zero, List.getElem_cons_succ, List.setIfInBounds_toArray, List.set_cons_zero, List.set_cons_succ]
    refine wpAnyH_done (by kernel_rfl) ?_ _
    go_wp2_with fail
    go_ret
    exact ⟨rfl, hB5⟩
  case inr.inr.inr.inr.inl =>
    subst h
    have hv : ((s[0]'h0).toNat : Int) = 105 := by rw [byt_get s 0 h0, hop]; rfl
    have hn : n = 1 := by cases hbn; rfl
    subst hn
    have h1 : 1 < s.size := by omega
    have hx : hexVal (s[1]'h1) = (dig s 1 : Int) := by
      rw [byt_get s 1 h1, hexVal_nat (((digs_iff _ _ _).1 hd).2 0 (by omega))]
      rfl
    have HX := Lib.hid hx; clear hx
    have hpd : digF s 1 1 0 = dig s 1 := rfl
    have HPD := Lib.hid hpd; clear hpd
    have hpe : p = dig s 1 := hp.trans HPD.out
    have hax : txt 16 (fun q => dig (txt 16 (fun q => p &&& q)) (dig (txt 16 x.tr) q)) = txt 16 (fun q => p &&& x.tr q) := txt_congr fun q hq => by rw [HTX.out q hq, txt_dig 16 _ _ (Ct.tr_lt HWX.out q hq) (and_lt hp16)]
    have hay : txt 16 (fun q => dig (txt 16 (fun q => andn 15 p &&& q)) (dig (txt 16 y.tr) q)) = txt 16 (fun q => andn 15 p &&& y.tr q) := txt_congr fun q hq => by rw [HTY.out q hq, txt_dig 16 _ _ (Ct.tr_lt HWY.out q hq) (and_lt (andn_lt (by omega)))]
    have hfin : txt 16 (fun q => dig (txt 16 (fun q => p &&& x.tr q)) q ||| dig (txt 16 (fun q => andn 15 p &&& y.tr q)) q) = txt 16 (Ct.bin 105 p x y).tr := txt_congr fun q hq => by
      rw [tr_if, txt_dig 16 (fun q => p &&& x.tr q) q hq (and_lt hp16), txt_dig 16 (fun q => andn 15 p &&& y.tr q) q hq (and_lt (andn_lt (by omega))), ite_turn (Ct.tr_lt HWY.out q hq)]
    have hb1 : bits .andNot .i64 15 (p : Int) = ((andn 15 p : Nat) : Int) := bits_andn_nat 15 p (by omega) hp16
    rw [← hpe] at HX
    have HFIN := Lib.hid hfin; have HAX := Lib.hid hax; have HAY := Lib.hid hay
    clear hfin hax hay hop hl hu hbn hd hp hpe HPD
    go_enter Try.func174, Try.ntmps174
    go_wp2_with fail
    refine HP.out.mono ?_
    rintro e w1 ⟨v, rfl, hst, hb⟩
    obtain ⟨g, cap, cur, rfl, hrow, hcur⟩ := StrsAt.row hst (by simp)
    have q0 := hcur 0 _ rfl
    have q1 := hcur 1 _ rfl
    have hr1 := hrow.drew
    have hbd := hb.drew
    have HQ0 := Lib.hid q0; have HQ1 := Lib.hid q1
    clear q0 q1 hst hcur hrow hb
    go_wp2_with fail
    refine (s_l2Hex _ _).mono ?_
    rw [HX.out]
    rintro e w2 ⟨rfl, rfl⟩
    go_wp2_with fail
    refine wp_region_held_drew (S := fun w3 => RowAt w3 g 9 cur ∧ Below w.heap.size w w3) (by kernel_rfl) (⟨hr1, hbd⟩) (fun hS => ?_)
    simp only [List.size_toArray, List.length_cons, List.length_nil, Nat.zero_add, Nat.reduceAdd, Array.replicate_succ, Array.replicate_zero, List.push_toArray, List.append_toArray, List.nil_append, List.cons_append]
    refine wpAnyH_take (i := 0) (v := .int .i64 (p : Int)) rfl (by kernel_rfl) (by kernel_rfl) (by kernel_rfl) (fun _ _ _ h => h) (Or.inl ⟨by rfl, fun w2 h2 => by (first | rfl | go_simp)⟩) (by assumption) ?_
    simp only [Act.put, List.getElem_toArray, List.getElem_cons_zero, List.getElem_cons_succ, List.setIfInBounds_toArray, List.set_cons_zero, List.set_cons_succ]
    refine wpAnyH_take (i := 2) (v := .slice (some ⟨g, 0, none⟩) 2 cap) rfl (by kernel_rfl) (by kernel_rfl) (by kernel_rfl) (fun _ _ _ h => h) (Or.inl ⟨by rfl, fun w2 h2 => by (first | rfl | go_simp)⟩) (by assumption) ?_
    simp only [Act.put, List.getElem_toArray, List.getElem_cons_zero, List.getElem_cons_succ, List.setIfInBounds_toArray, List.set_cons_zero, List.set_cons_succ]
    refine wpAnyH_take (i := 3) (v := .pointer (some ⟨g, 0, none⟩)) rfl (by kernel_rfl) (by kernel_rfl) (by kernel_rfl) (fun _ _ _ h => h) (Or.inl ⟨by rfl, fun w2 h2 => by (first | rfl | go_simp)⟩) (by assumption) ?_
    simp only [Act.put, List.getElem_toArray, List.getElem_cons_zero, List.getElem_cons_succ, List.setIfInBounds_toArray, List.set_cons_zero, List.set_cons_succ]
    refine wpAnyH_take (i := 4) (v := .string (s.extract (1 + 1) m)) rfl (by kernel_rfl) (by kernel_rfl) (by kernel_rfl) (fun _ _ _ h => h) (Or.inl ⟨by rfl, fun w6 h6 => by have c := (h6.1.get 0).trans HQ0.out; (first | rfl | go_simp)⟩) (by assumption) ?_
    simp only [Act.put, List.getElem_toArray, List.getElem_cons_zero, List.getElem_cons_succ, List.setIfInBounds_toArray, List.set_cons_zero, List.set_cons_succ]
    refine wpAnyH_take (i := 7) (v := .int .i64 (p : Int)) rfl (by kernel_rfl) (by kernel_rfl) (by kernel_rfl) (fun _ _ _ h => h) (Or.inl ⟨by rfl, fun w2 h2 => by (first | rfl | go_simp)⟩) (by assumption) ?_
    simp only [Act.put, List.getElem_toArray, List.getElem_cons_zero, List.getElem_cons_succ, List.setIfInBounds_toArray, List.set_cons_zero, List.set_cons_succ]
    refine wpAnyH_take (i := 8) (v := .int .i64 ((andn 15 p : Nat) : Int)) rfl (by kernel_rfl) (by kernel_rfl) (by kernel_rfl) (fun _ _ _ h => h) (Or.inl ⟨by rfl, fun w2 h2 => by (first | rfl | go_simp)⟩) (by assumption) ?_
    simp only [Act.put, List.getElem_toArray, List.getElem_cons_zero, List.getElem_cons_succ, List.setIfInBounds_toArray, List.set_cons_zero, List.set_cons_succ]
    refine wpAnyH_take (i := 10) (v := .slice (some ⟨g, 0, none⟩) 2 cap) rfl (by kernel_rfl) (by kernel_rfl) (by kernel_rfl) (fun _ _ _ h => h) (Or.inl ⟨by rfl, fun w2 h2 => by (first | rfl | go_simp)⟩) (by assumption) ?_
    simp only [Act.put, List.getElem_toArray, List.getElem_cons_zero, List.getElem_cons_succ, List.setIfInBounds_toArray, List.set_cons_zero, List.set_cons_succ]
    refine wpAnyH_take (i := 11) (v := .pointer (some ⟨g, 1, none⟩)) rfl (by kernel_rfl) (by kernel_rfl) (by kernel_rfl) (fun _ _ _ h => h) (Or.inl ⟨by rfl, fun w2 h2 => by (first | rfl | go_simp)⟩) (by assumption) ?_
    simp only [Act.put, List.getElem_toArray, List.getElem_cons_zero, List.getElem_cons_succ, List.setIfInBounds_toArray, List.set_cons_zero, List.set_cons_succ]
    refine wpAnyH_take (i := 12) (v := .string (s.extract m s.size)) rfl (by kernel_rfl) (by kernel_rfl) (by kernel_rfl) (fun _ _ _ h => h) (Or.inl ⟨by rfl, fun w6 h6 => by have c := (h6.1.get 1).trans HQ1.out; (first | rfl | go_simp)⟩) (by assumption) ?_
    simp only [Act.put, List.getElem_toArray, List.getElem_cons_zero, List.getElem_cons_succ, List.setIfInBounds_toArray, List.set_cons_zero, List.set_cons_succ]
    refine wpAnyH_ready (rs := [1]) (by kernel_rfl) (by simp) ?_
    refine AllReadyH.cons rfl (fun K hK => ?_) AllReadyH.nil
    rw [if_pos (by rfl)]
    go_simp
    refine (s_l3Assert p _ hp16).mono ?_
    rintro e w2 ⟨rfl, rfl⟩
    refine hK.out _ _ hS (fun hS => ?_)
    simp only [Act.put, List.getElem_toArray, List.getElem_cons_zero, List.getElem_cons_succ, List.setIfInBounds_toArray, List.set_cons_zero, List.set_cons_succ]
    refine wpAnyH_ready (rs := [5]) (by kernel_rfl) (by simp) ?_
    refine AllReadyH.cons rfl (fun K hK => ?_) AllReadyH.nil
    rw [if_pos (by rfl)]
    go_simp
    refine (IHX.out _ _ HRX.out).mono ?_
    rintro e w4 ⟨rfl, hb4⟩
    refine hK.out _ _ ⟨hS.1.later hb4, bel_on' hS.2 hb4⟩ (fun hS => ?_)
    simp only [Act.put, List.getElem_toArray, List.getElem_cons_zero, List.getElem_cons_succ, List.setIfInBounds_toArray, List.set_cons_zero, List.set_cons_succ]
    refine wpAnyH_ready (rs := [6]) (by kernel_rfl) (by simp) ?_
    refine AllReadyH.cons rfl (fun K hK => ?_) AllReadyH.nil
    rw [if_pos (by rfl)]
    go_simp
    refine (s_l3Then _ _ _ (Dg.txt fun i _ => and_lt hp16) HDX.out).mono ?_
    rw [HAX.out]
    rintro e w2 ⟨rfl, rfl⟩
    refine hK.out _ _ hS (fun hS => ?_)
    simp only [Act.put, List.getElem_toArray, List.getElem_cons_zero, List.getElem_cons_succ, List.setIfInBounds_toArray, List.set_cons_zero, List.set_cons_succ]
    refine wpAnyH_ready (rs := [9]) (by kernel_rfl) (by simp) ?_
    refine AllReadyH.cons rfl (fun K hK => ?_) AllReadyH.nil
    rw [if_pos (by rfl)]
    go_simp
    refine (s_l3Assert (andn 15 p) _ (andn_lt (by omega))).mono ?_
    rintro e w2 ⟨rfl, rfl⟩
    refine hK.out _ _ hS (fun hS => ?_)
    simp only [Act.put, List.getElem_toArray, List.getElem_cons_zero, List.getElem_cons_succ, List.setIfInBounds_toArray, List.set_cons_zero, List.set_cons_succ]
    refine wpAnyH_ready (rs := [13]) (by kernel_rfl) (by simp) ?_
    refine AllReadyH.cons rfl (fun K hK => ?_) AllReadyH.nil
    rw [if_pos (by rfl)]
    go_simp
    refine (IHY.out _ _ HRY.out).mono ?_
    rintro e w5 ⟨rfl, hb5⟩
    have hB5 := bel_on' hS.2 hb5
    refine hK.out _ _ ⟨hS.1.later hb5, hB5⟩ (fun hS => ?_)
    simp only [Act.put, List.getElem_toArray, List.getElem_cons_zero, List.getElem_cons_succ, List.setIfInBounds_toArray, List.set_cons_zero, List.set_cons_succ]
    refine wpAnyH_ready (rs := [14]) (by kernel_rfl) (by simp) ?_
    refine AllReadyH.cons rfl (fun K hK => ?_) AllReadyH.nil
    rw [if_pos (by rfl)]
    go_simp
    refine (s_l3Then _ _ _ (Dg.txt fun i _ => and_lt (andn_lt (by omega))) HDY.out).mono ?_
    rw [HAY.out]
    rintro e w2 ⟨rfl, rfl⟩
    refine hK.out _ _ hS (fun hS => ?_)
    simp only [Act.put, List.getElem_toArray, List.getElem_cons_zero, List.getElem_cons_succ, List.setIfInBounds_toArray, List.set_cons_zero, List.set_cons_succ]
    refine wpAnyH_ready (rs := [15]) (by kernel_rfl) (by simp) ?_
    refine AllReadyH.cons rfl (fun K hK => ?_) AllReadyH.nil
    rw [if_pos (by rfl)]
    go_simp
    refine (s_l3Join _ _ _ (Dg.txt fun i _ => and_lt hp16) (Dg.txt fun i _ => and_lt (andn_lt (by omega)))).mono ?_
    rw [HFIN.out]
    rintro e w2 ⟨rfl, rfl⟩
    refine hK.out _ _ hS (fun hS => ?_)
    simp only [Act.put, List.getElem_toArray, List.getElem_cons_zero, List.getElem_cons_succ, List.setIfInBounds_toArray, List.set_cons_zero, List.set_cons_succ]
    refine wpAnyH_take (i := 16) (v := .string (txt 16 (Ct.bin 105 p x y).tr)) rfl (by kernel_rfl) (by kernel_rfl) (by kernel_rfl) (fun _ _ _ h => h) (Or.inl ⟨by rfl, fun w2 h2 => by (first | rfl | go_simp)⟩) (by assumption) ?_
    simp only [Act.put, List.getElem_toArray, List.getElem_cons_zero, List.getElem_cons_succ, List.setIfInBounds_toArray, List.set_cons_zero, List.set_cons_succ]
    refine wpAnyH_done (by kernel_rfl) ?_ _
    go_wp2_with fail
    go_ret
    exact ⟨rfl, hB5⟩
  all_goals (subst h; cases hbn)
theorem s_l5Trans : ∀ (x : Ct) (s : ByteArray) (w : World), Reads s x → Calls Try.prog 174 #[.string s] w fun e w' => e = .returned (.string (txt 16 x.tr)) ∧ Below w.heap.size w w'
  | .leaf op F, s, w, hR => s_l5Trans_leaf op F s w hR
  | .un op p x, s, w, hR => s_l5Trans_un op p x (s_l5Trans x) s w hR
  | .bin op p x y, s, w, hR => s_l5Trans_bin op p x y (s_l5Trans x) (s_l5Trans y) s w hR
end Go.Proofs.Ytiaeakpgldpaiaa
