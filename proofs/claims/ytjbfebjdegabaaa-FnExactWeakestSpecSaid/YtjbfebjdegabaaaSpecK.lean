/- The reference's transformers of contracts. -/
import Derived.Test.YtjbfebjdegabaaaSpecJ
import Derived.Test.YtjbfebjdegabaaaSpecG
import Derived.Test.YtjbfebjdegabaaaBase3
import Derived.Deep.AppendLies
import Derived.OwnWalk
import Derived.Laws.OwnMore
namespace Go.Proofs.Ytjbfebjdegabaaa
set_option linter.unusedSimpArgs false
set_option linter.unusedVariables false
set_option maxRecDepth 4000
open Go.RowKit

set_option maxHeartbeats 2000000 in
theorem s_l5Head (c : ByteArray) (w : World) (hc : 0 < c.size) : Calls Try.prog 162 #[.string c] w fun e w' => e = .returned (.int .i64 (hdN (byt c 0) : Int)) ∧ w = w' := by
  rcases letters (byt c 0) with (hop | hop | hop) | (hop | hop) | (hop | hop) | (hop | hop | hop) | hop | hop | (hop | hop) | hop
  · have hv : ((c[0]'hc).toNat : Int) = 115 := by rw [byt_get c 0 hc, hop]; rfl
    have HOP := Lib.hid hop; clear hop
    go_enter Try.func162, Try.ntmps162
    go_wp2_with fail
    go_ret
    exact ⟨ret_int (by rw [HOP.out]; rfl), rfl⟩
  · have hv : ((c[0]'hc).toNat : Int) = 97 := by rw [byt_get c 0 hc, hop]; rfl
    have HOP := Lib.hid hop; clear hop
    go_enter Try.func162, Try.ntmps162
    go_wp2_with fail
    go_ret
    exact ⟨ret_int (by rw [HOP.out]; rfl), rfl⟩
  · have hv : ((c[0]'hc).toNat : Int) = 109 := by rw [byt_get c 0 hc, hop]; rfl
    have HOP := Lib.hid hop; clear hop
    go_enter Try.func162, Try.ntmps162
    go_wp2_with fail
    go_ret
    exact ⟨ret_int (by rw [HOP.out]; rfl), rfl⟩
  · have hv : ((c[0]'hc).toNat : Int) = 33 := by rw [byt_get c 0 hc, hop]; rfl
    have HOP := Lib.hid hop; clear hop
    go_enter Try.func162, Try.ntmps162
    go_wp2_with fail
    go_ret
    exact ⟨ret_int (by rw [HOP.out]; rfl), rfl⟩
  · have hv : ((c[0]'hc).toNat : Int) = 63 := by rw [byt_get c 0 hc, hop]; rfl
    have HOP := Lib.hid hop; clear hop
    go_enter Try.func162, Try.ntmps162
    go_wp2_with fail
    go_ret
    exact ⟨ret_int (by rw [HOP.out]; rfl), rfl⟩
  · have hv : ((c[0]'hc).toNat : Int) = 65 := by rw [byt_get c 0 hc, hop]; rfl
    have HOP := Lib.hid hop; clear hop
    go_enter Try.func162, Try.ntmps162
    go_wp2_with fail
    go_ret
    exact ⟨ret_int (by rw [HOP.out]; rfl), rfl⟩
  · have hv : ((c[0]'hc).toNat : Int) = 68 := by rw [byt_get c 0 hc, hop]; rfl
    have HOP := Lib.hid hop; clear hop
    go_enter Try.func162, Try.ntmps162
    go_wp2_with fail
    go_ret
    exact ⟨ret_int (by rw [HOP.out]; rfl), rfl⟩
  · have hv : ((c[0]'hc).toNat : Int) = 59 := by rw [byt_get c 0 hc, hop]; rfl
    have HOP := Lib.hid hop; clear hop
    go_enter Try.func162, Try.ntmps162
    go_wp2_with fail
    go_ret
    exact ⟨ret_int (by rw [HOP.out]; rfl), rfl⟩
  · have hv : ((c[0]'hc).toNat : Int) = 38 := by rw [byt_get c 0 hc, hop]; rfl
    have HOP := Lib.hid hop; clear hop
    go_enter Try.func162, Try.ntmps162
    go_wp2_with fail
    go_ret
    exact ⟨ret_int (by rw [HOP.out]; rfl), rfl⟩
  · have hv : ((c[0]'hc).toNat : Int) = 124 := by rw [byt_get c 0 hc, hop]; rfl
    have HOP := Lib.hid hop; clear hop
    go_enter Try.func162, Try.ntmps162
    go_wp2_with fail
    go_ret
    exact ⟨ret_int (by rw [HOP.out]; rfl), rfl⟩
  · have hv : ((c[0]'hc).toNat : Int) = 105 := by rw [byt_get c 0 hc, hop]; rfl
    have HOP := Lib.hid hop; clear hop
    go_enter Try.func162, Try.ntmps162
    go_wp2_with fail
    go_ret
    exact ⟨ret_int (by rw [HOP.out]; rfl), rfl⟩
  · have hv : ((c[0]'hc).toNat : Int) = 119 := by rw [byt_get c 0 hc, hop]; rfl
    have HOP := Lib.hid hop; clear hop
    go_enter Try.func162, Try.ntmps162
    go_wp2_with fail
    go_ret
    exact ⟨ret_int (by rw [HOP.out]; rfl), rfl⟩
  · have hv : ((c[0]'hc).toNat : Int) = 42 := by rw [byt_get c 0 hc, hop]; rfl
    have HOP := Lib.hid hop; clear hop
    go_enter Try.func162, Try.ntmps162
    go_wp2_with fail
    go_ret
    exact ⟨ret_int (by rw [HOP.out]; rfl), rfl⟩
  · have hv : ((c[0]'hc).toNat : Int) = 43 := by rw [byt_get c 0 hc, hop]; rfl
    have HOP := Lib.hid hop; clear hop
    go_enter Try.func162, Try.ntmps162
    go_wp2_with fail
    go_ret
    exact ⟨ret_int (by rw [HOP.out]; rfl), rfl⟩
  · have hh : hdN (byt c 0) = 1 := by
      obtain ⟨⟨n1, n2, n3, n4, n5, n6, n7⟩, n8, n9, n10, n11, n12, n13, n14⟩ := hop
      unfold hdN
      rw [if_neg (by simp [n4, n5, n11, n12]), if_neg (by simp [n6, n7])]
    have HH := Lib.hid hh; clear hh
    obtain ⟨⟨n1, n2, n3, n4, n5, n6, n7⟩, n8, n9, n10, n11, n12, n13, n14⟩ := hop
    rw [← byt_get c 0 hc] at n4 n5 n6 n7 n11 n12
    have m4 := byte_ne (n := 33) (by omega) n4; have m5 := byte_ne (n := 63) (by omega) n5; have m6 := byte_ne (n := 65) (by omega) n6; have m7 := byte_ne (n := 68) (by omega) n7
    have m11 := byte_ne (n := 105) (by omega) n11; have m12 := byte_ne (n := 119) (by omega) n12
    clear n1 n2 n3 n4 n5 n6 n7 n8 n9 n10 n11 n12 n13 n14
    simp only [Int.cast_ofNat_Int] at m4 m5 m6 m7 m11 m12
    go_enter Try.func162, Try.ntmps162
    go_wp2_with fail
    go_ret
    exact ⟨ret_int (by rw [HH.out]; rfl), rfl⟩
theorem infoStr : (Try.prog.info? 9).map (fun i => (i.zero, i.size, i.bytes)) = some (some (.string ⟨#[]⟩), 1, 16) := by kernel_rfl
/-- The slice v holds the texts ts, in a block that is new since w0. -/
def StrsAt (B : Nat) (w' : World) (v : Value) (ts : List ByteArray) : Prop := w'.ownsRow B 9 1 v ts.length (ts.map Value.string) ∧ (ts = [] ∨ ∃ g cap, v = .slice (some ⟨g, 0, none⟩) ts.length cap)
set_option maxHeartbeats 2000000 in
theorem s_l5Parts (s : ByteArray) (a : Nat) (ts : List ByteArray) (w : World) (hs : s.size ≤ 200) (h0 : 0 < s.size) (ha : hdN (byt s 0) = a) (hch : Chain s a ts) (hl : ts.length ≤ 2) : Calls Try.prog 135 #[.string s] w fun e w' => ∃ v, e = .returned v ∧ StrsAt w.heap.size w' v ts ∧ Below w.heap.size w w' := by
  obtain ⟨i0, hi, hz0, hz1, hz2⟩ := info_parts infoStr
  have HI := Lib.hid hi; have HZ0 := Lib.hid hz0; have HZ1 := Lib.hid hz1; have HZ2 := Lib.hid hz2; have HA := Lib.hid ha
  clear hi hz0 hz1 hz2 ha
  have hown0 : (w.alloc (.cells #[] 9)).ownsRow w.heap.size 9 1 (.slice (some ⟨w.heap.size, 0, none⟩) 0 0) 0 [] := World.ownsRow_made w #[] 0 (Nat.le_refl _) (by unfold maxLen; omega) rfl
  have hb0 := (Below.refl w.heap.size w).alloc (Nat.le_refl _) (.cells #[] 9)
  have HCH := Lib.hid hch; clear hch
  go_enter Try.func135, Try.ntmps135
  go_wp2_with fail
  refine (s_l5Head s _ h0).mono ?_
  rw [HA.out]
  rintro e w' ⟨rfl, rfl⟩
  go_wp2_with fail
  go_loopw [3, 4] (fun v t wr => ∃ (b : Nat) (done todo : List ByteArray), t = .int .i64 b ∧ b ≤ s.size ∧ Hid (Chain s b todo ∧ done ++ todo = ts) ∧ wr.ownsRow w.heap.size 9 1 v done.length (done.map Value.string) ∧ Hid (done = [] ∨ ∃ g cap, v = .slice (some ⟨g, 0, none⟩) done.length cap) ∧ Below w.heap.size w wr) (fun _ t _ => s.size - (intOf t).toNat)
  case atStart =>
    refine ⟨a, [], ts, rfl, ?_, Lib.hid ⟨HCH.out, rfl⟩, hown0, Lib.hid (.inl rfl), hb0⟩
    have := HCH.out
    cases ts with
    | nil => exact Nat.le_of_eq this
    | cons t ts =>
      obtain ⟨e, x, h1, _⟩ := this
      have := rd_gt h1
      omega
  case round =>
    clear hown0 hb0
    obtain ⟨b, done, todo, rfl, hbs, HC, hown, HF, hbel⟩ := hrel
    cases todo with
    | nil =>
      have hbe : s.size ≤ b := Nat.le_of_eq (HC.out.1 : b = s.size).symm
      go_wp2_with fail
      go_ret
      have hd : done = ts := by have := HC.out.2; rw [List.append_nil] at this; exact this
      subst hd
      exact ⟨_, rfl, ⟨hown, HF.out⟩, hbel⟩
    | cons t ts' =>
      obtain ⟨⟨e, x, hr, ht, hch'⟩, hall⟩ := HC.out
      have hg := rd_gt hr
      have hlen : done.length + 1 ≤ 2 := by rw [← hall] at hl; simp at hl; omega
      have hsz : t.size ≤ 200 := by rw [ht, ext_size hg.2]; omega
      have hbsz := hbel.size
      have HR := Lib.hid hr; have HT := Lib.hid ht; have HC' := Lib.hid hch'; have HALL := Lib.hid hall
      clear hr ht hch' hall HC
      go_wp2_with fail
      refine (s_l5End s hs 200 b _ _ rfl (by omega)).mono ?_
      rw [HR.out]
      rintro e' w' ⟨rfl, rfl⟩
      rw [show endI (some (x, e)) = (e : Int) from rfl]
      go_wp2_with (at_builtin; refine wpList_append_lies _ rfl _ _ _ rfl w.heap.size 9 i0 (.string ⟨#[]⟩) 1 16 Try.underlying95 HI.out HZ0.out HZ1.out HZ2.out rfl (by decide) _ _ _ rfl (hown.alloc _) ⟨wr.heap.size, 0, none⟩ 1 1 [.string (s.extract b e)] rfl rfl (World.news_of_block (heap_alloc_new wr _)) ?c2 (by decide) ?c3 ?c4 ?c5 _ rfl ?_)
      case c2 => simp [Value.oneCell']
      case c3 => unfold maxLen; omega
      case c4 => omega
      case c5 => simp; omega
      intro g cap w1 hown1 hgrow hlies hglt
      have hbel1 := (hbel.alloc hbsz (.cells #[.string (s.extract b e)] 9)).grown hgrow (by simp; omega) (fun k hk => ((hown.alloc (.cells #[.string (s.extract b e)] 9)).lt k hk).1)
      have hown2 : w1.ownsRow w.heap.size 9 1 (.slice (some ⟨g, 0, none⟩) (done.length + 1) cap) (done ++ [t]).length ((done ++ [t]).map Value.string) := by
        rw [List.map_append, List.length_append, HT.out]
        exact hown1
      clear hown1 hgrow hlies hown hbel
      have hlen2 : (done ++ [t]).length = done.length + 1 := by simp
      have HL := Lib.hid hlen2; clear hlen2
      go_wp2_with fail
      go_roundw
      case rel => exact ⟨e, done ++ [t], ts', rfl, hg.2, Lib.hid ⟨HC'.out, by rw [List.append_assoc]; exact HALL.out⟩, hown2, Lib.hid (.inr ⟨g, cap, by rw [HL.out]⟩), hbel1⟩
      case measure => simp [intOf]; omega
theorem s_l5Turn (c : ByteArray) (op : UInt8) (n p b q : Nat) (w : World) (hop : byt c 0 = op) (hu : unD op = some n) (hd : digs c 1 n = true) (hp : p = digF c 1 n 0) (hc : 0 < c.size) (hb : b < 16) (hq : q < 16) : Calls Try.prog 163 #[.string c, .int .i64 (b : Int), .int .i64 (q : Int)] w fun e w' => e = .returned (.int .i64 (turnU op p b q : Int)) ∧ w = w' := by
  have hp16 : p < 16 := by rw [hp]; exact digF_lt _ _ _ _
  have e1 := bits_and_nat p b (by omega) (by omega)
  have e2 := bits_andn_nat q p hq hp16
  have e3 := bits_or_nat (p &&& b) (andn q p) (by have := and_lt (b := b) hp16; omega) (by have := andn_lt (b := p) hq; omega)
  have e4 := bits_and_nat b q (by omega) (by omega)
  have e5 := bits_or_nat b q (by omega) (by omega)
  have hd' := (digs_iff _ _ _).1 hd
  rcases letters op with (h | h | h) | (h | h) | (h | h) | (h | h | h) | h | h | (h | h) | h
  case inr.inr.inr.inr.inr.inr.inr => rw [noLetter_un h] at hu; cases hu
  case inr.inr.inr.inr.inr.inl =>
    subst h
    have hn : n = 1 := by cases hu; rfl
    subst hn
    have hc1 : 1 < c.size := by omega
    have hx : hexVal (c[1]'hc1) = (p : Int) := by
      rw [byt_get c 1 hc1, hexVal_nat (hd'.2 0 (by omega)), hp]
      rfl
    have hv : ((c[0]'hc).toNat : Int) = 119 := by rw [byt_get c 0 hc, hop]; rfl
    have HX := Lib.hid hx; clear hx hop hp hu hd hd'
    go_enter Try.func163, Try.ntmps163
    go_wp2_with fail
    refine (s_l2Hex _ _).mono ?_
    rw [HX.out]
    rintro e w' ⟨rfl, rfl⟩
    go_wp2_with fail
    go_ret
    exact ⟨rfl, rfl⟩
  case inr.inr.inr.inr.inr.inr.inl.inl =>
    subst h
    have hv : ((c[0]'hc).toNat : Int) = 42 := by rw [byt_get c 0 hc, hop]; rfl
    clear hop hp hu hd hd'
    go_enter Try.func163, Try.ntmps163
    go_wp2_with fail
    go_ret
    exact ⟨rfl, rfl⟩
  case inr.inr.inr.inr.inr.inr.inl.inr =>
    subst h
    have hv : ((c[0]'hc).toNat : Int) = 43 := by rw [byt_get c 0 hc, hop]; rfl
    clear hop hp hu hd hd'
    go_enter Try.func163, Try.ntmps163
    go_wp2_with fail
    go_ret
    exact ⟨rfl, rfl⟩
  all_goals (subst h; cases hu)
set_option maxHeartbeats 1000000 in
theorem s_l5Loop (c t : ByteArray) (op : UInt8) (n p : Nat) (w : World) (hop : byt c 0 = op) (hu : unD op = some n) (hdg : digs c 1 n = true) (hpp : p = digF c 1 n 0) (hc : 0 < c.size) (h : Dg 16 t) (hm : Mono (dig t)) : Calls Try.prog 138 #[.string c, .string t] w fun e w' => e = .returned (.string (txt 16 (fun q => lfp (fun y => turnU op p (dig t y) q)))) ∧ w = w' := by
  have hp : p < 16 := by rw [hpp]; exact digF_lt _ _ _ _
  have HM0 := Lib.hid hm; clear hm
  have HOP := Lib.hid hop; have HU := Lib.hid hu; have HDG := Lib.hid hdg; have HPP := Lib.hid hpp
  clear hop hu hdg hpp
  obtain ⟨F, hF⟩ : ∃ F : Nat → Nat, F = fun q => lfp (fun y => turnU op p (dig t y) q) := ⟨_, rfl⟩
  rw [← hF]
  have HF0 := Lib.hid hF; clear hF
  go_enter Try.func138, Try.ntmps138
  go_wp2_with fail
  go_loop [5, 6] (fun o i => ∃ k : Nat, k ≤ 16 ∧ i = .int .i64 k ∧ o = .string (txt k F)) (fun _ i => 16 - (intOf i).toNat)
  case atStart => exact ⟨0, by omega, rfl, rfl⟩
  case round =>
    obtain ⟨k, hk, rfl, rfl⟩ := hrel
    by_cases hlt : k < 16
    · have ht' := txt_snoc k F
      have HT := Lib.hid ht'; clear ht'
      have hz : (txt k F).size ≤ 16 := by rw [txt_size]; exact hk
      obtain ⟨g, hg⟩ : ∃ g : Nat → Nat, g = fun y => turnU op p (dig t y) k := ⟨_, rfl⟩
      have hB : Bd g := by rw [hg]; exact turnU_bd hp (dig_bd t) hlt
      have hM : Mono g := by rw [hg]; exact turnU_mono HM0.out
      have hgl : ∀ y, g y < 16 := by rw [hg]; exact fun y => turnU_lt hp (dig_lt t y) hlt
      have HG := Lib.hid hg; have HB := Lib.hid hB; have HM := Lib.hid hM; have HGL := Lib.hid hgl; clear hB hM hg hgl
      have hd : decide ((k : Int) < 16) = true := by simp; omega
      go_wp2_with fail
      clear hd
      go_loop [7, 8] (fun ys bs => ∃ n y : Nat, y < 16 ∧ ys = .int .i64 y ∧ Hid (y = iter g 0 n) ∧ (bs = .int .i64 (-1) ∨ ∃ m b : Nat, b < 16 ∧ bs = .int .i64 b ∧ Hid (n = m + 1 ∧ b = iter g 0 m))) (fun _ bs => muL bs)
      case atStart => exact ⟨0, 0, by omega, rfl, Lib.hid rfl, .inl rfl⟩
      case round =>
        obtain ⟨n', y, hy, rfl, HY, hbs⟩ := hrel
        have hgy := HGL.out y
        rcases hbs with rfl | ⟨m, b, hb, rfl, HN⟩
        · have hne : ((-1 : Int) != (y : Int)) = true := by rw [bne_iff_ne]; omega
          go_wp2_with fail
          refine (s_l3Value _ _ _ h hy).mono ?_
          rintro e w' ⟨rfl, rfl⟩
          go_wp2_with fail
          refine (s_l5Turn c op n p _ _ _ HOP.out HU.out HDG.out HPP.out hc (dig_lt _ _) hlt).mono ?_
          rw [show turnU op p (dig t y) k = g y from by rw [HG.out]]
          rintro e w' ⟨rfl, rfl⟩
          go_wp2_with fail
          go_round
          case rel => exact ⟨n' + 1, _, hgy, rfl, Lib.hid (by rw [HY.out]; rfl), .inr ⟨n', y, hy, rfl, Lib.hid ⟨rfl, HY.out⟩⟩⟩
          case measure => show muL (.int .i64 (y : Int)) < muL (.int .i64 (-1)); rw [muL_nat, muL_neg]; have := pc_le y; omega
        · by_cases he : b = y
          · have hyF : y = F k := by
              have h1 := HN.out.1; have h2 := HN.out.2; have h3 := HY.out
              subst h1
              have : g (iter g 0 m) = iter g 0 m := by
                show iter g 0 (m + 1) = _
                rw [← h3, ← he, h2]
              rw [h3, show iter g 0 (m + 1) = iter g 0 m from this, lfp_of HB.out HM.out this, HF0.out, HG.out]
            have HF := Lib.hid hyF
            have hne : ((b : Int) != (y : Int)) = false := by rw [he]; simp
            clear he hyF
            go_wp2_with (go_at_call 48; refine (s_l2Digit _ _ hy).mono ?_; rintro e w' ⟨rfl, rfl⟩)
            go_round
            case rel => exact ⟨k + 1, by omega, by go_num, by rw [HF.out, ← HT.out]⟩
            case measure => simp [intOf]; omega
          · have hne : ((b : Int) != (y : Int)) = true := by rw [bne_iff_ne]; omega
            have HE := Lib.hid he; clear he
            go_wp2_with fail
            refine (s_l3Value _ _ _ h hy).mono ?_
            rintro e w' ⟨rfl, rfl⟩
            go_wp2_with fail
            refine (s_l5Turn c op n p _ _ _ HOP.out HU.out HDG.out HPP.out hc (dig_lt _ _) hlt).mono ?_
            rw [show turnU op p (dig t y) k = g y from by rw [HG.out]]
            rintro e w' ⟨rfl, rfl⟩
            go_wp2_with fail
            go_round
            case rel => exact ⟨n' + 1, _, hgy, rfl, Lib.hid (by rw [HY.out]; rfl), .inr ⟨n', y, hy, rfl, Lib.hid ⟨rfl, HY.out⟩⟩⟩
            case measure =>
              show muL (.int .i64 (y : Int)) < muL (.int .i64 (b : Int))
              rw [muL_nat, muL_nat]
              have h1 := HN.out.1; have h2 := HN.out.2; have h3 := HY.out; subst h1
              have := pc_lt hb hy (by rw [h2, h3]; exact iter_up HB.out HM.out m) HE.out
              have := pc_le y
              have := pc_le b
              omega
    · obtain rfl : k = 16 := by omega
      go_wp2_with fail
      go_ret
      exact ⟨rfl, rfl⟩
end Go.Proofs.Ytjbfebjdegabaaa
