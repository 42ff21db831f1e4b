/- The reference's ranks. -/
import Derived.Test.YtiaeakpgldpaiaaQSpecE
import Derived.Test.YtiaeakpgldpaiaaQJ4
namespace Go.Proofs.Ytiaeakpgldpaiaa
set_option linter.unusedSimpArgs false
set_option linter.unusedVariables false
set_option maxRecDepth 4000
open Go.RowKit

/-- The list of ranks, or none. -/
def rkList (b : Bool) (T : Nat → Nat) (p : Nat) : List Int := if b then zrow 4 (rank T p) else []
theorem rkList_len (b : Bool) (T : Nat → Nat) (p : Nat) : (rkList b T p).length = if b then 4 else 0 := by unfold rkList; cases b; rfl; simp [zrow_len]
set_option maxHeartbeats 2000000 in
theorem s_RanksOf (t : ByteArray) (p : Int) (w : World) (ht : t.size ≤ 1048576) : Calls Try.prog 161 #[.string t, .int .i64 p] w fun e w' => ∃ v, e = .returned v ∧ IntsAt w.heap.size w' v (rkList (trOk t && cvB p) (dig t) p.toNat) ∧ Below w.heap.size w w' := by
  have hr0 : RowAt (w.alloc (.cells #[] 3)) w.heap.size 3 #[] := RowAt.fresh w 3 #[]
  have hb0 : Below w.heap.size w (w.alloc (.cells #[] 3)) := (Below.refl _ _).alloc (Nat.le_refl _) _
  cases hok : (trOk t && cvB p)
  · have hi := IntsAt.of_lit (B := w.heap.size) (zs := []) (Nat.le_refl _) hr0 (by unfold maxLen; simp)
    have HI := Lib.hid hi; clear hi hr0
    go_enter Try.func161, Try.ntmps161
    go_wp2_with (go_at_call 144; refine (s_l7Ready _ _ _ ht).mono ?_; rw [hok]; rintro e w' ⟨rfl, rfl⟩)
    go_ret
    exact ⟨_, rfl, HI.out, hb0⟩
  have g := hok
  rw [Bool.and_eq_true] at g
  obtain ⟨n, hn, rfl⟩ := (cvB_iff p).1 g.2
  have g1 := Dg.tr g.1
  obtain ⟨T, hT⟩ : ∃ T, T = dig t := ⟨_, rfl⟩
  have hown0 : (w.alloc (.cells #[] 3)).ownsRow w.heap.size 3 1 (.slice (some ⟨w.heap.size, 0, none⟩) 0 0) 0 [] := World.ownsRow_made w #[] 0 (Nat.le_refl _) (by unfold maxLen; omega) rfl
  obtain ⟨i0, hi, hz0, hz1, hz2⟩ := info_parts infoInt
  have HI := Lib.hid hi; have HZ0 := Lib.hid hz0; have HZ1 := Lib.hid hz1; have HZ2 := Lib.hid hz2
  have G1 := Lib.hid g1; have HT := Lib.hid hT; clear g g1 hT hi hz0 hz1 hz2 hr0
  have hTl : ∀ k, T k < 16 := fun k => by rw [HT.out]; exact dig_lt _ _
  have HTL := Lib.hid hTl; clear hTl
  go_enter Try.func161, Try.ntmps161
  go_wp2_with (go_at_call 144; refine (s_l7Ready _ _ _ ht).mono ?_; rw [hok]; rintro e w' ⟨rfl, rfl⟩)
  go_loopw [5, 6] (fun v i wr => ∃ k : Nat, k ≤ 4 ∧ i = .int .i64 k ∧ wr.ownsRow w.heap.size 3 1 v k ((zrow k (rank T n)).map (Value.int .i64)) ∧ Hid (k = 0 ∨ ∃ g cap, v = .slice (some ⟨g, 0, none⟩) k cap) ∧ Below w.heap.size w wr) (fun _ i _ => 4 - (intOf i).toNat)
  case atStart => exact ⟨0, by omega, rfl, hown0, Lib.hid (.inl rfl), hb0⟩
  case round =>
    clear hown0 hb0
    obtain ⟨k, hk, rfl, hown, HF, hbel⟩ := hrel
    by_cases hlt : k < 4
    · have hd : decide ((k : Int) < 4) = true := by simp; omega
      have hbsz := hbel.size
      go_wp2_with fail
      clear hd
      go_loop [7, 8, 9] (fun y r i => ∃ m : Nat, m ≤ 5 ∧ i = .int .i64 m ∧ y = .int .i64 (iter (eqO T n) n m : Int) ∧ r = .int .i64 (rkTo T n k m)) (fun _ _ i => 5 - (intOf i).toNat)
      case atStart => exact ⟨0, by omega, rfl, rfl, rfl⟩
      case round =>
        obtain ⟨m, hm, rfl, rfl, rfl⟩ := hrel
        by_cases hlm : m < 5
        · have hy : iter (eqO T n) n m < 16 := iter_bd (eqO_bd (fun k _ => HTL.out k) hn) hn m
          have hty := HTL.out (iter (eqO T n) n m)
          have e1 := bits_or_nat (T (iter (eqO T n) n m)) n (by omega) (by omega)
          have hnx : T (iter (eqO T n) n m) ||| n = iter (eqO T n) n (m + 1) := rfl
          have HNX := Lib.hid hnx; clear hnx
          have hv : dig t (iter (eqO T n) n m) = T (iter (eqO T n) n m) := by rw [HT.out]
          have HV := Lib.hid hv; clear hv
          by_cases hr : rkTo T n k m < 0
          · cases hb : (iter (eqO T n) n m).testBit k
            · have hq := rkTo_no (T := T) (p := n) (s := k) (n := m) (.inr hb)
              have HQ := Lib.hid hq; have HB := Lib.hid hb; clear hb hq
              go_wp2_with fail
              refine (s_l1Has _ k _ (by omega) (by omega)).mono ?_
              rw [HB.out]
              rintro e w' ⟨rfl, rfl⟩
              go_wp2_with fail
              refine (s_l3Value _ _ _ G1.out hy).mono ?_
              rw [HV.out]
              rintro e w' ⟨rfl, rfl⟩
              go_wp2_with fail
              go_round
              case rel => exact ⟨m + 1, by omega, by go_num, by rw [← HNX.out], by rw [HQ.out]⟩
              case measure => simp [intOf]; omega
            · have hq := rkTo_yes (T := T) (p := n) (s := k) (n := m) hr hb
              have HQ := Lib.hid hq; have HB := Lib.hid hb; clear hb hq
              go_wp2_with fail
              refine (s_l1Has _ k _ (by omega) (by omega)).mono ?_
              rw [HB.out]
              rintro e w' ⟨rfl, rfl⟩
              go_wp2_with fail
              refine (s_l3Value _ _ _ G1.out hy).mono ?_
              rw [HV.out]
              rintro e w' ⟨rfl, rfl⟩
              go_wp2_with fail
              go_round
              case rel => exact ⟨m + 1, by omega, by go_num, by rw [← HNX.out], by rw [HQ.out]⟩
              case measure => simp [intOf]; omega
          · have hq := rkTo_no (T := T) (p := n) (s := k) (n := m) (.inl (by omega))
            have HQ := Lib.hid hq; clear hq
            go_wp2_with fail
            refine (s_l3Value _ _ _ G1.out hy).mono ?_
            rw [HV.out]
            rintro e w' ⟨rfl, rfl⟩
            go_wp2_with fail
            go_round
            case rel => exact ⟨m + 1, by omega, by go_num, by rw [← HNX.out], by rw [HQ.out]⟩
            case measure => simp [intOf]; omega
        · obtain rfl : m = 5 := by omega
          go_wp2_with (at_builtin; refine wpList_append_lies _ rfl _ _ _ rfl w.heap.size 3 i0 (.int .i64 0) 1 8 Try.underlying50 HI.out HZ0.out HZ1.out HZ2.out rfl (by decide) _ _ _ rfl (hown.alloc _) ⟨wr.heap.size, 0, none⟩ 1 1 [.int .i64 (rkTo T n k 5)] rfl rfl (World.news_of_block (heap_alloc_new wr _)) ?c2 (by decide) ?c3 ?c4 ?c5 _ rfl ?_)
          case c2 => simp [Value.oneCell']
          case c3 => unfold maxLen; omega
          case c4 => omega
          case c5 => first | omega | (simp; omega)
          intro g cap w1 hown1 hgrow hlies hglt
          have hbel1 := (hbel.alloc hbsz (.cells #[.int .i64 (rkTo T n k 5)] 3)).grown hgrow (by simp; omega) (fun j hj => ((hown.alloc (.cells #[.int .i64 (rkTo T n k 5)] 3)).lt j hj).1)
          have hown2 : w1.ownsRow w.heap.size 3 1 (.slice (some ⟨g, 0, none⟩) (k + 1) cap) (k + 1) ((zrow (k + 1) (rank T n)).map (Value.int .i64)) := by
            rw [← zrow_snoc, List.map_append]
            exact hown1
          clear hown1 hgrow hlies hown hbel
          go_wp2_with fail
          go_roundw
          case rel => exact ⟨k + 1, by omega, by go_num, hown2, Lib.hid (.inr ⟨g, cap, rfl⟩), hbel1⟩
          case measure => simp [intOf]; omega
    · obtain rfl : k = 4 := by omega
      obtain ⟨g, cap, rfl⟩ := HF.out.resolve_left (by omega)
      go_wp2_with fail
      go_ret
      refine ⟨_, rfl, ?_, hbel⟩
      rw [HT.out] at hown
      exact IntsAt.of_owns (zs := rkList true (dig t) n) rfl hown
end Go.Proofs.Ytiaeakpgldpaiaa
