/- The reference's proofs of loops: FindProof, ProvesLoop. -/
import Derived.Test.YtjbfebjdegabaaaSpecR
import Derived.Test.YtjbfebjdegabaaaPlainPl
namespace Go.Proofs.Ytjbfebjdegabaaa
set_option linter.unusedSimpArgs false
set_option linter.unusedVariables false
set_option maxRecDepth 4000
open Go.RowKit

/-- The body of a proof: from p only. -/
def fBody (p : Nat) (T : Nat → Nat) : Nat → Nat := fun x => p &&& T x
theorem fBody_lt {p : Nat} (T : Nat → Nat) (hp : p < 16) (x : Nat) : fBody p T x < 16 := and_lt hp
theorem fBody_mono (p : Nat) {T : Nat → Nat} (hm : Mono T) : Mono (fBody p T) := fun a b ha hb h => imp_and (imp_refl _) (hm a b ha hb h)
set_option maxHeartbeats 1000000 in
theorem s_FindProof (p : Int) (t : ByteArray) (q : Int) (w : World) (ht : t.size ≤ 1048576) : Calls Try.prog 26 #[.int .i64 p, .string t, .int .i64 q] w fun e w' => ∃ v, e = .returned (.tuple #[.int .i64 (optI ((trOk t && cvB p) && cvB q) (fWhile p.toNat (dig t) q.toNat)), v]) ∧ IntsAt w.heap.size w' v (rkList ((trOk t && cvB p) && cvB q) (fBody p.toNat (dig t)) (andn q.toNat p.toNat)) ∧ Below w.heap.size w w' := by
  have hr0 : RowAt (w.alloc (.cells #[] 3)) w.heap.size 3 #[] := RowAt.fresh w 3 #[]
  have hb0 : Below w.heap.size w (w.alloc (.cells #[] 3)) := (Below.refl _ _).alloc (Nat.le_refl _) _
  have hi := IntsAt.of_lit (B := w.heap.size) (zs := []) (Nat.le_refl _) hr0 (by unfold maxLen; simp)
  have HI : Hid (IntsAt w.heap.size (w.alloc (.cells #[] 3)) (.slice (some ⟨w.heap.size, 0, none⟩) 0 0) []) := Lib.hid hi
  clear hi hr0
  cases hok : (trOk t && cvB p)
  · go_enter Try.func26, Try.ntmps26
    go_wp2_with (go_at_call 79; refine (s_l7Ready _ _ _ ht).mono ?_; rw [hok]; rintro e w' ⟨rfl, rfl⟩)
    go_ret2
    exact ⟨_, rfl, HI.out, hb0⟩
  cases hq : cvB q
  · go_enter Try.func26, Try.ntmps26
    go_wp2_with (first | (go_at_call 79; refine (s_l7Ready _ _ _ ht).mono ?_; rw [hok]; rintro e w' ⟨rfl, rfl⟩) | (go_at_call 80; refine (s_ConditionValid _ _).mono ?_; rw [hq]; rintro e w' ⟨rfl, rfl⟩))
    go_ret2
    exact ⟨_, rfl, HI.out, hb0⟩
  · have g := hok
    rw [Bool.and_eq_true] at g
    obtain ⟨n, hn, rfl⟩ := (cvB_iff p).1 g.2
    obtain ⟨m, hm, rfl⟩ := (cvB_iff q).1 hq
    have g1 := Dg.tr g.1
    have gm := dig_mono g.1
    have hqp : andn m n < 16 := andn_lt hm
    have e1 := bits_andn_nat m n hm hn
    have hbd : Bd (fBody n (dig t)) := fun x _ => fBody_lt _ hn x
    have hbm := fBody_mono n gm
    have e2 : txt 16 (fun x => dig (txt 16 (fun q => n &&& q)) (dig t x)) = txt 16 (fBody n (dig t)) := txt_congr fun x _ => by rw [txt_dig 16 (fun q => n &&& q) _ (dig_lt _ _) (and_lt hn)]; rfl
    have e3 : dig (txt 16 (fWhile n (dig t))) m = fWhile n (dig t) m := txt_dig 16 _ m hm (fWhile_bd hn m hm)
    have e4 : trOk (txt 16 (fBody n (dig t))) = true := trOk_txt hbd hbm
    have e5 : zrow 4 (rank (dig (txt 16 (fBody n (dig t)))) (andn m n)) = zrow 4 (rank (fBody n (dig t)) (andn m n)) := zrow_congr fun s _ => rank_congr hqp (dig_bd _) (fun i hi => txt_dig 16 _ i hi (fBody_lt _ hn i)) s
    have hrs := fun w => s_RanksOf (txt 16 (fBody n (dig t))) (andn m n : Nat) w (by rw [txt_size]; omega)
    rw [e4, cvB_nat _ hqp] at hrs
    have G1 := Lib.hid g1; have GM := Lib.hid gm; have E2 := Lib.hid e2; have E3 := Lib.hid e3; have E5 := Lib.hid e5; have HRS := Lib.hid hrs
    clear g g1 gm e2 e3 e4 e5 hrs hbm hbd hb0
    go_enter Try.func26, Try.ntmps26
    go_wp2_with (first | (go_at_call 79; refine (s_l7Ready _ _ _ ht).mono ?_; rw [hok]; rintro e w' ⟨rfl, rfl⟩) | (go_at_call 80; refine (s_ConditionValid _ _).mono ?_; rw [hq]; rintro e w' ⟨rfl, rfl⟩))
    refine (s_l3Assert n _ hn).mono ?_
    rintro e w' ⟨rfl, rfl⟩
    go_wp2_with fail
    refine (s_l3Then _ _ _ (Dg.txt fun i _ => and_lt hn) G1.out).mono ?_
    rw [E2.out]
    rintro e w' ⟨rfl, rfl⟩
    go_wp2_with fail
    refine (s_l8While_t n t _ hn G1.out GM.out).mono ?_
    rintro e w' ⟨rfl, rfl⟩
    go_wp2_with fail
    refine (s_l3Value _ m _ (Dg.txt fun i hi => fWhile_bd hn i hi) hm).mono ?_
    rw [E3.out]
    rintro e w' ⟨rfl, rfl⟩
    go_wp2_with fail
    refine (HRS.out _).mono ?_
    rintro e w1 ⟨v, rfl, hiv, hb1⟩
    have HIV := Lib.hid hiv; clear hiv
    go_wp2_with fail
    go_ret2
    refine ⟨v, rfl, ?_, hb1⟩
    have h : IntsAt w.heap.size w1 v (zrow 4 (rank (dig (txt 16 (fBody n (dig t)))) (andn m n))) := HIV.out
    rw [E5.out] at h
    exact h
end Go.Proofs.Ytjbfebjdegabaaa
