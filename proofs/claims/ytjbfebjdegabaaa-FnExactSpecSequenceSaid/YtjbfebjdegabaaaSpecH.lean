/- The reference's listed functions made of relations; none turns the world. -/
import Derived.Test.YtjbfebjdegabaaaSpecD
import Derived.Test.YtjbfebjdegabaaaSpecG
namespace Go.Proofs.Ytjbfebjdegabaaa
set_option linter.unusedSimpArgs false
set_option linter.unusedVariables false
set_option maxRecDepth 4000
open Go.RowKit

theorem s_BehindDemon (r u : ByteArray) (w : World) (hr : r.size ≤ 1048576) (hu : u.size ≤ 1048576) : Calls Try.prog 22 #[.string r, .string u] w fun e w' => e = .returned (.tuple #[.string (optS (relOk r && trOk u) (txt 16 (fun p => fDia (fTurn (dig r)) (dig u p) 4))), .bool (relOk r && trOk u)]) ∧ w = w' := by
  cases h1 : relOk r
  · go_enter Try.func22, Try.ntmps22
    go_wp2_with (go_at_call 67; refine (s_RelValid _ _ hr).mono ?_; rw [h1]; rintro e w' ⟨rfl, rfl⟩)
    go_ret2
    exact ⟨rfl, rfl⟩
  cases h2 : trOk u
  · go_enter Try.func22, Try.ntmps22
    go_wp2_with (first | (go_at_call 67; refine (s_RelValid _ _ hr).mono ?_; rw [h1]; rintro e w' ⟨rfl, rfl⟩) | (go_at_call 39; refine (s_TransValid _ _ hu).mono ?_; rw [h2]; rintro e w' ⟨rfl, rfl⟩))
    go_ret2
    exact ⟨rfl, rfl⟩
  · have g1 := Dg.rel h1
    have g2 := Dg.tr h2
    have g3 : Dg 4 (txt 4 (fTurn (dig r))) := Dg.txt fun _ _ => fTurn_lt _ _
    have e0 : txt 16 (fun p => fDia (dig (txt 4 (fTurn (dig r)))) p 4) = txt 16 (fun p => fDia (fTurn (dig r)) p 4) := txt_congr fun p _ => fDia_congr p fun s hs => txt_dig _ _ _ hs (fTurn_lt _ _)
    have g4 : Dg 16 (txt 16 (fun p => fDia (fTurn (dig r)) p 4)) := Dg.txt fun _ _ => fDia_lt _ _
    have E1 := Lib.hid (show txt 16 (fun p => dig (txt 16 (fun p => fDia (fTurn (dig r)) p 4)) (dig u p)) = txt 16 (fun p => fDia (fTurn (dig r)) (dig u p) 4) from txt_congr fun p _ => txt_dig 16 (fun p => fDia (fTurn (dig r)) p 4) _ (dig_lt _ _) (fDia_lt _ _))
    have G1 := Lib.hid g1; have G2 := Lib.hid g2; have G3 := Lib.hid g3; have G4 := Lib.hid g4; have E0 := Lib.hid e0; clear g1 g2 g3 g4 e0
    go_enter Try.func22, Try.ntmps22
    go_wp2_with (first | (go_at_call 67; refine (s_RelValid _ _ hr).mono ?_; rw [h1]; rintro e w' ⟨rfl, rfl⟩) | (go_at_call 39; refine (s_TransValid _ _ hu).mono ?_; rw [h2]; rintro e w' ⟨rfl, rfl⟩) | (go_at_call 70; refine (s_l2Turn _ _ G1.out).mono ?_; rintro e w' ⟨rfl, rfl⟩) | (go_at_call 69; refine (s_l3Angel _ _ G3.out).mono ?_; rw [E0.out]; rintro e w' ⟨rfl, rfl⟩) | (go_at_call 68; refine (s_l3Then _ _ _ G4.out G2.out).mono ?_; rw [E1.out]; rintro e w' ⟨rfl, rfl⟩))
    go_ret2
    exact ⟨rfl, rfl⟩
theorem s_BehindAngel (r u : ByteArray) (w : World) (hr : r.size ≤ 1048576) (hu : u.size ≤ 1048576) : Calls Try.prog 24 #[.string r, .string u] w fun e w' => e = .returned (.tuple #[.string (optS (relOk r && trOk u) (txt 16 (fun p => fBox (fTurn (dig r)) (dig u p)))), .bool (relOk r && trOk u)]) ∧ w = w' := by
  cases h1 : relOk r
  · go_enter Try.func24, Try.ntmps24
    go_wp2_with (go_at_call 67; refine (s_RelValid _ _ hr).mono ?_; rw [h1]; rintro e w' ⟨rfl, rfl⟩)
    go_ret2
    exact ⟨rfl, rfl⟩
  cases h2 : trOk u
  · go_enter Try.func24, Try.ntmps24
    go_wp2_with (first | (go_at_call 67; refine (s_RelValid _ _ hr).mono ?_; rw [h1]; rintro e w' ⟨rfl, rfl⟩) | (go_at_call 39; refine (s_TransValid _ _ hu).mono ?_; rw [h2]; rintro e w' ⟨rfl, rfl⟩))
    go_ret2
    exact ⟨rfl, rfl⟩
  · have g1 := Dg.rel h1
    have g2 := Dg.tr h2
    have g3 : Dg 4 (txt 4 (fTurn (dig r))) := Dg.txt fun _ _ => fTurn_lt _ _
    have e0 : txt 16 (fun p => fDia (dig (txt 4 (fTurn (dig r)))) p 4) = txt 16 (fun p => fDia (fTurn (dig r)) p 4) := txt_congr fun p _ => fDia_congr p fun s hs => txt_dig _ _ _ hs (fTurn_lt _ _)
    have g4 : Dg 16 (txt 16 (fun p => fDia (fTurn (dig r)) p 4)) := Dg.txt fun _ _ => fDia_lt _ _
    have e2 : txt 16 (fun p => andn 15 (dig (txt 16 (fun p => fDia (fTurn (dig r)) p 4)) (andn 15 p))) = txt 16 (fBox (fTurn (dig r))) := txt_congr fun p _ => by rw [txt_dig 16 (fun p => fDia (fTurn (dig r)) p 4) _ (andn_lt (by omega)) (fDia_lt _ _), box_dia fun s _ => fTurn_lt _ _]
    have g5 : Dg 16 (txt 16 (fBox (fTurn (dig r)))) := Dg.txt fun _ _ => fBox_lt _ _
    have E1 := Lib.hid (show txt 16 (fun p => dig (txt 16 (fBox (fTurn (dig r)))) (dig u p)) = txt 16 (fun p => fBox (fTurn (dig r)) (dig u p)) from txt_congr fun p _ => txt_dig 16 (fBox (fTurn (dig r))) _ (dig_lt _ _) (fBox_lt _ _))
    have E2 := Lib.hid e2; have G5 := Lib.hid g5; clear e2 g5
    have G1 := Lib.hid g1; have G2 := Lib.hid g2; have G3 := Lib.hid g3; have G4 := Lib.hid g4; have E0 := Lib.hid e0; clear g1 g2 g3 g4 e0
    go_enter Try.func24, Try.ntmps24
    go_wp2_with (first | (go_at_call 67; refine (s_RelValid _ _ hr).mono ?_; rw [h1]; rintro e w' ⟨rfl, rfl⟩) | (go_at_call 39; refine (s_TransValid _ _ hu).mono ?_; rw [h2]; rintro e w' ⟨rfl, rfl⟩) | (go_at_call 70; refine (s_l2Turn _ _ G1.out).mono ?_; rintro e w' ⟨rfl, rfl⟩) | (go_at_call 69; refine (s_l3Angel _ _ G3.out).mono ?_; rw [E0.out]; rintro e w' ⟨rfl, rfl⟩) | (go_at_call 76; refine (s_l3Dual _ _ G4.out).mono ?_; rw [E2.out]; rintro e w' ⟨rfl, rfl⟩) | (go_at_call 68; refine (s_l3Then _ _ _ G5.out G2.out).mono ?_; rw [E1.out]; rintro e w' ⟨rfl, rfl⟩))
    go_ret2
    exact ⟨rfl, rfl⟩
theorem s_SpecSequence (p : Int) (r : ByteArray) (q : Int) (s : ByteArray) (w : World) (hr : r.size ≤ 1048576) (hs : s.size ≤ 1048576) : Calls Try.prog 20 #[.int .i64 p, .string r, .int .i64 q, .string s] w fun e w' => e = .returned (.tuple #[.int .i64 ((if (cvB p && relOk r) && (cvB q && relOk s) then p.toNat &&& fBox (dig r) q.toNat else 0 : Nat) : Int), .string (optS ((cvB p && relOk r) && (cvB q && relOk s)) (txt 4 (fFrom (p.toNat &&& fBox (dig r) q.toNat) (fComp (dig r) (dig s))))), .bool ((cvB p && relOk r) && (cvB q && relOk s))]) ∧ w = w' := by
  cases hok : (cvB p && relOk r)
  · go_enter Try.func20, Try.ntmps20
    go_wp2_with (go_at_call 45; refine (s_l9Ready _ _ _ (by assumption)).mono ?_; rw [hok]; rintro e w' ⟨rfl, rfl⟩)
    go_ret3
    exact ⟨rfl, rfl⟩
  cases hok2 : (cvB q && relOk s)
  · go_enter Try.func20, Try.ntmps20
    go_wp2_with (go_at_call 45; refine (s_l9Ready _ _ _ (by assumption)).mono ?_; (first | rw [hok] | rw [hok2]); rintro e w' ⟨rfl, rfl⟩)
    go_ret3
    exact ⟨rfl, rfl⟩
  have g1 := hok; have g2 := hok2
  rw [Bool.and_eq_true] at g1 g2
  obtain ⟨n, hn, rfl⟩ := (cvB_iff p).1 g1.1
  obtain ⟨m, hm, rfl⟩ := (cvB_iff q).1 g2.1
  have h1 := Dg.rel g1.2; have h2 := Dg.rel g2.2
  have hl : ∀ a, a < 4 → fComp (dig r) (dig s) a < 16 := fun a _ => fImg_lt (fun k _ => dig_lt s k) _ 4 (by omega)
  have h3 : Dg 4 (txt 4 (fComp (dig r) (dig s))) := Dg.txt fun a ha => hl a ha
  have e1 := bits_and_nat n (fBox (dig r) m) (by omega) (by have := fBox_lt (dig r) m; omega)
  have hx : n &&& fBox (dig r) m < 16 := and_lt hn
  have e2 : txt 4 (fFrom (n &&& fBox (dig r) m) (dig (txt 4 (fComp (dig r) (dig s))))) = txt 4 (fFrom (n &&& fBox (dig r) m) (fComp (dig r) (dig s))) := txt_congr fun a ha => by
    show mkC _ 4 = mkC _ 4
    rw [txt_dig _ _ _ ha (hl a ha)]
  have H1 := Lib.hid h1; have H2 := Lib.hid h2; have H3 := Lib.hid h3; have E2 := Lib.hid e2; clear h1 h2 h3 g1 g2 e2 hl
  go_enter Try.func20, Try.ntmps20
  go_wp2_with (first | (go_at_call 45; refine (s_l9Ready _ _ _ (by assumption)).mono ?_; (first | rw [hok] | rw [hok2]); rintro e w' ⟨rfl, rfl⟩) | (go_at_call 57; refine (s_l2Box _ _ _ H1.out hm).mono ?_; rintro e w' ⟨rfl, rfl⟩) | (go_at_call 59; refine (s_l2Compose _ _ _ H1.out H2.out).mono ?_; rintro e w' ⟨rfl, rfl⟩) | (go_at_call 58; refine (s_l9Test _ _ _ hx H3.out).mono ?_; rw [E2.out]; rintro e w' ⟨rfl, rfl⟩))
  go_ret3
  exact ⟨rfl, rfl⟩
end Go.Proofs.Ytjbfebjdegabaaa
