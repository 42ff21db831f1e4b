/- The reference's listed functions made of relations; none turns the world. -/
import Derived.Test.YtiaeakpgldpaiaaQSpecD
import Derived.Test.YtiaeakpgldpaiaaQJ2
namespace Go.Proofs.Ytiaeakpgldpaiaa
set_option linter.unusedSimpArgs false
set_option linter.unusedVariables false
set_option maxRecDepth 4000
open Go.RowKit

theorem s_SpecSequence (p : Int) (r : ByteArray) (q : Int) (s : ByteArray) (w : World) (hr : r.size ≤ 1048576) (hs : s.size ≤ 1048576) : Calls Try.prog 29 #[.int .i64 p, .string r, .int .i64 q, .string s] w fun e w' => e = .returned (.tuple #[.int .i64 ((if (cvB p && relOk r) && (cvB q && relOk s) then p.toNat &&& fBox (dig r) q.toNat else 0 : Nat) : Int), .string (optS ((cvB p && relOk r) && (cvB q && relOk s)) (txt 4 (fFrom (p.toNat &&& fBox (dig r) q.toNat) (fComp (dig r) (dig s))))), .bool ((cvB p && relOk r) && (cvB q && relOk s))]) ∧ w = w' := by
  cases hok : (cvB p && relOk r)
  · go_enter Try.func29, Try.ntmps29
    go_wp2_with (go_at_call 97; refine (s_l9Ready _ _ _ (by assumption)).mono ?_; rw [hok]; rintro e w' ⟨rfl, rfl⟩)
    go_ret3
    exact ⟨rfl, rfl⟩
  cases hok2 : (cvB q && relOk s)
  · go_enter Try.func29, Try.ntmps29
    go_wp2_with (go_at_call 97; refine (s_l9Ready _ _ _ (by assumption)).mono ?_; (first | rw [hok] | rw [hok2]); rintro e w' ⟨rfl, rfl⟩)
    go_ret3
    exact ⟨rfl, rfl⟩
  have g1 := hok; have g2 := hok2
  rw [Bool.and_eq_true] at g1 g2
  obtain ⟨n, hn, rfl⟩ := (cvB_iff p).1 g1.1
  obtain ⟨m, hm, rfl⟩ := (cvB_iff q).1 g2.1
  have h1 := Dg.rel g1.2; have h2 := Dg.rel g2.2
  have hl : ∀ a, a < 4 → fComp (dig r) (dig s) a < 16 := fun a _ => fImg_lt (fun k _ => dig_lt s k) _ 4 (by omega)
  have h3 : Dg 4 (txt 4 (fComp (dig r) (dig s))) := Dg.txt fun a ha => hl a ha
  have e1 := bits_and_nat n (fBox (dig r) m) (by omega) (by have := fBox_lt (dig r) m; omega)
  have hx : n &&& fBox (dig r) m < 16 := and_lt hn
  have e2 : txt 4 (fFrom (n &&& fBox (dig r) m) (dig (txt 4 (fComp (dig r) (dig s))))) = txt 4 (fFrom (n &&& fBox (dig r) m) (fComp (dig r) (dig s))) := txt_congr fun a ha => by
    show mkC _ 4 = mkC _ 4
    rw [txt_dig _ _ _ ha (hl a ha)]
  have H1 := Lib.hid h1; have H2 := Lib.hid h2; have H3 := Lib.hid h3; have E2 := Lib.hid e2; clear h1 h2 h3 g1 g2 e2 hl
  go_enter Try.func29, Try.ntmps29
  go_wp2_with (first | (go_at_call 97; refine (s_l9Ready _ _ _ (by assumption)).mono ?_; (first | rw [hok] | rw [hok2]); rintro e w' ⟨rfl, rfl⟩) | (go_at_call 122; refine (s_l2Box _ _ _ H1.out hm).mono ?_; rintro e w' ⟨rfl, rfl⟩) | (go_at_call 124; refine (s_l2Compose _ _ _ H1.out H2.out).mono ?_; rintro e w' ⟨rfl, rfl⟩) | (go_at_call 123; refine (s_l9Test _ _ _ hx H3.out).mono ?_; rw [E2.out]; rintro e w' ⟨rfl, rfl⟩))
  go_ret3
  exact ⟨rfl, rfl⟩
end Go.Proofs.Ytiaeakpgldpaiaa
