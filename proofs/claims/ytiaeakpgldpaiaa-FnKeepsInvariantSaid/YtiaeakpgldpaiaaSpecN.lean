/- The reference's refinement, its transformers of specifications, its conjunctive tables. -/
import Derived.Test.YtiaeakpgldpaiaaSpecG
import Derived.Test.YtiaeakpgldpaiaaPlain9
import Derived.Test.YtiaeakpgldpaiaaPlain2
namespace Go.Proofs.Ytiaeakpgldpaiaa
set_option linter.unusedSimpArgs false
set_option linter.unusedVariables false
set_option maxRecDepth 4000
open Go.RowKit

theorem box_txt {R : Nat → Nat} (hR : ∀ s, s < 4 → R s < 16) : txt 16 (fun p => andn 15 (dig (txt 16 (fun p => fDia R p 4)) (andn 15 p))) = txt 16 (fun q => fBox R q) :=
  txt_congr fun p _ => by rw [txt_dig 16 (fun p => fDia R p 4) _ (andn_lt (by omega)) (fDia_lt _ _), box_dia hR]
theorem s_l4Spec (p : Nat) (r : ByteArray) (w : World) (hp : p < 16) (h : Dg 4 r) : Calls Try.prog 243 #[.int .i64 (p : Int), .string r] w fun e w' => e = .returned (.string (txt 16 (fSpec p (dig r)))) ∧ w = w' := by
  have g1 : Dg 16 (txt 16 (fun q => p &&& q)) := Dg.txt fun i _ => and_lt hp
  have g2 : Dg 16 (txt 16 (fun p => fDia (dig r) p 4)) := Dg.txt fun i _ => fDia_lt _ _
  have g3 : Dg 16 (txt 16 (fun q => fBox (dig r) q)) := Dg.txt fun i _ => fBox_lt _ _
  have e1 := box_txt (R := dig r) (fun s _ => dig_lt r s)
  have e2 : txt 16 (fun q => dig (txt 16 (fun q => p &&& q)) (dig (txt 16 (fun q => fBox (dig r) q)) q)) = txt 16 (fSpec p (dig r)) := txt_congr fun q hq => by
    rw [txt_dig 16 (fun q => fBox (dig r) q) q hq (fBox_lt _ _), txt_dig 16 (fun q => p &&& q) _ (fBox_lt _ _) (and_lt hp)]
    rfl
  have G1 := Lib.hid g1; have G2 := Lib.hid g2; have G3 := Lib.hid g3; have E1 := Lib.hid e1; have E2 := Lib.hid e2; have H := Lib.hid h
  clear g1 g2 g3 e1 e2 h
  go_enter Try.func243, Try.ntmps243
  go_wp2_with fail
  refine (s_l3Assert p _ hp).mono ?_
  rintro e w' ⟨rfl, rfl⟩
  go_wp2_with fail
  refine (s_l3Angel _ _ H.out).mono ?_
  rintro e w' ⟨rfl, rfl⟩
  go_wp2_with fail
  refine (s_l3Dual _ _ G2.out).mono ?_
  rw [E1.out]
  rintro e w' ⟨rfl, rfl⟩
  go_wp2_with fail
  refine (s_l3Then _ _ _ G1.out G3.out).mono ?_
  rw [E2.out]
  rintro e w' ⟨rfl, rfl⟩
  go_wp2_with fail
  go_ret
  exact ⟨rfl, rfl⟩
end Go.Proofs.Ytiaeakpgldpaiaa
