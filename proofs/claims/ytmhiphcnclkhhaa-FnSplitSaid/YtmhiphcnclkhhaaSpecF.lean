/- The reference's UndoOf and SplitWhile; none turns the world. -/
import Derived.Test.YtmhiphcnclkhhaaSpecE
import Derived.Test.YtmhiphcnclkhhaaPlain4
namespace Go.Proofs.Ytmhiphcnclkhhaa
set_option linter.unusedSimpArgs false
set_option linter.unusedVariables false
set_option maxRecDepth 4000
open Go.RowKit

theorem s_UndoOf (t : ByteArray) (w : World) (ht : t.size ≤ 1048576) : Calls Try.prog 23 #[.string t] w fun e w' => e = .returned (.tuple #[.string (optS (trOk t) (txt 16 (fun p => fMost (dig t) (fun q => 15 &&& q) p 16))), .bool (trOk t)]) ∧ w = w' := by
  have hok : trOk (txt 16 (fun q => 15 &&& q)) = true := trOk_txt (fun q hq => and_lt (by omega)) (fun p q _ _ h => imp_and (imp_refl _) h)
  have e1 : txt 16 (fun p => fMost (dig t) (dig (txt 16 (fun q => 15 &&& q))) p 16) = txt 16 (fun p => fMost (dig t) (fun q => 15 &&& q) p 16) := txt_congr fun p _ => fMost_congr p 16 (fun k hk => txt_dig 16 (fun q => 15 &&& q) _ hk (and_lt (by omega)))
  have hz : (txt 16 (fun q => 15 &&& q)).size ≤ 1048576 := by rw [txt_size]; omega
  have HO := Lib.hid hok; have E1 := Lib.hid e1; clear hok e1
  go_enter Try.func23, Try.ntmps23
  go_wp2_with (first | (go_at_call 78; refine (s_l3Assert 15 _ (by omega)).mono ?_; rintro e w' ⟨rfl, rfl⟩) | (go_at_call 77; refine (s_BeforeMost _ _ _ ht hz).mono ?_; rw [HO.out, Bool.and_true, E1.out]; rintro e w' ⟨rfl, rfl⟩))
  go_ret2
  exact ⟨rfl, rfl⟩
theorem s_SplitWhile (p q : Int) (t : ByteArray) (w : World) (hs : t.size ≤ 1048576) : Calls Try.prog 25 #[.int .i64 p, .int .i64 q, .string t] w fun e w' => e = .returned (.tuple #[.string (optS ((trOk t && cvB p) && cvB q) (txt 16 (fSplit p.toNat q.toNat (dig t)))), .bool ((trOk t && cvB p) && cvB q)]) ∧ w = w' := by
  cases hok : (trOk t && cvB p)
  · go_enter Try.func25, Try.ntmps25
    go_wp2_with (go_at_call 67; refine (s_l7Ready _ _ _ hs).mono ?_; rw [hok]; rintro e w' ⟨rfl, rfl⟩)
    go_ret2
    exact ⟨rfl, rfl⟩
  cases hv : cvB q
  · go_enter Try.func25, Try.ntmps25
    go_wp2_with (first | (go_at_call 67; refine (s_l7Ready _ _ _ hs).mono ?_; rw [hok]; rintro e w' ⟨rfl, rfl⟩) | (go_at_call 68; refine (s_ConditionValid _ _).mono ?_; rw [hv]; rintro e w' ⟨rfl, rfl⟩))
    go_ret2
    exact ⟨rfl, rfl⟩
  · have hok' := hok
    rw [Bool.and_eq_true] at hok'
    obtain ⟨n, hn, rfl⟩ := (cvB_iff p).1 hok'.2
    obtain ⟨m, hm, rfl⟩ := (cvB_iff q).1 hv
    have h1 := Dg.tr hok'.1
    have h2 := dig_mono hok'.1
    have hx : n &&& m < 16 := and_lt hn
    have hf := fWhile_bd hx (T := dig t)
    have g1 : Dg 16 (txt 16 (fWhile (n &&& m) (dig t))) := Dg.txt fun a ha => hf a ha
    have e1 : txt 16 (fun a => dig t (dig (txt 16 (fWhile (n &&& m) (dig t))) a)) = txt 16 (fSplitB n m (dig t)) := txt_congr fun a ha => by rw [txt_dig _ _ _ ha (hf a ha)]; rfl
    have g2 : Dg 16 (txt 16 (fSplitB n m (dig t))) := Dg.txt fun a _ => dig_lt t _
    have e2 : Mono (dig (txt 16 (fSplitB n m (dig t)))) := Mono.txt (fSplitB_bd hn (dig_bd t)) (fSplitB_mono hn (dig_bd t) h2)
    have e3 : txt 16 (fWhile n (dig (txt 16 (fSplitB n m (dig t))))) = txt 16 (fWhile n (fSplitB n m (dig t))) := txt_congr fun a ha => fWhile_congr hn ha (fun x hx => txt_dig _ _ _ hx (fSplitB_bd hn (dig_bd t) x hx))
    have g3 : Dg 16 (txt 16 (fWhile n (fSplitB n m (dig t)))) := Dg.txt fun a ha => fWhile_bd hn a ha
    have e4 : txt 16 (fun a => dig (txt 16 (fWhile (n &&& m) (dig t))) (dig (txt 16 (fWhile n (fSplitB n m (dig t)))) a)) = txt 16 (fSplit n m (dig t)) := txt_congr fun a ha => by
      rw [txt_dig 16 (fWhile n (fSplitB n m (dig t))) _ ha (fWhile_bd hn a ha), txt_dig 16 (fWhile (n &&& m) (dig t)) _ (fWhile_bd hn a ha) (hf _ (fWhile_bd hn a ha))]; rfl
    have b1 := bits_and_nat n m (by omega) (by omega)
    have H1 := Lib.hid h1; have H2 := Lib.hid h2; have G1 := Lib.hid g1; have G2 := Lib.hid g2; have G3 := Lib.hid g3; have E1 := Lib.hid e1; have E2 := Lib.hid e2; have E3 := Lib.hid e3; have E4 := Lib.hid e4; clear h1 h2 g1 g2 g3 e1 e2 e3 e4 hf
    clear hok'
    go_enter Try.func25, Try.ntmps25
    go_wp2_with (first | (go_at_call 67; refine (s_l7Ready _ _ _ hs).mono ?_; rw [hok]; rintro e w' ⟨rfl, rfl⟩) | (go_at_call 68; refine (s_ConditionValid _ _).mono ?_; rw [hv]; rintro e w' ⟨rfl, rfl⟩) | (go_at_call 83; (with_reducible refine (s_l8While_t _ t _ hx H1.out H2.out).mono ?_); rintro e w' ⟨rfl, rfl⟩) | (go_at_call 83; (with_reducible refine (s_l8While_t _ _ _ hn G2.out E2.out).mono ?_); rw [E3.out]; rintro e w' ⟨rfl, rfl⟩) | (go_at_call 84; (with_reducible refine (s_l3Then t _ _ H1.out G1.out).mono ?_); rw [E1.out]; rintro e w' ⟨rfl, rfl⟩) | (go_at_call 84; (with_reducible refine (s_l3Then _ _ _ G1.out G3.out).mono ?_); rw [E4.out]; rintro e w' ⟨rfl, rfl⟩))
    go_ret2
    exact ⟨rfl, rfl⟩
end Go.Proofs.Ytmhiphcnclkhhaa
