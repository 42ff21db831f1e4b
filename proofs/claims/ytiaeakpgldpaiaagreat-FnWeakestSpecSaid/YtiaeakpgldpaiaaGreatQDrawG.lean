/- The drawers of specifications and of invariants. -/
import Derived.Test.YtiaeakpgldpaiaaGreatQJ4
import Derived.Test.YtiaeakpgldpaiaaGreatQSpecE
import Derived.Test.YtiaeakpgldpaiaaGreatQJ2
namespace Go.Proofs.YtiaeakpgldpaiaaGreat
set_option linter.unusedSimpArgs false
set_option linter.unusedVariables false
set_option maxRecDepth 4000
open Go.RowKit

set_option maxHeartbeats 1000000 in
theorem s_l2Bad (g P : Nat) (t : ByteArray) (w : World) (hp : P + 1 ≤ 100000) (ht : Dg 4 t) (h : RdIn w g P) : Calls Tryz.prog 100 #[.pointer (some ⟨g, 0, none⟩), .string t] w (TxtPost w g (P + 1) Small) := by
  have hsz : t.size = 4 := ht.1
  clear ht
  go_enter Tryz.func100, Tryz.ntmps100
  go_wp2_with fail
  refine (s_pickIn g P 30 _ _ rfl (by omega) (by omega) (by omega) h).mono ?_
  rintro e w1 ⟨c, hc, rfl, h1, hg⟩
  have HG := Lib.hid hg; have H1 := Lib.hid h1; clear hg h1
  have hcs : c = 0 ∨ c = 1 ∨ c = 2 ∨ 3 ≤ c := by omega
  rcases hcs with h0 | h0 | h0 | h0
  · have b0 : ((c : Int) == 0) = true := by rw [h0]; rfl
    clear h0
    go_wp2_with fail
    go_ret
    exact ⟨_, by unfold Small; rw [ByteArray.size_append, hsz]; decide, rfl, H1.out, HG.out⟩
  · have b0 : ((c : Int) == 0) = false := by rw [h0]; rfl
    have b1 : ((c : Int) == 1) = true := by rw [h0]; rfl
    clear h0
    go_wp2_with fail
    go_ret
    exact ⟨_, by unfold Small; rw [ByteArray.size_extract]; omega, rfl, H1.out, HG.out⟩
  · have b0 : ((c : Int) == 0) = false := by rw [h0]; rfl
    have b1 : ((c : Int) == 1) = false := by rw [h0]; rfl
    have b2 : ((c : Int) == 2) = true := by rw [h0]; rfl
    clear h0
    go_wp2_with fail
    go_ret
    exact ⟨_, by unfold Small; rw [ByteArray.size_append, ByteArray.size_extract]; show 1 + _ ≤ _; omega, rfl, H1.out, HG.out⟩
  · have b0 : ((c : Int) == 0) = false := by rw [beq_eq_false_iff_ne]; omega
    have b1 : ((c : Int) == 1) = false := by rw [beq_eq_false_iff_ne]; omega
    have b2 : ((c : Int) == 2) = false := by rw [beq_eq_false_iff_ne]; omega
    clear h0
    go_wp2_with fail
    go_ret
    exact ⟨_, by unfold Small; omega, rfl, H1.out, HG.out⟩
theorem s_l2Open (g P : Nat) (w : World) (hp : P + 10 ≤ 100000) (h : RdIn w g P) : Calls Tryz.prog 52 #[.pointer (some ⟨g, 0, none⟩)] w (TxtPost w g (P + 10) Small) := by
  have HG0 := Lib.hid (World.grownBy.refl w (some g))
  go_enter Tryz.func52, Tryz.ntmps52
  go_wp2_with fail
  refine (s_l2Some g P _ (by omega) h).mono ?_
  rintro e w1 ⟨s1, hs1, rfl, h1, hg1⟩
  have HS1 := Lib.hid hs1; have H1 := Lib.hid h1; have HG1 := Lib.hid (grown_trans HG0.out hg1); clear hs1 h1 hg1
  go_wp2_with fail
  refine (s_l2Bad g (P + 9) s1 _ (by omega) HS1.out H1.out).mono ?_
  rintro e w2 ⟨s2, hs2, rfl, h2, hg2⟩
  have HS2 := Lib.hid hs2; have H2 := Lib.hid h2; have HG2 := Lib.hid (grown_trans HG1.out hg2); clear hs2 h2 hg2
  go_wp2_with fail
  go_ret
  exact ⟨s2, HS2.out, rfl, H2.out, HG2.out⟩
/-- A number and a text. -/
def SpPost (w : World) (g P : Nat) (e : Ending) (w' : World) : Prop := ∃ z s, Small s ∧ e = .returned (.tuple #[.int .i64 z, .string s]) ∧ RdIn w' g P ∧ w.grownBy w' (some g)
theorem s_l9Spec (g P : Nat) (w : World) (hp : P + 12 ≤ 100000) (h : RdIn w g P) : Calls Tryz.prog 21 #[.pointer (some ⟨g, 0, none⟩)] w (SpPost w g (P + 12)) := by
  have HG0 := Lib.hid (World.grownBy.refl w (some g))
  go_enter Tryz.func21, Tryz.ntmps21
  go_wp2_with fail
  refine (s_l1Some g P _ (by omega) h).mono ?_
  rintro e w1 ⟨z1, rfl, h1, hg1⟩
  have H1 := Lib.hid h1; have HG1 := Lib.hid (grown_trans HG0.out hg1); clear h1 hg1
  go_wp2_with fail
  refine (s_l2Open g (P + 2) _ (by omega) H1.out).mono ?_
  rintro e w2 ⟨s2, hs2, rfl, h2, hg2⟩
  have HS2 := Lib.hid hs2; have H2 := Lib.hid h2; have HG2 := Lib.hid (grown_trans HG1.out hg2); clear hs2 h2 hg2
  go_wp2_with fail
  go_ret2
  exact ⟨z1, s2, HS2.out, rfl, H2.out, HG2.out⟩
end Go.Proofs.YtiaeakpgldpaiaaGreat
