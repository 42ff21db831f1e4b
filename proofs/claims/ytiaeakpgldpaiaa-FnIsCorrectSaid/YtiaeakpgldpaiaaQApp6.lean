/- Contracts' transformers, as the laws call them. -/
import Derived.Test.YtiaeakpgldpaiaaQApp5
import Derived.Test.YtiaeakpgldpaiaaQImplZ
import Derived.Test.YtiaeakpgldpaiaaQJ4
namespace Go.Proofs.Ytiaeakpgldpaiaa
set_option linter.unusedSimpArgs false
set_option linter.unusedVariables false
set_option maxRecDepth 4000
open Go.RowKit

theorem ByteIn.later {w w' : World} {a : Option Addr} {len cap : Nat} (h : ByteIn w a len cap) (hb : Below w.heap.size w w') : ByteIn w' a len cap := by
  obtain ⟨h1, h2, h3⟩ := h
  refine ⟨h1, h2, ?_⟩
  rcases h3 with h3 | ⟨b, off, h5, h6, h7⟩
  · exact .inl h3
  · refine .inr ⟨b, off, h5, Nat.lt_of_lt_of_le h6 hb.size, fun i hi => ?_⟩
    obtain ⟨z, hz, hc⟩ := h7 i hi
    exact ⟨z, hz, (hb.cell (p := ⟨b, off + i, none⟩) h6).trans hc⟩
theorem weakB_congr {p q : Nat} {R R' S : Nat → Nat} (h : ∀ i, i < 4 → R i = R' i) : weakB p R q S = weakB p R' q S := by
  unfold weakB
  congr 1
  rw [Bool.eq_iff_iff, fWithin_iff, fWithin_iff]
  constructor
  · intro hh i hi hq; rw [← h i hi]; exact hh i hi hq
  · intro hh i hi hq; rw [h i hi]; exact hh i hi hq
theorem l_dcTrans (c : ByteArray) (w : World) (hok : ctOk c = true) : Calls Try.prog 82 #[.string c] w fun e w' => e = .returned (.string (txt 16 (ctT c))) ∧ Below w.heap.size w w' := by
  go_enter Try.func82, Try.ntmps82
  go_wp2_with fail
  refine (i_TransOfContract c _).mono ?_
  rw [hok]
  rintro e w1 ⟨rfl, hb⟩
  go_wp2_with fail
  go_ret
  exact ⟨rfl, hb⟩
end Go.Proofs.Ytiaeakpgldpaiaa
