/- The reference's listed functions: what each returns; none turns the world. -/
import Derived.Test.YtjbfebjdegabaaaSpecC
namespace Go.Proofs.Ytjbfebjdegabaaa
set_option linter.unusedSimpArgs false
set_option linter.unusedVariables false
set_option maxRecDepth 4000
open Go.RowKit

theorem optS_t (s : ByteArray) : optS true s = s := rfl
theorem optS_f (s : ByteArray) : optS false s = ⟨#[]⟩ := rfl
theorem optI_t (n : Nat) : optI true n = (n : Int) := rfl
theorem optI_f (n : Nat) : optI false n = -1 := rfl

end Go.Proofs.Ytjbfebjdegabaaa
