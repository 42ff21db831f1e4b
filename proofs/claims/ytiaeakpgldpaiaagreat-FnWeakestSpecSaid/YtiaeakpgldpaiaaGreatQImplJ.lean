/- The program's repetitions and residuals: the closures, and the listed functions made of them. -/
import Derived.Test.YtiaeakpgldpaiaaGreatQImplI
namespace Go.Proofs.YtiaeakpgldpaiaaGreat
set_option linter.unusedSimpArgs false
set_option linter.unusedVariables false
set_option maxRecDepth 4000
open Go.RowKit

end Go.Proofs.YtiaeakpgldpaiaaGreat
