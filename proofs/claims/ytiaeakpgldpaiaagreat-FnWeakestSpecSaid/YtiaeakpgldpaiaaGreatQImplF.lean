/- The program's listed functions on fixed points, codes and invariants. -/
import Derived.Test.YtiaeakpgldpaiaaGreatQJ3
namespace Go.Proofs.YtiaeakpgldpaiaaGreat
set_option linter.unusedSimpArgs false
set_option linter.unusedVariables false
set_option maxRecDepth 4000
open Go.RowKit

end Go.Proofs.YtiaeakpgldpaiaaGreat
