/- The program's listed functions that repeat a transformer, and the one that asks for a residual. -/
import Derived.Test.YtiaeakpgldpaiaaQJ3
import Derived.Test.YtiaeakpgldpaiaaQJ1
namespace Go.Proofs.Ytiaeakpgldpaiaa
set_option linter.unusedSimpArgs false
set_option linter.unusedVariables false
set_option maxRecDepth 4000
open Go.RowKit

end Go.Proofs.Ytiaeakpgldpaiaa
