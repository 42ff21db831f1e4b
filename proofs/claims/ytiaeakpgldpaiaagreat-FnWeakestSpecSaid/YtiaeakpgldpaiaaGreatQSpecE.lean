/- The reference's loops and repetitions, and the listed functions on them: what each returns; none turns the world. -/
import Derived.Test.YtiaeakpgldpaiaaGreatQSpecD
import Derived.Test.YtiaeakpgldpaiaaGreatQJ1
namespace Go.Proofs.YtiaeakpgldpaiaaGreat
set_option linter.unusedSimpArgs false
set_option linter.unusedVariables false
set_option maxRecDepth 4000
open Go.RowKit

end Go.Proofs.YtiaeakpgldpaiaaGreat
