/- The program's reader of two specifications. -/
import Derived.Test.YtmhiphcnclkhhaaImplB
import Derived.Test.YtmhiphcnclkhhaaBase2
namespace Go.Proofs.Ytmhiphcnclkhhaa
set_option linter.unusedSimpArgs false
set_option linter.unusedVariables false
set_option maxRecDepth 4000
open Go.RowKit

end Go.Proofs.Ytmhiphcnclkhhaa
