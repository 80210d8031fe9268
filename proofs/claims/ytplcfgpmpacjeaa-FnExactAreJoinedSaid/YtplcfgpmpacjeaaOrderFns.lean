/- Contracts of IsAbove, AreComparable. -/
import Derived.Test.YtplcfgpmpacjeaaCornerFns2
import Derived.Test.YtplcfgpmpacjeaaOrder
namespace Go.Proofs.Ytplcfgpmpacjeaa
open Go.RowKit
set_option linter.unusedVariables false
set_option linter.unusedSimpArgs false

end Go.Proofs.Ytplcfgpmpacjeaa
