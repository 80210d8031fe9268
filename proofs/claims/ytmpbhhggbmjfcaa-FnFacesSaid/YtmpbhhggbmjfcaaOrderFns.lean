/- Contracts of IsAbove, AreComparable. -/
import Derived.Test.YtmpbhhggbmjfcaaCornerFns2
import Derived.Test.YtmpbhhggbmjfcaaOrder
namespace Go.Proofs.Ytmpbhhggbmjfcaa
open Go.RowKit
set_option linter.unusedVariables false
set_option linter.unusedSimpArgs false

end Go.Proofs.Ytmpbhhggbmjfcaa
