/- Contracts of IsAbove, AreComparable. -/
import Derived.Test.YtadgegkafpihgaaCornerFns2
import Derived.Test.YtadgegkafpihgaaOrder
namespace Go.Proofs.Ytadgegkafpihgaa
open Go.RowKit
set_option linter.unusedVariables false
set_option linter.unusedSimpArgs false

end Go.Proofs.Ytadgegkafpihgaa
