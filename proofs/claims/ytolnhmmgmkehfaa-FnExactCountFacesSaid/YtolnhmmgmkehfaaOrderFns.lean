/- Contracts of IsAbove, AreComparable. -/
import Derived.Test.YtolnhmmgmkehfaaCornerFns2
import Derived.Test.YtolnhmmgmkehfaaOrder
namespace Go.Proofs.Ytolnhmmgmkehfaa
open Go.RowKit
set_option linter.unusedVariables false
set_option linter.unusedSimpArgs false

end Go.Proofs.Ytolnhmmgmkehfaa
