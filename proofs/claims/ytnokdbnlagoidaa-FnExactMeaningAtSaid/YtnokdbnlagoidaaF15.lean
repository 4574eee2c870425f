/- Contracts: impl.CountColours; two rows of counts compared. -/
import Derived.Test.YtnokdbnlagoidaaF14
import Derived.Test.YtnokdbnlagoidaaF2
import Derived.Test.YtnokdbnlagoidaaIdx
set_option linter.unusedVariables false
namespace Go.Proofs.Ytnokdbnlagoidaa
open Go.RowKit

end Go.Proofs.Ytnokdbnlagoidaa
