/- Contracts: impl.CountColours; two rows of counts compared. -/
import Derived.Test.YtllplgjlpndpfaaDoorF14
import Derived.Test.YtllplgjlpndpfaaDoorF2
import Derived.Test.YtllplgjlpndpfaaDoorIdx
set_option linter.unusedVariables false
namespace Go.Proofs.YtllplgjlpndpfaaDoor
open Go.RowKit

end Go.Proofs.YtllplgjlpndpfaaDoor
