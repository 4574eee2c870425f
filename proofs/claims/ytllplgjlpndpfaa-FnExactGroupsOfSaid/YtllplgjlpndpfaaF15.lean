/- Contracts: impl.CountColours; two rows of counts compared. -/
import Derived.Test.YtllplgjlpndpfaaF14
import Derived.Test.YtllplgjlpndpfaaF2
import Derived.Test.YtllplgjlpndpfaaIdx
set_option linter.unusedVariables false
namespace Go.Proofs.Ytllplgjlpndpfaa
open Go.RowKit

end Go.Proofs.Ytllplgjlpndpfaa
