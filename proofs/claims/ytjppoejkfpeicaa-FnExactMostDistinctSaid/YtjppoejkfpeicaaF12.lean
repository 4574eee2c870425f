/- Contracts: MirrorFlag: both sides. -/
import Derived.Test.YtjppoejkfpeicaaF11
set_option linter.unusedVariables false
namespace Go.Proofs.Ytjppoejkfpeicaa
open Go.RowKit

end Go.Proofs.Ytjppoejkfpeicaa
