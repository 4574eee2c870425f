/- Contracts: impl.LooksLike. -/
import Derived.Test.YtjppoejkfpeicaaG17
set_option linter.unusedVariables false
set_option linter.unusedSimpArgs false
namespace Go.Proofs.Ytjppoejkfpeicaa
open Go.RowKit

end Go.Proofs.Ytjppoejkfpeicaa
