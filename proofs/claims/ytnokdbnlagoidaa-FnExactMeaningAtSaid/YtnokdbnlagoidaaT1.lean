import Derived.Test.YtnokdbnlagoidaaA
namespace Go.Proofs.Ytnokdbnlagoidaa
open Go.RowKit

end Go.Proofs.Ytnokdbnlagoidaa
