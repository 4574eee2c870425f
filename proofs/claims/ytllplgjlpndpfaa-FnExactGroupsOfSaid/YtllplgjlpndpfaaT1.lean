import Derived.Test.YtllplgjlpndpfaaA
namespace Go.Proofs.Ytllplgjlpndpfaa
open Go.RowKit

end Go.Proofs.Ytllplgjlpndpfaa
