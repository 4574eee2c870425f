import Derived.Test.YtllplgjlpndpfaaDoorA
namespace Go.Proofs.YtllplgjlpndpfaaDoor
open Go.RowKit

theorem info_fl' : (Tryd.prog.info? 73).map (·.size) = some 24 := by kernel_rfl

end Go.Proofs.YtllplgjlpndpfaaDoor
