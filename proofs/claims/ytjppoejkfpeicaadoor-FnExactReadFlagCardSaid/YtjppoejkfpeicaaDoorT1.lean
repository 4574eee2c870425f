import Derived.Test.YtjppoejkfpeicaaDoorA
namespace Go.Proofs.YtjppoejkfpeicaaDoor
open Go.RowKit

theorem info_fl : (Tryd.prog.info? 23).map (·.size) = some 24 := by kernel_rfl
theorem info_fl' : (Tryd.prog.info? 22).map (·.size) = some 24 := by kernel_rfl

end Go.Proofs.YtjppoejkfpeicaaDoor
