/- Contracts: flags turned, both sides; two flags compared. -/
import Derived.Test.YtllplgjlpndpfaaF5
import Derived.Test.YtllplgjlpndpfaaF2
set_option linter.unusedVariables false
namespace Go.Proofs.Ytllplgjlpndpfaa
open Go.RowKit

/-- A flag upside down. -/
def turnL (xs : List Int) : List Int := (List.range 24).map fun i => nth xs (23 - i)
theorem turnL_length (xs : List Int) : (turnL xs).length = 24 := by simp [turnL]

end Go.Proofs.Ytllplgjlpndpfaa
