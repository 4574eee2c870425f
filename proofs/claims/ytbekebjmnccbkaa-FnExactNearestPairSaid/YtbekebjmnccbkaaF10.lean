/- Contracts: TurnFlag: both sides. -/
import Derived.Test.YtbekebjmnccbkaaF9
set_option linter.unusedVariables false
namespace Go.Proofs.Ytbekebjmnccbkaa
open Go.RowKit

def zero24 : List Int := List.replicate 24 0
/-- The flag that is handed back: ys, or none. -/
def okF (b : Bool) (ys : List Int) : List Int := if b then ys else zero24
theorem zero24_length : zero24.length = 24 := rfl
theorem okF_length {b : Bool} {ys : List Int} (h : ys.length = 24) : (okF b ys).length = 24 := by cases b; exact zero24_length; exact h
theorem ret_f {xs ys : List Int} {n m : Int} (h : xs = ys) (h' : n = m) : Ending.returned (.tuple #[fl xs, .int .i64 n]) = .returned (.tuple #[fl ys, .int .i64 m]) := by rw [h, h']

end Go.Proofs.Ytbekebjmnccbkaa
