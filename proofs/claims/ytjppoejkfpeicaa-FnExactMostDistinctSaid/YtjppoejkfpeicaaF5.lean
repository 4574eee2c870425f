/- Contracts: DistanceOf: both sides. -/
import Derived.Test.YtjppoejkfpeicaaF4
set_option linter.unusedVariables false
namespace Go.Proofs.Ytjppoejkfpeicaa
open Go.RowKit

/-- The code of valid flags: 0, or 1. -/
def codeV (b : Bool) : Int := if b then 0 else 1
/-- What DistanceOf answers. -/
def distN (xs ys : List Int) : Int := if vf xs && vf ys then diffs xs ys 24 else 0
def ret2 (a b : Value) : Value := .tuple #[a, b]
theorem ret_2 {k k' : IntKind} {a b a' b' : Int} (h : a = a') (h' : b = b') : Ending.returned (.tuple #[.int k a, .int k' b]) = .returned (.tuple #[.int k a', .int k' b']) := by rw [h, h']

end Go.Proofs.Ytjppoejkfpeicaa
