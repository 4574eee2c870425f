/- Contracts: IsUpsideDown: both sides. -/
import Derived.Test.YtjppoejkfpeicaaF10
import Derived.Test.YtjppoejkfpeicaaEq
import Derived.Test.YtjppoejkfpeicaaLw
set_option linter.unusedVariables false
namespace Go.Proofs.Ytjppoejkfpeicaa
open Go.RowKit

theorem guard_fl : Try.prog.eqGuardType Try.prog.depth 38 = false := by kernel_rfl
theorem eql_fl (xs ys : List Int) (hx : xs.length = 24) (hy : ys.length = 24) (w : World) : (binOp .eql 38 (.agg (u8s xs).toArray) (.agg (u8s ys).toArray)).run Try.prog w = .ok (.bool (decide (xs = ys))) w :=
  run_eql_u8s 38 5 24 Try.underlying38 Try.underlying5 (by kernel_rfl) (fun w => Try.isAgg5 w) xs ys hx hy w
theorem neq_fl (xs ys : List Int) (hx : xs.length = 24) (hy : ys.length = 24) (w : World) : (binOp .neq 38 (.agg (u8s xs).toArray) (.agg (u8s ys).toArray)).run Try.prog w = .ok (.bool (!decide (xs = ys))) w :=
  run_neq_u8s 38 5 24 Try.underlying38 Try.underlying5 (by kernel_rfl) (fun w => Try.isAgg5 w) xs ys hx hy w

def downB (xs ys : List Int) : Bool := vf xs && vf ys && decide (turnL xs = ys)
theorem ret_bn {a b : Bool} {n m : Int} (h : a = b) (h' : n = m) : Ending.returned (.tuple #[.bool a, .int .i64 n]) = .returned (.tuple #[.bool b, .int .i64 m]) := by rw [h, h']

end Go.Proofs.Ytjppoejkfpeicaa
