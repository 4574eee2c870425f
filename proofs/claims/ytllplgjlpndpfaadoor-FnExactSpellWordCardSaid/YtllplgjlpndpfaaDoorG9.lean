/- Contracts: laws.toInt64S, eqInt64S. -/
import Derived.Test.YtllplgjlpndpfaaDoorH2
set_option linter.unusedVariables false
namespace Go.Proofs.YtllplgjlpndpfaaDoor
open Go.RowKit

theorem info_i64 : (Tryd.prog.info? 2).map (fun i => (i.zero, i.size, i.bytes)) = some (some (.int .i64 0), 1, 8) := by kernel_rfl
theorem i64s_replicate (n : Nat) : List.replicate n (Value.int .i64 0) = i64s (List.replicate n 0) := by simp [i64s]
end Go.Proofs.YtllplgjlpndpfaaDoor
