/- Walk: the law of CountMeanings. (Printed by genlaw.py.) -/
import Derived.Test.YtnokdbnlagoidaaCi
import Derived.Test.YtnokdbnlagoidaaLs
set_option linter.unusedVariables false
namespace Go.Proofs.Ytnokdbnlagoidaa
open Go.RowKit

set_option maxHeartbeats 2000000 in
theorem walk_FnExactCountMeanings (x0 : Int) (r0 : -9223372036854775808 ≤ x0 ∧ x0 ≤ 9223372036854775807) (x1 : Int) (r1 : -9223372036854775808 ≤ x1 ∧ x1 ≤ 9223372036854775807) (x2 : Int) (r2 : -9223372036854775808 ≤ x2 ∧ x2 ≤ 9223372036854775807) (x3 : Int) (r3 : -9223372036854775808 ≤ x3 ∧ x3 ≤ 9223372036854775807) (w : World) :
    Calls Try.prog 6 #[.int .i64 x0, .int .i64 x1, .int .i64 x2, .int .i64 x3] w fun e w' => e = .returned (.bool true) ∧ Below w.heap.size w w' := by
  have k1 := fun W => sCountMeanings_any x0 x1 x2 x3 W
  have k2 := fun W => CountMeanings_any x0 x1 x2 x3 W
  generalize cntN x0 x1 x2 x3 = va at *
  generalize cntC x0 x1 x2 x3 = vc at *
  go_enter Try.func6, Try.ntmps6
  go_wp2_with (fail)
  refine (k1 _ ).mono ?_; rintro e w1 ⟨rfl, hb1⟩
  have b1 := hb1
  go_wp2_with (fail)
  refine (k2 _ ).mono ?_; rintro e w2 ⟨rfl, hb2⟩
  have b2 := bl_call b1 hb2
  go_wp2_with (fail)
  go_ret
  exact ⟨by simp, b2⟩
end Go.Proofs.Ytnokdbnlagoidaa
