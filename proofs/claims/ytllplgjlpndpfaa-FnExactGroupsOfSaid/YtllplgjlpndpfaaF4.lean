/- Contracts: in how many places two rows of bytes differ. -/
import Derived.Test.YtllplgjlpndpfaaF2
set_option linter.unusedVariables false
namespace Go.Proofs.Ytllplgjlpndpfaa
open Go.RowKit

/-- In how many of the first k places two lists differ. -/
def diffs (xs ys : List Int) (k : Nat) : Int := ((List.range k).countP fun i => nth xs i != nth ys i : Nat)
theorem diffs_zero (xs ys : List Int) : diffs xs ys 0 = 0 := rfl
theorem diffs_succ (xs ys : List Int) (k : Nat) : diffs xs ys (k + 1) = diffs xs ys k + if nth xs k != nth ys k then 1 else 0 := by
  unfold diffs
  rw [List.range_succ, List.countP_append, List.countP_singleton]
  split <;> simp
/-- The counter behind a round, whichever way the test went. -/
theorem diffs_t {xs ys : List Int} {k : Nat} (h : (nth xs k != nth ys k) = true) : diffs xs ys (k + 1) = diffs xs ys k + 1 := by rw [diffs_succ, if_pos h]
theorem diffs_f {xs ys : List Int} {k : Nat} (h : (nth xs k != nth ys k) = false) : diffs xs ys (k + 1) = diffs xs ys k := by rw [diffs_succ, h]; simp
theorem diffs_bd (xs ys : List Int) (k : Nat) : 0 ≤ diffs xs ys k ∧ diffs xs ys k ≤ k := by
  unfold diffs
  have := List.countP_le_length (p := fun i => nth xs i != nth ys i) (l := List.range k)
  rw [List.length_range] at this
  omega
theorem diffs_comm (xs ys : List Int) (k : Nat) : diffs xs ys k = diffs ys xs k := by
  unfold diffs
  congr 1
  apply List.countP_congr
  intro i _
  rw [bne_comm]
theorem drewN_two (w : World) (a b : Nat) : (w.drewN a).drewN b = w.drewN (a + b) := World.drewN_drewN ..

end Go.Proofs.Ytllplgjlpndpfaa
