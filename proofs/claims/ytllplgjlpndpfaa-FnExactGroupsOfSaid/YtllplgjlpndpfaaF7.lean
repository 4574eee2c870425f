/- Contracts: CellOf and what it calls: both sides. -/
import Derived.Test.YtllplgjlpndpfaaF5
set_option linter.unusedVariables false
namespace Go.Proofs.Ytllplgjlpndpfaa
open Go.RowKit

def Bytes (xs : List Int) : Prop := ∀ x ∈ xs, 0 ≤ x ∧ x ≤ 255
theorem Bytes.nth {xs : List Int} (h : Bytes xs) (i : Nat) : 0 ≤ nth xs i ∧ nth xs i ≤ 255 := by
  rcases Nat.lt_or_ge i xs.length with hi | hi
  · exact h _ (nth_mem xs i hi)
  · rw [nth_out xs i hi]; omega

theorem unless_any (b : Bool) (c : Int) (w : World) : Calls Try.prog 71 #[.bool b, .int .i64 c] w fun e w' => e = .returned (.int .i64 (if b then 0 else c)) ∧ w = w' := by
  cases b
  all_goals
    go_enter Try.func71, Try.ntmps71
    go_wp2
    go_ret
    exact ⟨rfl, rfl⟩

/-- The code of a flag and a cell. -/
def cellC (xs : List Int) (x y : Int) : Int := if vf xs then (if inR x 0 5 && inR y 0 3 then 0 else 2) else 1
def cellN (xs : List Int) (x y : Int) : Int := if vf xs && (inR x 0 5 && inR y 0 3) then nth xs (x + 6 * y).toNat else 0

end Go.Proofs.Ytllplgjlpndpfaa
