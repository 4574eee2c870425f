/- Contracts: CellOf and what it calls: both sides. -/
import Derived.Test.YtjppoejkfpeicaaF5
set_option linter.unusedVariables false
namespace Go.Proofs.Ytjppoejkfpeicaa
open Go.RowKit

def Bytes (xs : List Int) : Prop := ∀ x ∈ xs, 0 ≤ x ∧ x ≤ 255
theorem Bytes.nth {xs : List Int} (h : Bytes xs) (i : Nat) : 0 ≤ nth xs i ∧ nth xs i ≤ 255 := by
  rcases Nat.lt_or_ge i xs.length with hi | hi
  · exact h _ (nth_mem xs i hi)
  · rw [nth_out xs i hi]; omega

theorem unless_any (b : Bool) (c : Int) (w : World) : Calls Try.prog 52 #[.bool b, .int .i64 c] w fun e w' => e = .returned (.int .i64 (if b then 0 else c)) ∧ w = w' := by
  cases b
  all_goals
    go_enter Try.func52, Try.ntmps52
    go_wp2
    go_ret
    exact ⟨rfl, rfl⟩

/-- The code of a flag and a cell. -/
def cellC (xs : List Int) (x y : Int) : Int := if vf xs then (if inR x 0 5 && inR y 0 3 then 0 else 2) else 1
def cellN (xs : List Int) (x y : Int) : Int := if vf xs && (inR x 0 5 && inR y 0 3) then nth xs (x + 6 * y).toNat else 0

theorem l01Index_any (x y : Int) (hx : 0 ≤ x ∧ x ≤ 5) (hy : 0 ≤ y ∧ y ≤ 3) (w : World) : Calls Try.prog 103 #[.int .i64 x, .int .i64 y] w fun e w' => e = .returned (.int .i64 (x + 6 * y)) ∧ w = w' := by
  have h1 := hx.1; have h2 := hx.2; have h3 := hy.1; have h4 := hy.2
  go_enter Try.func103, Try.ntmps103
  go_wp2
  go_ret
  exact ⟨rfl, rfl⟩

end Go.Proofs.Ytjppoejkfpeicaa
