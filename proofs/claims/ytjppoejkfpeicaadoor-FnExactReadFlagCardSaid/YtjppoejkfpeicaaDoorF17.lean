/- Contracts: FlagText: both sides. -/
import Derived.Test.YtjppoejkfpeicaaDoorF15
import Derived.Test.YtjppoejkfpeicaaDoorOwn
set_option linter.unusedVariables false
namespace Go.Proofs.YtjppoejkfpeicaaDoor
open Go.RowKit

theorem info_u8 : (Tryd.prog.info? 5).map (fun i => (i.zero, i.size, i.bytes)) = some (some (.int .u8 0), 1, 1) := by kernel_rfl
def letter (c : Int) : Int := nth [119, 121, 114, 98, 103, 107] c.toNat
theorem index_letters (c : Int) (h0 : 0 ≤ c) (h5 : c ≤ 5) (W : World) : (Instr.index 9 (.string ⟨#[119, 121, 114, 98, 103, 107]⟩) (.int .u8 c)).run Tryd.prog W = .ok (.int .u8 (letter c)) W := by
  rcases (by omega : c = 0 ∨ c = 1 ∨ c = 2 ∨ c = 3 ∨ c = 4 ∨ c = 5) with rfl | rfl | rfl | rfl | rfl | rfl
  all_goals (simp only [Instr.index, asIntOf, Sem.run_bind, Sem.run_pure, Result.andThen_ok, run_underlying Tryd.underlying9]; rfl)
/-- The text of the first k cells. -/
def textL (xs : List Int) : Nat → List Int
  | 0 => []
  | k + 1 => (if 0 < k ∧ k % 6 = 0 then textL xs k ++ [47] else textL xs k) ++ [letter (nth xs k)]
theorem textL_length (xs : List Int) : ∀ k, (textL xs k).length ≤ 2 * k
  | 0 => by simp [textL]
  | k + 1 => by
    have := textL_length xs k
    unfold textL
    split <;> simp <;> omega
theorem u8s_snoc (xs : List Int) (c : Int) : u8s xs ++ [.int .u8 c] = u8s (xs ++ [c]) := by simp [u8s]

end Go.Proofs.YtjppoejkfpeicaaDoor
