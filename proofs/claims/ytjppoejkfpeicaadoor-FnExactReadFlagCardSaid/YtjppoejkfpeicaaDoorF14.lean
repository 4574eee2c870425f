/- Contracts: CountColours: both sides. -/
import Derived.Test.YtjppoejkfpeicaaDoorF8
import Derived.Test.YtjppoejkfpeicaaDoorF7
set_option linter.unusedVariables false
namespace Go.Proofs.YtjppoejkfpeicaaDoor
open Go.RowKit

theorem info_6 : (Tryd.prog.info? 33).map (·.size) = some 6 := by kernel_rfl
def zero6 : List Int := List.replicate 6 0
/-- How many of the first k cells are of colour c. -/
def cnt (xs : List Int) (k c : Nat) : Int := ((List.range k).countP fun i => nth xs i == (c : Int) : Nat)
def countL (xs : List Int) (k : Nat) : List Int := (List.range 6).map (cnt xs k)
theorem countL_length (xs : List Int) (k : Nat) : (countL xs k).length = 6 := by simp [countL]
theorem countL_zero (xs : List Int) : countL xs 0 = zero6 := rfl
theorem cnt_bd (xs : List Int) (k c : Nat) : 0 ≤ cnt xs k c ∧ cnt xs k c ≤ k := by
  unfold cnt
  have := List.countP_le_length (p := fun i => nth xs i == (c : Int)) (l := List.range k)
  rw [List.length_range] at this
  omega
theorem cnt_succ (xs : List Int) (k c : Nat) : cnt xs (k + 1) c = cnt xs k c + if nth xs k == (c : Int) then 1 else 0 := by
  unfold cnt
  rw [List.range_succ, List.countP_append, List.countP_singleton]
  split <;> simp
theorem countL_nth (xs : List Int) (k c : Nat) (h : c < 6) : nth (countL xs k) c = cnt xs k c := nth_map_range _ _ _ h
theorem countL_step (xs : List Int) (k c : Nat) (h : nth xs k = (c : Int)) : (countL xs k).set c (cnt xs k c + 1) = countL xs (k + 1) := by
  apply List.ext_getElem
  · simp [countL]
  · intro i h1 h2
    simp only [List.getElem_set, countL, List.getElem_map, List.getElem_range, cnt_succ, h]
    by_cases e : c = i
    · subst e; simp
    · rw [if_neg e, if_neg (by simp; omega)]; simp
theorem vf_nth {xs : List Int} (h : vf xs = true) (k : Nat) (hk : k < xs.length) : nth xs k ≤ 5 := by
  unfold vf at h; rw [List.all_eq_true] at h
  simpa using h _ (nth_mem xs k hk)

/-- What CountColours hands back. -/
def ok6 (b : Bool) (ys : List Int) : List Int := if b then ys else zero6
theorem ok6_length {b : Bool} {ys : List Int} (h : ys.length = 6) : (ok6 b ys).length = 6 := by cases b; rfl; exact h

end Go.Proofs.YtjppoejkfpeicaaDoor
