/- Plain facts: the first place of the greatest number; the colours of a flag's blocks. -/
import Derived.Test.YtjppoejkfpeicaaF2
set_option linter.unusedVariables false
namespace Go.Proofs.Ytjppoejkfpeicaa
open Go.RowKit

/-- The first place up to k at which f is greatest. -/
def bestUp (f : Nat → Int) : Nat → Nat
  | 0 => 0
  | k + 1 => if f (bestUp f k) < f (k + 1) then k + 1 else bestUp f k
theorem bestUp_le (f : Nat → Int) : ∀ k, bestUp f k ≤ k
  | 0 => Nat.le_refl _
  | k + 1 => by
    have := bestUp_le f k
    unfold bestUp; split <;> omega
theorem bestUp_max (f : Nat → Int) : ∀ k j, j ≤ k → f j ≤ f (bestUp f k)
  | 0, j, h => by obtain rfl : j = 0 := by omega
                  exact Int.le_refl _
  | k + 1, j, h => by
    unfold bestUp
    split
    · rename_i hlt
      rcases Nat.lt_or_eq_of_le h with h' | rfl
      · have := bestUp_max f k j (by omega); omega
      · exact Int.le_refl _
    · rename_i hge
      rcases Nat.lt_or_eq_of_le h with h' | rfl
      · exact bestUp_max f k j (by omega)
      · omega
theorem bestUp_first (f : Nat → Int) : ∀ k j, j < bestUp f k → f j < f (bestUp f k)
  | 0, j, h => by simp [bestUp] at h
  | k + 1, j, h => by
    unfold bestUp at h ⊢
    split
    · rename_i hlt
      rw [if_pos hlt] at h
      have := bestUp_max f k j (by omega); omega
    · rename_i hge
      rw [if_neg hge] at h
      exact bestUp_first f k j h
/-- Where the greatest one stands first. -/
theorem firstIdx_best (f : Nat → Int) (k : Nat) : firstIdx (fun i => f i == f (bestUp f k)) (k + 1) 0 = (bestUp f k : Nat) := by
  rw [firstIdx_hit _ (k + 1) 0 (bestUp f k) (by have := bestUp_le f k; omega) (fun i hi => by
    have := bestUp_first f k i hi
    rw [Nat.zero_add, beq_eq_false_iff_ne]; omega) (by rw [Nat.zero_add]; exact beq_self_eq_true _)]
  simp

/-- Cell k of block b of a flag. -/
def pos (b k : Nat) : Nat := 2 * (b % 3) + 12 * (b / 3) + k % 2 + 6 * (k / 2)
theorem pos_lt (b k : Nat) (hb : b < 6) (hk : k < 4) : pos b k < 24 := by unfold pos; omega
/-- How many of the first m cells of block b are of colour c. -/
def cntB (xs : List Int) (b m c : Nat) : Int := ((List.range m).countP fun i => nth xs (pos b i) == (c : Int) : Nat)
theorem cntB_zero (xs : List Int) (b c : Nat) : cntB xs b 0 c = 0 := rfl
theorem cntB_bd (xs : List Int) (b m c : Nat) : 0 ≤ cntB xs b m c ∧ cntB xs b m c ≤ m := by
  unfold cntB
  have := List.countP_le_length (p := fun i => nth xs (pos b i) == (c : Int)) (l := List.range m)
  rw [List.length_range] at this
  omega
theorem cntB_succ (xs : List Int) (b m c : Nat) : cntB xs b (m + 1) c = cntB xs b m c + if nth xs (pos b m) == (c : Int) then 1 else 0 := by
  unfold cntB
  rw [List.range_succ, List.countP_append, List.countP_singleton]
  split <;> simp
def cntL (xs : List Int) (b m : Nat) : List Int := (List.range 6).map (cntB xs b m)
theorem cntL_length (xs : List Int) (b m : Nat) : (cntL xs b m).length = 6 := by simp [cntL]
theorem cntL_zero (xs : List Int) (b : Nat) : cntL xs b 0 = List.replicate 6 0 := rfl
theorem cntL_nth (xs : List Int) (b m c : Nat) (h : c < 6) : nth (cntL xs b m) c = cntB xs b m c := nth_map_range _ _ _ h
theorem cntL_step (xs : List Int) (b m c : Nat) (h : nth xs (pos b m) = (c : Int)) : (cntL xs b m).set c (cntB xs b m c + 1) = cntL xs b (m + 1) := by
  apply List.ext_getElem
  · simp [cntL]
  · intro i h1 h2
    simp only [List.getElem_set, cntL, List.getElem_map, List.getElem_range, cntB_succ, h]
    by_cases e : c = i
    · subst e; simp
    · rw [if_neg e, if_neg (by simp; omega)]; simp
/-- The colours that are seen from afar. -/
def blurF (xs : List Int) (b : Nat) : Int := (bestUp (cntB xs b 4) 5 : Nat)
def blurL (xs : List Int) : List Int := (List.range 6).map (blurF xs)
theorem blurL_length (xs : List Int) : (blurL xs).length = 6 := by simp [blurL]
theorem blurF_bd (xs : List Int) (b : Nat) : 0 ≤ blurF xs b ∧ blurF xs b ≤ 5 := by
  unfold blurF; have := bestUp_le (cntB xs b 4) 5; omega
end Go.Proofs.Ytjppoejkfpeicaa
