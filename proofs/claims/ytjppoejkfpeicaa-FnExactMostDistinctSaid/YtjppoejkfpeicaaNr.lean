/- Plain facts: what the search for the nearest pair finds. -/
import Derived.Test.YtjppoejkfpeicaaG20
set_option linter.unusedVariables false
set_option linter.unusedSimpArgs false
namespace Go.Proofs.Ytjppoejkfpeicaa
open Go.RowKit

/-- The pairs looked at behind i rows and j pairs of row i. -/
def Seen (n i j x y : Nat) : Prop := x < y ∧ y < n ∧ (x < i ∨ x = i ∧ y < i + 1 + j)
/-- What is known of the state. -/
def Known (d : Nat → Nat → Int) (n i j : Nat) (s : Int × Int × Int) : Prop :=
  (s.2.2 < 0 ∧ s = none3 ∧ ∀ x y, ¬ Seen n i j x y) ∨ (0 ≤ s.2.2 ∧ (∀ x y, Seen n i j x y → s.2.2 ≤ d x y) ∧ ∃ x y, Seen n i j x y ∧ s = ((x : Int), (y : Int), d x y))
theorem known_step (d : Nat → Nat → Int) (n i j : Nat) (hd : ∀ x y, x < y → y < n → 0 ≤ d x y) (hj : i + 1 + j < n) (s : Int × Int × Int) (h : Known d n i j s) : Known d n i (j + 1) (stepN d i (i + 1 + j) s) := by
  have h0 := hd i (i + 1 + j) (by omega) hj
  have hnew : Seen n i (j + 1) i (i + 1 + j) := ⟨by omega, hj, .inr ⟨rfl, by omega⟩⟩
  have hold : ∀ x y, Seen n i (j + 1) x y → Seen n i j x y ∨ (x = i ∧ y = i + 1 + j) := by
    intro x y ⟨h1, h2, h3⟩
    by_cases e : x = i ∧ y = i + 1 + j
    · exact .inr e
    · exact .inl ⟨h1, h2, by omega⟩
  have hup : ∀ x y, Seen n i j x y → Seen n i (j + 1) x y := fun x y ⟨h1, h2, h3⟩ => ⟨h1, h2, by omega⟩
  unfold stepN
  rcases h with ⟨h1, h2, h3⟩ | ⟨h1, h2, x, y, h3, h4⟩
  · rw [if_pos (.inl h1)]
    refine .inr ⟨h0, fun a b hab => ?_, i, i + 1 + j, hnew, rfl⟩
    rcases hold a b hab with h | ⟨rfl, rfl⟩
    · exact absurd h (h3 a b)
    · exact Int.le_refl _
  · by_cases ht : d i (i + 1 + j) < s.2.2
    · rw [if_pos (.inr ht)]
      refine .inr ⟨h0, fun a b hab => ?_, i, i + 1 + j, hnew, rfl⟩
      rcases hold a b hab with h | ⟨rfl, rfl⟩
      · have := h2 a b h; show d i (i + 1 + j) ≤ d a b; omega
      · exact Int.le_refl _
    · rw [if_neg (by omega)]
      refine .inr ⟨h1, fun a b hab => ?_, x, y, hup x y h3, h4⟩
      rcases hold a b hab with h | ⟨rfl, rfl⟩
      · exact h2 a b h
      · omega
theorem known_row (d : Nat → Nat → Int) (n i : Nat) (hd : ∀ x y, x < y → y < n → 0 ≤ d x y) (s : Int × Int × Int) (h : Known d n i 0 s) : ∀ j, i + 1 + j ≤ n → Known d n i j (rowN d i j s)
  | 0, _ => h
  | j + 1, hj => known_step d n i j hd (by omega) _ (known_row d n i hd s h j (by omega))
theorem known_all (d : Nat → Nat → Int) (n : Nat) (hd : ∀ x y, x < y → y < n → 0 ≤ d x y) : ∀ i, i ≤ n → Known d n i 0 (allN d n none3 i)
  | 0, _ => .inl ⟨by show (-1 : Int) < 0; decide, rfl, fun x y ⟨h1, h2, h3⟩ => by omega⟩
  | i + 1, hi => by
    have h := known_row d n i hd _ (known_all d n hd i (by omega)) (n - (i + 1)) (by omega)
    have e : ∀ x y, Seen n (i + 1) 0 x y ↔ Seen n i (n - (i + 1)) x y := fun x y => ⟨fun ⟨h1, h2, h3⟩ => ⟨h1, h2, by omega⟩, fun ⟨h1, h2, h3⟩ => ⟨h1, h2, by omega⟩⟩
    show Known d n (i + 1) 0 (rowN d i (n - (i + 1)) (allN d n none3 i))
    rcases h with ⟨h1, h2, h3⟩ | ⟨h1, h2, x, y, h3, h4⟩
    · exact .inl ⟨h1, h2, fun x y hs => h3 x y ((e x y).1 hs)⟩
    · exact .inr ⟨h1, fun a b hs => h2 a b ((e a b).1 hs), x, y, (e x y).2 h3, h4⟩
/-- All pairs differ enough. -/
def apart (d : Nat → Nat → Int) (n : Nat) (least : Int) : Bool := (List.range n).all fun y => (List.range y).all fun x => decide (least ≤ d x y)
theorem apart_iff (d : Nat → Nat → Int) (n : Nat) (least : Int) : apart d n least = true ↔ ∀ x y, x < y → y < n → least ≤ d x y := by
  unfold apart
  simp only [List.all_eq_true, List.mem_range, decide_eq_true_eq]
  exact ⟨fun h x y hxy hy => h y hy x hxy, fun h y hy x hxy => h x y hxy hy⟩
theorem near_apart (d : Nat → Nat → Int) (n : Nat) (least : Int) (hd : ∀ x y, x < y → y < n → 0 ≤ d x y) :
    (!decide (0 ≤ (allN d n none3 n).2.2) || decide (least ≤ (allN d n none3 n).2.2)) = apart d n least := by
  rw [Bool.eq_iff_iff, apart_iff]
  simp only [Bool.or_eq_true, Bool.not_eq_true', decide_eq_false_iff_not, decide_eq_true_eq]
  rcases known_all d n hd n (Nat.le_refl _) with ⟨h1, h2, h3⟩ | ⟨h1, h2, x, y, h3, h4⟩
  · exact ⟨fun _ a b hab hb => absurd ⟨hab, hb, .inl (by omega)⟩ (h3 a b), fun _ => .inl (by omega)⟩
  · constructor
    · intro h a b hab hb
      have := h2 a b ⟨hab, hb, .inl (by omega)⟩
      omega
    · intro h
      have := h x y h3.1 h3.2.1
      rw [h4]; exact .inr this
theorem near_ok (d : Nat → Nat → Int) (n : Nat) (hd : ∀ x y, x < y → y < n → 0 ≤ d x y) : decide (0 ≤ (allN d n none3 n).2.2) = decide (2 ≤ n) := by
  rw [decide_eq_decide]
  rcases known_all d n hd n (Nat.le_refl _) with ⟨h1, h2, h3⟩ | ⟨h1, h2, x, y, h3, h4⟩
  · constructor
    · omega
    · intro h; exact absurd ⟨by omega, by omega, .inl (by omega)⟩ (h3 0 1)
  · have := h3.1; have := h3.2.1; omega
/-- It begins with the first pair as well. -/
theorem row_first (d : Nat → Nat → Int) (h0 : 0 ≤ d 0 1) : ∀ j, rowN d 0 (j + 1) none3 = rowN d 0 (j + 1) (0, 1, d 0 1)
  | 0 => by
    show stepN d 0 1 none3 = stepN d 0 1 (0, 1, d 0 1)
    unfold stepN
    rw [if_pos (.inl (by decide)), if_neg (show ¬ (d 0 1 < 0 ∨ d 0 1 < d 0 1) by omega)]
    rfl
  | j + 1 => by
    show stepN d 0 (0 + 1 + (j + 1)) (rowN d 0 (j + 1) none3) = stepN d 0 (0 + 1 + (j + 1)) (rowN d 0 (j + 1) (0, 1, d 0 1))
    rw [row_first d h0 j]
theorem all_first (d : Nat → Nat → Int) (n : Nat) (h0 : 0 ≤ d 0 1) (hn : 2 ≤ n) : ∀ i, allN d n none3 (i + 1) = allN d n (0, 1, d 0 1) (i + 1)
  | 0 => by
    show rowN d 0 (n - 1) none3 = rowN d 0 (n - 1) (0, 1, d 0 1)
    obtain ⟨m, rfl⟩ : ∃ m, n = m + 2 := ⟨n - 2, by omega⟩
    exact row_first d h0 m
  | i + 1 => by
    show rowN d (i + 1) _ (allN d n none3 (i + 1)) = rowN d (i + 1) _ (allN d n (0, 1, d 0 1) (i + 1))
    rw [all_first d n h0 hn i]
/-- From a state that is found on, the least distance stays one. -/
theorem step_pos (d : Nat → Nat → Int) (i k : Nat) (h : 0 ≤ d i k) (s : Int × Int × Int) (hs : 0 ≤ s.2.2) : 0 ≤ (stepN d i k s).2.2 := by
  unfold stepN; split
  · exact h
  · exact hs
theorem row_pos (d : Nat → Nat → Int) (n i : Nat) (hd : ∀ x y, x < y → y < n → 0 ≤ d x y) (s : Int × Int × Int) (hs : 0 ≤ s.2.2) : ∀ j, i + 1 + j ≤ n → 0 ≤ (rowN d i j s).2.2
  | 0, _ => hs
  | j + 1, hj => step_pos d i _ (hd i (i + 1 + j) (by omega) (by omega)) _ (row_pos d n i hd s hs j (by omega))
theorem all_pos (d : Nat → Nat → Int) (n : Nat) (hd : ∀ x y, x < y → y < n → 0 ≤ d x y) (s : Int × Int × Int) (hs : 0 ≤ s.2.2) : ∀ i, i ≤ n → 0 ≤ (allN d n s i).2.2
  | 0, _ => hs
  | i + 1, hi => row_pos d n i hd _ (all_pos d n hd s hs i (by omega)) _ (by omega)
end Go.Proofs.Ytjppoejkfpeicaa
