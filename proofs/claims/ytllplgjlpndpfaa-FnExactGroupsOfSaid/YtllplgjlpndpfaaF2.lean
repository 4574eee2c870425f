/- Contracts: slices.IndexFunc and ContainsFunc over bytes; both ValidFlag. -/
import Derived.Test.YtllplgjlpndpfaaF1
import Derived.Test.YtllplgjlpndpfaaT1
set_option linter.unusedVariables false
namespace Go.Proofs.Ytllplgjlpndpfaa
open Go.RowKit

/-- What slices.IndexFunc asks of its function, a closure of function g with captured lb: at element k, in whatever later world. -/
def Pred (g : Nat) (lb : Array Value) (el : Nat → Value) (n : Nat) (p : Nat → Bool) (w : World) : Prop :=
  ∀ (W : World) (k : Nat), k < n → Below w.heap.size w W → Calls Try.prog g (#[el k] ++ lb) W fun e w' => e = .returned (.bool (p k)) ∧ Below W.heap.size W w'

/-- The first k < n with p k, as an int; -1. -/
def firstIdx (p : Nat → Bool) : Nat → Nat → Int
  | 0, _ => -1
  | n + 1, k => if p k then (k : Int) else firstIdx p n (k + 1)
theorem firstIdx_hit (p : Nat → Bool) : ∀ (n k j : Nat), j < n → (∀ i, i < j → p (k + i) = false) → p (k + j) = true → firstIdx p n k = ((k + j : Nat) : Int)
  | 0, _, _, h, _, _ => by omega
  | n + 1, k, j, h, hf, ht => by
    unfold firstIdx
    rcases Nat.eq_zero_or_pos j with rfl | hj
    · rw [if_pos (by simpa using ht)]; simp
    · rw [if_neg (by simpa using hf 0 hj)]
      have := firstIdx_hit p n (k + 1) (j - 1) (by omega) (fun i hi => by have := hf (i + 1) (by omega); rwa [show k + (i + 1) = k + 1 + i by omega] at this) (by rwa [show k + 1 + (j - 1) = k + j by omega])
      rw [this]; congr 1; omega
theorem firstIdx_miss (p : Nat → Bool) : ∀ (n k : Nat), (∀ i, i < n → p (k + i) = false) → firstIdx p n k = -1
  | 0, _, _ => rfl
  | n + 1, k, hf => by
    unfold firstIdx
    rw [if_neg (by simpa using hf 0 (by omega))]
    exact firstIdx_miss p n (k + 1) (fun i hi => by have := hf (i + 1) (by omega); rwa [show k + (i + 1) = k + 1 + i by omega] at this)
/-- Is there a k < n with p k? -/
def anyBelow (p : Nat → Bool) (n : Nat) : Bool := (List.range n).any p
theorem firstIdx_nonneg (p : Nat → Bool) (n : Nat) : decide (0 ≤ firstIdx p n 0) = anyBelow p n := by
  unfold anyBelow
  cases h : (List.range n).any p with
  | false =>
    rw [firstIdx_miss p n 0 (fun i hi => by
      rw [List.any_eq_false] at h
      simpa using h i (List.mem_range.2 hi))]
    rfl
  | true =>
    rw [List.any_eq_true] at h
    obtain ⟨i, hi, hp⟩ := h
    rw [List.mem_range] at hi
    have key : ∀ m, m ≤ n → (∀ i, i < m → p i = false) ∨ ∃ j, j < m ∧ (∀ i, i < j → p i = false) ∧ p j = true := by
      intro m
      induction m with
      | zero => intro _; exact .inl (fun i hi => by omega)
      | succ m ih =>
        intro hm
        rcases ih (by omega) with h | ⟨j, hj, h1, h2⟩
        · cases hpm : p m with
          | false => exact .inl (all_succ h hpm)
          | true => exact .inr ⟨m, by omega, h, hpm⟩
        · exact .inr ⟨j, by omega, h1, h2⟩
    rcases key n (Nat.le_refl _) with h | ⟨j, hj, h1, h2⟩
    · rw [h i hi] at hp; cases hp
    · rw [firstIdx_hit p n 0 j hj (by simpa using h1) (by simpa using h2)]
      simp

theorem any_vf (xs : List Int) : (!anyBelow (fun k => decide (6 ≤ nth xs k)) xs.length) = vf xs := by
  unfold anyBelow vf
  rw [Bool.eq_iff_iff]
  simp only [Bool.not_eq_true', List.any_eq_false, List.all_eq_true, decide_eq_true_eq, List.mem_range]
  constructor
  · intro h x hx
    obtain ⟨i, hi, rfl⟩ := List.mem_iff_getElem.1 hx
    rw [nth_get xs i hi]
    have := h i hi
    omega
  · intro h i hi
    have := h _ (nth_mem xs i hi)
    omega

end Go.Proofs.Ytllplgjlpndpfaa
