/- Contracts: MeaningIf: both sides. -/
import Derived.Test.YtnokdbnlagoidaaH5
import Derived.Test.YtnokdbnlagoidaaOn
import Derived.Test.YtnokdbnlagoidaaLs
import Derived.Test.YtnokdbnlagoidaaF7
set_option linter.unusedVariables false
namespace Go.Proofs.Ytnokdbnlagoidaa
open Go.RowKit

set_option maxRecDepth 100000 in
set_option maxHeartbeats 400000 in
theorem CloneH_any (xs : List Int) (b o c : Nat) (w : World) (hr : w.rangeAt b o (i8s xs)) (hn : xs.length ≤ 1048576) :
    Calls Try.prog 92 #[.slice (some ⟨b, o, none⟩) xs.length c] w fun e w' => (∃ v, e = .returned v ∧ Own w' w.heap.size 42 v (i8s xs)) ∧ Below w.heap.size w w' := by
  have hO := Own.lit w w.heap.size 42 [] (Nat.le_refl _) (by simp)
  have hb := bl_new (Below.refl _ w) (.cells #[] 42)
  have hr' : (w.alloc (.cells #[] 42)).rangeAt b o (i8s xs) := range_below hr hb
  have he : ∀ W : World, (binOp .eql 23 (.slice (some ⟨b, o, none⟩) xs.length c) (.slice none 0 0)).run Try.prog W = .ok (.bool false) W := fun _ => rfl
  go_enter Try.func92, Try.ntmps92
  go_wp2_with (at_builtin; refine appN (w0 := w) (w.heap.size) rfl (.tmp 5) (.tmp 6) 23 42 (.int .i8 0) 1 rfl Try.underlying23 info_i8 rfl (by omega) (.slice (some ⟨w.heap.size, 0, none⟩) 0 0) ([]) (i8s xs) b o c xs.length rfl rfl (i8s_length _) (i8s_one _) hO hr' hb hb.size (by simp; omega) ?_)
  intro v1 w1 hO1 hb1 _ _
  go_wp2_with (fail)
  go_ret
  exact ⟨⟨_, rfl, hO1⟩, hb1⟩

/-- The code of a hoist, a place with a flag, and a kind; what would be read. -/
def placeC (xs : List Int) (i x : Int) : Int := if hOk xs then (if inR i 0 ((xs.length : Int) - 1) && inR x 0 39 then (if decide (0 ≤ nth xs i.toNat) then 0 else 4) else 2) else 1
def ifL (xs : List Int) (i x : Int) : List Int := if placeC xs i x = 0 then hMean (xs.set i.toNat x) else []
theorem place_zero {xs : List Int} {i x : Int} (h : placeC xs i x = 0) : hOk xs = true ∧ inR i 0 ((xs.length : Int) - 1) = true ∧ inR x 0 39 = true ∧ 0 ≤ nth xs i.toNat := by
  unfold placeC at h
  split at h
  · rename_i h1
    split at h
    · rename_i h2
      simp only [Bool.and_eq_true] at h2
      split at h
      · rename_i h3
        exact ⟨h1, h2.1, h2.2, by simpa using h3⟩
      · omega
    · omega
  · omega
theorem place_ok {xs : List Int} {i x : Int} (h : placeC xs i x = 0) : hOk (xs.set i.toNat x) = true := by
  obtain ⟨h1, h2, h3, h4⟩ := place_zero h
  rw [inR_iff] at h2 h3
  exact hOk_changed h1 _ (by omega) h4 _ h3
theorem ifL_bad {xs : List Int} {i x : Int} (h : ¬ placeC xs i x = 0) : ifL xs i x = [] := by unfold ifL; rw [if_neg h]
theorem ifL_ok {xs : List Int} {i x : Int} (h : placeC xs i x = 0) : ifL xs i x = hMean (xs.set i.toNat x) := by unfold ifL; rw [if_pos h]
theorem ifL_le (xs : List Int) (i x : Int) : (ifL xs i x).length ≤ 8 := by
  unfold ifL; split
  · exact hMean_le _
  · simp
theorem ifL_len {xs : List Int} {i x : Int} (h : placeC xs i x = 0) : (ifL xs i x).length = xs.length := by
  rw [ifL_ok h, hMean_length (place_ok h), List.length_set]
theorem set_bd {xs : List Int} {i : Nat} {x : Int} (rx : ∀ n ∈ xs, -128 ≤ n ∧ n ≤ 127) (hx : inR x 0 39 = true) : ∀ n ∈ xs.set i x, -128 ≤ n ∧ n ≤ 127 := by
  intro n hn
  rw [inR_iff] at hx
  rcases List.mem_or_eq_of_mem_set hn with h | rfl
  · exact rx n h
  · omega

end Go.Proofs.Ytnokdbnlagoidaa
