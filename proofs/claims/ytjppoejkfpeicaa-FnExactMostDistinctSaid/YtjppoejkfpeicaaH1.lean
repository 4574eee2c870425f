/- Contracts: slices of int8: copied, compared. -/
import Derived.Test.YtjppoejkfpeicaaF1
import Derived.Test.YtjppoejkfpeicaaOwn
set_option linter.unusedVariables false
namespace Go.Proofs.Ytjppoejkfpeicaa
open Go.RowKit

/-- '.slice A xs.length c' is a slice that holds the numbers xs. -/
def Sl (k : IntKind) (w : World) (A : Option Addr) (xs : List Int) : Prop :=
  xs.length ≤ 9223372036854775807 ∧ (0 < xs.length → ∃ b o, A = some ⟨b, o, none⟩ ∧ w.rangeAt b o (xs.map (Value.int k)))
theorem range_below {w w' : World} {b o : Nat} {cs : List Value} (h : w.rangeAt b o cs) (hb : Below w.heap.size w w') : w'.rangeAt b o cs := fun j v hv => by
  have := h j v hv
  rw [hb.cell (World.block_lt_of_cell? w _ this)]; exact this
theorem Sl.kept {k : IntKind} {w w' : World} {A : Option Addr} {xs : List Int} (h : Sl k w A xs) (hb : Below w.heap.size w w') : Sl k w' A xs :=
  ⟨h.1, fun hp => by obtain ⟨b, o, e, hr⟩ := h.2 hp; exact ⟨b, o, e, range_below hr hb⟩⟩
theorem nth_ext (xs ys : List Int) (hl : xs.length = ys.length) (h : ∀ j, j < xs.length → nth xs j = nth ys j) : xs = ys := by
  apply List.ext_getElem hl
  intro i h1 h2
  rw [nth_get xs i h1, nth_get ys i h2]
  exact h i h1
theorem nth_ne {xs ys : List Int} {k : Nat} (h : (nth xs k != nth ys k) = true) : decide (xs = ys) = false := by
  rw [decide_eq_false_iff_not]; rintro rfl; simp at h

end Go.Proofs.Ytjppoejkfpeicaa
