/- Contracts: valid hoists and meanings; what a hoist means; alike ones: both sides. -/
import Derived.Test.YtllplgjlpndpfaaDoorH4
import Derived.Test.YtllplgjlpndpfaaDoorF2
import Derived.Test.YtllplgjlpndpfaaDoorF5
import Derived.Test.YtllplgjlpndpfaaDoorLw
set_option linter.unusedVariables false
namespace Go.Proofs.YtllplgjlpndpfaaDoor
open Go.RowKit

theorem ValidHoist_any (xs : List Int) (A : Option Addr) (c : Nat) (w : World) (h : Sl .i8 w A xs) (rx : ∀ n ∈ xs, -128 ≤ n ∧ n ≤ 127) (hn : xs.length ≤ 1048576) :
    Calls Tryd.prog 21 #[.slice A xs.length c] w fun e w' => e = .returned (.bool (hOk xs)) ∧ Below w.heap.size w w' := by
  go_enter Tryd.func21, Tryd.ntmps21
  go_wp2_with (fail)
  refine (meaning_any xs A c _ h rx hn).mono ?_; rintro e w1 ⟨⟨v, rfl, hO⟩, hb⟩
  go_wp2_with (fail)
  go_ret
  exact ⟨rfl, hb⟩
theorem l02Ok_any (xs : List Int) (A : Option Addr) (c : Nat) (w : World) (h : Sl .i8 w A xs) (rx : ∀ n ∈ xs, -128 ≤ n ∧ n ≤ 127) :
    Calls Tryd.prog 19 #[.slice A xs.length c] w fun e w' => e = .returned (.bool (hOk xs)) ∧ Below w.heap.size w w' := by
  go_enter Tryd.func19, Tryd.ntmps19
  go_wp2_with (fail)
  refine (l02Read_any xs A c _ h rx).mono ?_; rintro e w1 ⟨⟨v, rfl, hO⟩, hb⟩
  go_wp2_with (fail)
  go_ret
  exact ⟨rfl, hb⟩
theorem any_isMn (xs : List Int) : (!anyBelow (fun k => !isMn (nth xs k)) xs.length) = xs.all isMn := by
  unfold anyBelow
  rw [Bool.eq_iff_iff]
  simp only [Bool.not_eq_true', List.any_eq_false, List.all_eq_true, List.mem_range]
  constructor
  · intro h x hx
    obtain ⟨i, hi, rfl⟩ := List.mem_iff_getElem.1 hx
    rw [nth_get xs i hi]
    simpa using h i hi
  · intro h i hi
    simpa using h _ (nth_mem xs i hi)
/-- A slice of numbers of its own, and a code. -/
def Gave (t : TypeId) (ys : List Value) (cc : Int) (base : Nat) (e : Ending) (w' : World) : Prop := ∃ v, e = .returned (.tuple #[v, .int .i64 cc]) ∧ Own w' base t v ys
/-- Two hoists mean the same; the code. -/
def alikeB (xs ys : List Int) : Bool := hOk xs && hOk ys && decide (hMean xs = hMean ys)
def alikeC (xs ys : List Int) : Int := codeV (hOk xs && hOk ys)
end Go.Proofs.YtllplgjlpndpfaaDoor
