/- Contracts: impl.firstOf of two codes; PaintCell, both sides. -/
import Derived.Test.YtjppoejkfpeicaaG4
import Derived.Test.YtjppoejkfpeicaaF7
set_option linter.unusedVariables false
set_option linter.unusedSimpArgs false
namespace Go.Proofs.Ytjppoejkfpeicaa
open Go.RowKit

/-- The first code that is not 0. -/
def first2 (a b : Int) : Int := if a = 0 then b else a
theorem firstOf2_any (a b : Int) (B o c : Nat) (w : World) (hr : w.rangeAt B o (i64s [a, b])) :
    Calls Try.prog 51 #[.slice (some ⟨B, o, none⟩) 2 c] w fun e w' => e = .returned (.int .i64 (first2 a b)) ∧ w = w' := by
  have c0 : w.cell? ⟨B, o + 0, none⟩ = some (.int .i64 a) := hr 0 _ rfl
  have c1 : w.cell? ⟨B, o + 1, none⟩ = some (.int .i64 b) := hr 1 _ rfl
  rw [Nat.add_zero] at c0
  have hF := As.mk (show first2 a b = if a = 0 then b else a from rfl)
  go_enter Try.func51, Try.ntmps51
  go_wp2
  go_loop [7] (fun i => i = .int .i64 0 ∨ i = .int .i64 1 ∧ As (a = 0) ∨ i = .int .i64 2 ∧ As (a = 0) ∧ As (b = 0)) (fun i => 2 - (intOf i).toNat)
  case atStart => exact .inl rfl
  case round =>
    rcases hrel with rfl | ⟨rfl, h⟩ | ⟨rfl, h, h'⟩
    · by_cases ha : a = 0
      · have ha' : (a != 0) = false := by simp [ha]
        go_wp2
        go_round
        case rel => exact .inr (.inl ⟨rfl, ⟨ha⟩⟩)
        case measure => simp [intOf]
      · have ha' : (a != 0) = true := by simp [ha]
        go_wp2
        go_ret
        exact ⟨ret_n (by rw [hF.out, if_neg ha]), rfl⟩
    · by_cases hb : b = 0
      · have hb' : (b != 0) = false := by simp [hb]
        go_wp2
        go_round
        case rel => exact .inr (.inr ⟨rfl, h, ⟨hb⟩⟩)
        case measure => simp [intOf]
      · have hb' : (b != 0) = true := by simp [hb]
        go_wp2
        go_ret
        exact ⟨ret_n (by rw [hF.out, if_pos h.out]), rfl⟩
    · go_wp2
      go_ret
      exact ⟨ret_n (by rw [hF.out, if_pos h.out, h'.out]), rfl⟩

def paintOk (xs : List Int) (x y c : Int) : Bool := vf xs && ((inR x 0 5 && inR y 0 3) && inR c 0 5)
def paintL (xs : List Int) (x y c : Int) : List Int := okF (paintOk xs x y c) (xs.set (x + 6 * y).toNat c)
def paintC (xs : List Int) (x y c : Int) : Int := if vf xs then codeR ((inR x 0 5 && inR y 0 3) && inR c 0 5) else 1
theorem paintL_length (xs : List Int) (x y c : Int) (hx : xs.length = 24) : (paintL xs x y c).length = 24 := okF_length (by rw [List.length_set]; exact hx)
theorem first2_paint (xs : List Int) (x y c : Int) : first2 (cellC xs x y) (if inR c 0 5 then 0 else 2) = paintC xs x y c := by
  unfold first2 cellC paintC codeR
  cases vf xs <;> cases (inR x 0 5 && inR y 0 3) <;> cases inR c 0 5 <;> rfl

end Go.Proofs.Ytjppoejkfpeicaa
