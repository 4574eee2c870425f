/- Contracts: CellOf and what it calls: both sides. -/
import Derived.Test.YtbekebjmnccbkaaF5
set_option linter.unusedVariables false
namespace Go.Proofs.Ytbekebjmnccbkaa
open Go.RowKit

def Bytes (xs : List Int) : Prop := ∀ x ∈ xs, 0 ≤ x ∧ x ≤ 255
theorem Bytes.nth {xs : List Int} (h : Bytes xs) (i : Nat) : 0 ≤ nth xs i ∧ nth xs i ≤ 255 := by
  rcases Nat.lt_or_ge i xs.length with hi | hi
  · exact h _ (nth_mem xs i hi)
  · rw [nth_out xs i hi]; omega

theorem unless_any (b : Bool) (c : Int) (w : World) : Calls Try.prog 61 #[.bool b, .int .i64 c] w fun e w' => e = .returned (.int .i64 (if b then 0 else c)) ∧ w = w' := by
  cases b
  all_goals
    go_enter Try.func61, Try.ntmps61
    go_wp2
    go_ret
    exact ⟨rfl, rfl⟩

/-- The code of a flag and a cell. -/
def cellC (xs : List Int) (x y : Int) : Int := if vf xs then (if inR x 0 5 && inR y 0 3 then 0 else 2) else 1
def cellN (xs : List Int) (x y : Int) : Int := if vf xs && (inR x 0 5 && inR y 0 3) then nth xs (x + 6 * y).toNat else 0

set_option maxHeartbeats 800000 in
theorem cellCode_any (xs : List Int) (hx : xs.length = 24) (x y : Int) (w : World) :
    Calls Try.prog 60 #[fl xs, .int .i64 x, .int .i64 y] w fun e w' => e = .returned (.int .i64 (cellC xs x y)) ∧ Below w.heap.size w w' := by
  unfold fl
  have B0 := Blk.new w (u8s xs) 23
  have b0 := bl_new (Below.refl _ w) (.cells (u8s xs).toArray 23)
  have hN := As.mk (show cellC xs x y = if vf xs then (if inR x 0 5 && inR y 0 3 then 0 else 2) else 1 from rfl)
  cases h1 : vf xs
  · go_enter Try.func60, Try.ntmps60
    go_wp2_with (refine load_blk rfl 23 _ rfl _ rfl B0 Try.underlying23 rfl info_fl (by rw [u8s_length]; exact hx) ?_)
    refine (ValidFlag_any xs hx _).mono ?_; rintro e w1 ⟨rfl, hb1⟩
    go_wp2_with (fail)
    go_ret
    exact ⟨ret_n (by rw [hN.out, h1]; rfl), bl_call b0 hb1⟩
  · cases h2 : inR x 0 5
    · go_enter Try.func60, Try.ntmps60
      go_wp2_with (refine load_blk rfl 23 _ rfl _ rfl B0 Try.underlying23 rfl info_fl (by rw [u8s_length]; exact hx) ?_)
      refine (ValidFlag_any xs hx _).mono ?_; rintro e w1 ⟨rfl, hb1⟩
      go_wp2_with (first | (go_at_call 66; refine (within_any _ _ _ _).mono ?_; rintro e w' ⟨rfl, rfl⟩) | (go_at_call 61; refine (unless_any _ _ _).mono ?_; rintro e w' ⟨rfl, rfl⟩))
      go_ret
      exact ⟨ret_n (by rw [hN.out, h1, h2]; rfl), bl_call b0 hb1⟩
    · cases h3 : inR y 0 3
      all_goals
        go_enter Try.func60, Try.ntmps60
        go_wp2_with (refine load_blk rfl 23 _ rfl _ rfl B0 Try.underlying23 rfl info_fl (by rw [u8s_length]; exact hx) ?_)
        refine (ValidFlag_any xs hx _).mono ?_; rintro e w1 ⟨rfl, hb1⟩
        go_wp2_with (first | (go_at_call 66; refine (within_any _ _ _ _).mono ?_; rintro e w' ⟨rfl, rfl⟩) | (go_at_call 61; refine (unless_any _ _ _).mono ?_; rintro e w' ⟨rfl, rfl⟩))
        go_ret
        exact ⟨ret_n (by rw [hN.out, h1, h2, h3]; rfl), bl_call b0 hb1⟩

theorem l01Cell_any (x y : Int) (w : World) : Calls Try.prog 57 #[.int .i64 x, .int .i64 y] w fun e w' => e = .returned (.bool (inR x 0 5 && inR y 0 3)) ∧ w = w' := by
  cases h2 : inR x 0 5 <;> cases h3 : inR y 0 3
  all_goals
    go_enter Try.func57, Try.ntmps57
    go_wp2_with (go_at_call 65; refine (l00In_any _ _ _ _).mono ?_; rintro e w' ⟨rfl, rfl⟩)
    go_ret
    exact ⟨rfl, rfl⟩
theorem l01Index_any (x y : Int) (hx : 0 ≤ x ∧ x ≤ 5) (hy : 0 ≤ y ∧ y ≤ 3) (w : World) : Calls Try.prog 58 #[.int .i64 x, .int .i64 y] w fun e w' => e = .returned (.int .i64 (x + 6 * y)) ∧ w = w' := by
  have h1 := hx.1; have h2 := hx.2; have h3 := hy.1; have h4 := hy.2
  go_enter Try.func58, Try.ntmps58
  go_wp2
  go_ret
  exact ⟨rfl, rfl⟩

end Go.Proofs.Ytbekebjmnccbkaa
