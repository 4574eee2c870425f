import Derived.Test.YtlgpelcnhdalpaaH2
set_option linter.unusedVariables false
namespace Go.Proofs.Ytlgpelcnhdalpaa
open Go.RowKit
set_option maxHeartbeats 1000000 in
theorem walk_FnExactSameHoist (w : World) (A : Option Addr) (xs : List Int) (c : Nat) (sx : Sl .i8 w A xs) (rx : ∀ n ∈ xs, -128 ≤ n ∧ n ≤ 127) (A' : Option Addr) (ys : List Int) (c' : Nat) (sy : Sl .i8 w A' ys) (ry : ∀ n ∈ ys, -128 ≤ n ∧ n ≤ 127) :
    Calls Try.prog 7 #[.slice A xs.length c, .slice A' ys.length c'] w fun e w' => e = .returned (.bool true) ∧ Below w.heap.size w w' := by
  have hx9 := sx.1
  have hy9 := sy.1
  by_cases h1 : xs.length ≤ 1048576
  · by_cases h2 : ys.length ≤ 1048576
    · have h1' : (xs.length : Int) ≤ 1048576 := by omega
      have h2' : (ys.length : Int) ≤ 1048576 := by omega
      go_enter Try.func7, Try.ntmps7
      go_wp2_with (fail)
      refine (toHoist_any xs A c _ sx h1).mono ?_; rintro e w1 ⟨rfl, X1, hb1⟩
      have sy1 := sy.kept hb1
      go_wp2_with (fail)
      refine (toHoist_any ys A' c' _ sy1 h2).mono ?_; rintro e w2 ⟨rfl, Y2, hb2⟩
      have X2 := X1.kept hb2
      have b2 := bl_call hb1 hb2
      go_wp2_with (fail)
      refine (sSameHoist_any xs ys _ _ _ _ _ (X2.sl hx9) (Y2.sl hy9)).mono ?_; rintro e w3 ⟨rfl, hb3⟩
      have b3 := bl_call b2 hb3
      have sx3 := sx.kept b3
      go_wp2_with (fail)
      refine (toHoist_any xs A c _ sx3 h1).mono ?_; rintro e w4 ⟨rfl, X4, hb4⟩
      have b4 := bl_call b3 hb4
      have sy4 := sy.kept b4
      go_wp2_with (fail)
      refine (toHoist_any ys A' c' _ sy4 h2).mono ?_; rintro e w5 ⟨rfl, Y5, hb5⟩
      have b5 := bl_call b4 hb5
      have X5 := X4.kept hb5
      go_wp2_with (fail)
      refine (SameHoist_any xs ys _ _ _ _ _ (X5.sl hx9) (Y5.sl hy9)).mono ?_; rintro e w6 ⟨rfl, hb6⟩
      have b6 := bl_call b5 hb6
      have sx6 := sx.kept b6
      have X6 := X5.kept hb6
      have Y6 := Y5.kept hb6
      go_wp2_with (fail)
      refine (toHoist_any xs A c _ sx6 h1).mono ?_; rintro e w7 ⟨rfl, X7, hb7⟩
      have b7 := bl_call b6 hb7
      have W7 := X6.kept hb7
      have Y7 := Y6.kept hb7
      go_wp2_with (fail)
      refine (eqHoist_any xs xs _ _ _ _ _ (W7.sl hx9) (X7.sl hx9)).mono ?_; rintro e w8 ⟨rfl, hb8⟩
      have b8 := bl_call b7 hb8
      have sy8 := sy.kept b8
      have Y8 := Y7.kept hb8
      go_wp2_with (fail)
      refine (toHoist_any ys A' c' _ sy8 h2).mono ?_; rintro e w9 ⟨rfl, Z9, hb9⟩
      have b9 := bl_call b8 hb9
      have Y9 := Y8.kept hb9
      go_wp2_with (fail)
      refine (eqHoist_any ys ys _ _ _ _ _ (Y9.sl hy9) (Z9.sl hy9)).mono ?_; rintro e wa ⟨rfl, hba⟩
      go_wp2_with (fail)
      go_ret
      exact ⟨rfl, bl_call b9 hba⟩
    · have h1' : (xs.length : Int) ≤ 1048576 := by omega
      have h2' : (1048576 : Int) < (ys.length : Int) := by omega
      go_enter Try.func7, Try.ntmps7
      go_wp2_with (fail)
      go_ret
      exact ⟨rfl, Below.refl _ _⟩
  · have h1' : (1048576 : Int) < (xs.length : Int) := by omega
    go_enter Try.func7, Try.ntmps7
    go_wp2_with (fail)
    go_ret
    exact ⟨rfl, Below.refl _ _⟩
end Go.Proofs.Ytlgpelcnhdalpaa
