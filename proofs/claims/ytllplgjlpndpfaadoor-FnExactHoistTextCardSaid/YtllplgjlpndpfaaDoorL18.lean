/- Walk: the law of HoistText. (Printed by genlaw.py.) -/
import Derived.Test.YtllplgjlpndpfaaDoorHt
import Derived.Test.YtllplgjlpndpfaaDoorLs
set_option linter.unusedVariables false
namespace Go.Proofs.YtllplgjlpndpfaaDoor
open Go.RowKit

set_option maxHeartbeats 2000000 in
theorem walk_FnExactHoistText (w : World) (A0 : Option Addr) (x0 : List Int) (c0 : Nat) (s0 : Sl .i8 w A0 x0) (r0 : ∀ n ∈ x0, -128 ≤ n ∧ n ≤ 127) :
    Calls Tryd.prog 4 #[.slice A0 x0.length c0] w fun e w' => e = .returned (.bool true) ∧ Below w.heap.size w w' := by
  have z0 := s0.1
  by_cases h0 : x0.length ≤ 1048576
  · have h0' : ((x0.length : Nat) : Int) ≤ 1048576 := by omega
    have k1 := fun W A c h => sHoistText_any x0 A c W h r0
    have k2 := fun W A c h => HoistText_any x0 A c W h r0 h0
    generalize hoistS x0 = vs at *
    go_enter Tryd.func4, Tryd.ntmps4
    go_wp2_with (fail)
    refine (toHoist_any x0 A0 c0 _ s0 h0).mono ?_; rintro e w1 ⟨rfl, P0, hb1⟩
    have b1 := hb1
    go_wp2_with (fail)
    refine (k1 _ _ _ (P0.sl z0)).mono ?_; rintro e w2 ⟨rfl, hb2⟩
    have b2 := bl_call b1 hb2
    replace P0 := P0.kept hb2
    clear P0
    go_wp2_with (fail)
    refine (toHoist_any x0 A0 c0 _ (s0.kept b2) h0).mono ?_; rintro e w3 ⟨rfl, X0, hb3⟩
    have b3 := bl_call b2 hb3
    go_wp2_with (fail)
    refine (k2 _ _ _ (X0.sl z0)).mono ?_; rintro e w4 ⟨rfl, hb4⟩
    have b4 := bl_call b3 hb4
    replace X0 := X0.kept hb4
    go_wp2_with (fail)
    refine (toHoist_any x0 A0 c0 _ (s0.kept b4) h0).mono ?_; rintro e w5 ⟨rfl, Y0, hb5⟩
    have b5 := bl_call b4 hb5
    replace X0 := X0.kept hb5
    go_wp2_with (fail)
    refine (eqHoist_any x0 x0 _ _ _ _ _ (X0.sl z0) (Y0.sl z0)).mono ?_; rintro e w6 ⟨rfl, hb6⟩
    have b6 := bl_call b5 hb6
    replace X0 := X0.kept hb6
    replace Y0 := Y0.kept hb6
    clear Y0
    go_wp2_with (fail)
    go_ret
    exact ⟨by simp, b6⟩
  · have h0' : (1048576 : Int) < ((x0.length : Nat) : Int) := by omega
    go_enter Tryd.func4, Tryd.ntmps4
    go_wp2_with (fail)
    go_ret
    exact ⟨rfl, Below.refl _ _⟩
end Go.Proofs.YtllplgjlpndpfaaDoor
