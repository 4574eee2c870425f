/- Walk: the law of SpellWord. (Printed by genlaw.py.) -/
import Derived.Test.YtllplgjlpndpfaaDoorSp
import Derived.Test.YtllplgjlpndpfaaDoorLs
set_option linter.unusedVariables false
namespace Go.Proofs.YtllplgjlpndpfaaDoor
open Go.RowKit

set_option maxHeartbeats 2000000 in
theorem walk_FnExactSpellWord (x0 : ByteArray) (r0 : x0.size ≤ maxLen) (x1 : Int) (r1 : -9223372036854775808 ≤ x1 ∧ x1 ≤ 9223372036854775807) (w : World) :
    Calls Tryd.prog 3 #[.string x0, .int .i64 x1] w fun e w' => e = .returned (.bool true) ∧ Below w.heap.size w w' := by
  by_cases h0 : x0.size ≤ 1048576
  · have h0' : ((x0.size : Nat) : Int) ≤ 1048576 := by omega
    have k1 := fun W => sSpellWord_any x0 x1 h0 W
    have k2 := fun W => SpellWord_any x0 x1 h0 W
    have hl := spL_le x0 x1
    generalize spL x0 x1 = ys at *
    generalize spC x0 x1 = vc at *
    go_enter Tryd.func3, Tryd.ntmps3
    go_wp2_with (fail)
    refine (k1 _ ).mono ?_; rintro e w1 ⟨⟨v1, rfl, O1⟩, hb1⟩
    have b1 := hb1
    obtain ⟨B1, d1, rfl, S1⟩ := O1.sl
    clear O1
    go_wp2_with (fail)
    refine (k2 _ ).mono ?_; rintro e w2 ⟨⟨v2, rfl, O2⟩, hb2⟩
    have b2 := bl_call b1 hb2
    have q2 := hb2
    obtain ⟨B2, d2, rfl, S2⟩ := O2.sl
    clear S2
    go_wp2_with (fail)
    refine (eqMeaning_any _ _ _ _ _ _ _ O2.sl' (S1.kept q2)).mono ?_; rintro e w3 ⟨rfl, hb3⟩
    have b3 := bl_call b2 hb3
    have q3 := bl_call q2 hb3
    replace O2 := O2.kept hb3
    go_wp2_with (fail)
    refine (markMeaning_any _ _ _ 1 (by omega) (by omega) _ O2).mono ?_; rintro e w4 ⟨rfl, M, g4⟩
    have b4 := bl_grown b3 b3.size O2 g4 b1.size
    have q4 := bl_grown q3 q3.size O2 g4 (Nat.le_refl _)
    clear O2
    have mm : ¬ ((1 : Int) + (ys.length : Int) < 0) := by omega
    go_wp2_with (fail)
    refine (heldMeaning_any _ _ _ 1 (by omega) (by omega) _ M.slN).mono ?_; rintro e w5 ⟨rfl, hb5⟩
    have b5 := bl_call b4 hb5
    have q5 := bl_call q4 hb5
    replace M := M.kept hb5
    go_wp2_with (fail)
    refine (k2 _ ).mono ?_; rintro e w6 ⟨⟨v3, rfl, O3⟩, hb6⟩
    have b6 := bl_call b5 hb6
    have q6 := bl_call q5 hb6
    replace M := M.kept hb6
    obtain ⟨B3, d3, rfl, S3⟩ := O3.sl
    go_wp2_with (fail)
    refine (eqMeaning_any _ _ _ _ _ _ _ S3 (S1.kept q6)).mono ?_; rintro e w7 ⟨rfl, hb7⟩
    have b7 := bl_call b6 hb7
    have q7 := bl_call q6 hb7
    replace M := M.kept hb7
    go_wp2_with (fail)
    refine (heldMeaning_any _ _ _ 1 (by omega) (by omega) _ M.slN).mono ?_; rintro e w8 ⟨rfl, hb8⟩
    have b8 := bl_call b7 hb8
    have q8 := bl_call q7 hb8
    replace M := M.kept hb8
    go_wp2_with (fail)
    go_ret
    exact ⟨by simp, b8⟩
  · have h0' : (1048576 : Int) < ((x0.size : Nat) : Int) := by omega
    go_enter Tryd.func3, Tryd.ntmps3
    go_wp2_with (fail)
    go_ret
    exact ⟨rfl, Below.refl _ _⟩
end Go.Proofs.YtllplgjlpndpfaaDoor
