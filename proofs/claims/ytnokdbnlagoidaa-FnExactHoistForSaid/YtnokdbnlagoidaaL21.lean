/- Walks: the laws of HoistFor, LeastSets, WaysToHoist. (Printed by genlaw.py.) -/
import Derived.Test.YtnokdbnlagoidaaHf
import Derived.Test.YtnokdbnlagoidaaLs
set_option linter.unusedVariables false
namespace Go.Proofs.Ytnokdbnlagoidaa
open Go.RowKit

set_option maxHeartbeats 2000000 in
theorem walk_FnExactWaysToHoist (w : World) (A0 : Option Addr) (x0 : List Int) (c0 : Nat) (s0 : Sl .i8 w A0 x0) (r0 : ∀ n ∈ x0, -128 ≤ n ∧ n ≤ 127) (x1 : Int) (r1 : -9223372036854775808 ≤ x1 ∧ x1 ≤ 9223372036854775807) (x2 : Int) (r2 : -9223372036854775808 ≤ x2 ∧ x2 ≤ 9223372036854775807) :
    Calls Try.prog 5 #[.slice A0 x0.length c0, .int .i64 x1, .int .i64 x2] w fun e w' => e = .returned (.bool true) ∧ Below w.heap.size w w' := by
  have z0 := s0.1
  by_cases h0 : x0.length ≤ 1048576
  · have h0' : ((x0.length : Nat) : Int) ≤ 1048576 := by omega
    have k1 := fun W A c h => sWaysToHoist_any x0 r0 A c x1 x2 W h
    have k2 := fun W A c h => WaysToHoist_any x0 r0 h0 A c x1 x2 W h
    generalize waysN x0 x1 x2 = va at *
    generalize askC x0 x1 x2 = vc at *
    go_enter Try.func5, Try.ntmps5
    go_wp2_with (fail)
    refine (toMeaning_any x0 A0 c0 _ s0 h0).mono ?_; rintro e w1 ⟨rfl, P0, hb1⟩
    have b1 := hb1
    go_wp2_with (fail)
    refine (k1 _ _ _ (P0.sl z0)).mono ?_; rintro e w2 ⟨rfl, hb2⟩
    have b2 := bl_call b1 hb2
    replace P0 := P0.kept hb2
    clear P0
    go_wp2_with (fail)
    refine (toMeaning_any x0 A0 c0 _ (s0.kept b2) h0).mono ?_; rintro e w3 ⟨rfl, X0, hb3⟩
    have b3 := bl_call b2 hb3
    go_wp2_with (fail)
    refine (k2 _ _ _ (X0.sl z0)).mono ?_; rintro e w4 ⟨rfl, hb4⟩
    have b4 := bl_call b3 hb4
    replace X0 := X0.kept hb4
    go_wp2_with (fail)
    refine (toMeaning_any x0 A0 c0 _ (s0.kept b4) h0).mono ?_; rintro e w5 ⟨rfl, Y0, hb5⟩
    have b5 := bl_call b4 hb5
    replace X0 := X0.kept hb5
    go_wp2_with (fail)
    refine (eqMeaning_any x0 x0 _ _ _ _ _ (X0.sl z0) (Y0.sl z0)).mono ?_; rintro e w6 ⟨rfl, hb6⟩
    have b6 := bl_call b5 hb6
    replace X0 := X0.kept hb6
    replace Y0 := Y0.kept hb6
    clear Y0
    go_wp2_with (fail)
    go_ret
    exact ⟨by simp, b6⟩
  · have h0' : (1048576 : Int) < ((x0.length : Nat) : Int) := by omega
    go_enter Try.func5, Try.ntmps5
    go_wp2_with (fail)
    go_ret
    exact ⟨rfl, Below.refl _ _⟩

set_option maxHeartbeats 2000000 in
theorem walk_FnExactLeastSets (w : World) (A0 : Option Addr) (x0 : List Int) (c0 : Nat) (s0 : Sl .i8 w A0 x0) (r0 : ∀ n ∈ x0, -128 ≤ n ∧ n ≤ 127) (x1 : Int) (r1 : -9223372036854775808 ≤ x1 ∧ x1 ≤ 9223372036854775807) :
    Calls Try.prog 4 #[.slice A0 x0.length c0, .int .i64 x1] w fun e w' => e = .returned (.bool true) ∧ Below w.heap.size w w' := by
  have z0 := s0.1
  by_cases h0 : x0.length ≤ 1048576
  · have h0' : ((x0.length : Nat) : Int) ≤ 1048576 := by omega
    have k1 := fun W A c h => sLeastSets_any x0 r0 A c x1 W h
    have k2 := fun W A c h => LeastSets_any x0 r0 h0 A c x1 W h
    generalize leastN x0 x1 = va at *
    generalize askC x0 1 x1 = vc at *
    go_enter Try.func4, Try.ntmps4
    go_wp2_with (fail)
    refine (toMeaning_any x0 A0 c0 _ s0 h0).mono ?_; rintro e w1 ⟨rfl, P0, hb1⟩
    have b1 := hb1
    go_wp2_with (fail)
    refine (k1 _ _ _ (P0.sl z0)).mono ?_; rintro e w2 ⟨rfl, hb2⟩
    have b2 := bl_call b1 hb2
    replace P0 := P0.kept hb2
    clear P0
    go_wp2_with (fail)
    refine (toMeaning_any x0 A0 c0 _ (s0.kept b2) h0).mono ?_; rintro e w3 ⟨rfl, X0, hb3⟩
    have b3 := bl_call b2 hb3
    go_wp2_with (fail)
    refine (k2 _ _ _ (X0.sl z0)).mono ?_; rintro e w4 ⟨rfl, hb4⟩
    have b4 := bl_call b3 hb4
    replace X0 := X0.kept hb4
    go_wp2_with (fail)
    refine (toMeaning_any x0 A0 c0 _ (s0.kept b4) h0).mono ?_; rintro e w5 ⟨rfl, Y0, hb5⟩
    have b5 := bl_call b4 hb5
    replace X0 := X0.kept hb5
    go_wp2_with (fail)
    refine (eqMeaning_any x0 x0 _ _ _ _ _ (X0.sl z0) (Y0.sl z0)).mono ?_; rintro e w6 ⟨rfl, hb6⟩
    have b6 := bl_call b5 hb6
    replace X0 := X0.kept hb6
    replace Y0 := Y0.kept hb6
    clear Y0
    go_wp2_with (fail)
    go_ret
    exact ⟨by simp, b6⟩
  · have h0' : (1048576 : Int) < ((x0.length : Nat) : Int) := by omega
    go_enter Try.func4, Try.ntmps4
    go_wp2_with (fail)
    go_ret
    exact ⟨rfl, Below.refl _ _⟩

set_option maxHeartbeats 2000000 in
theorem walk_FnExactHoistFor (w : World) (A0 : Option Addr) (x0 : List Int) (c0 : Nat) (s0 : Sl .i8 w A0 x0) (r0 : ∀ n ∈ x0, -128 ≤ n ∧ n ≤ 127) (x1 : Int) (r1 : -9223372036854775808 ≤ x1 ∧ x1 ≤ 9223372036854775807) (x2 : Int) (r2 : -9223372036854775808 ≤ x2 ∧ x2 ≤ 9223372036854775807) :
    Calls Try.prog 3 #[.slice A0 x0.length c0, .int .i64 x1, .int .i64 x2] w fun e w' => e = .returned (.bool true) ∧ Below w.heap.size w w' := by
  have z0 := s0.1
  by_cases h0 : x0.length ≤ 1048576
  · have h0' : ((x0.length : Nat) : Int) ≤ 1048576 := by omega
    have k1 := fun W A c h => sHoistFor_any x0 r0 A c x1 x2 W h
    have k2 := fun W A c h => HoistFor_any x0 r0 h0 A c x1 x2 W h
    have hl := forL_le x0 x1 x2
    generalize forL x0 x1 x2 = ys at *
    generalize forC x0 x1 x2 = vc at *
    go_enter Try.func3, Try.ntmps3
    go_wp2_with (fail)
    refine (toMeaning_any x0 A0 c0 _ s0 h0).mono ?_; rintro e w1 ⟨rfl, P0, hb1⟩
    have b1 := hb1
    go_wp2_with (fail)
    refine (k1 _ _ _ (P0.sl z0)).mono ?_; rintro e w2 ⟨⟨v1, rfl, O1⟩, hb2⟩
    have b2 := bl_call b1 hb2
    replace P0 := P0.kept hb2
    clear P0
    obtain ⟨B1, d1, rfl, S1⟩ := O1.sl
    clear O1
    go_wp2_with (fail)
    refine (toMeaning_any x0 A0 c0 _ (s0.kept b2) h0).mono ?_; rintro e w3 ⟨rfl, X0, hb3⟩
    have b3 := bl_call b2 hb3
    have q3 := hb3
    have l0 := X0.lt
    go_wp2_with (fail)
    refine (k2 _ _ _ (X0.sl z0)).mono ?_; rintro e w4 ⟨⟨v2, rfl, O2⟩, hb4⟩
    have b4 := bl_call b3 hb4
    have q4 := bl_call q3 hb4
    replace X0 := X0.kept hb4
    obtain ⟨B2, d2, rfl, S2⟩ := O2.sl
    clear S2
    go_wp2_with (fail)
    refine (eqHoist_any _ _ _ _ _ _ _ O2.sl' (S1.kept q4)).mono ?_; rintro e w5 ⟨rfl, hb5⟩
    have b5 := bl_call b4 hb5
    have q5 := bl_call q4 hb5
    replace X0 := X0.kept hb5
    replace O2 := O2.kept hb5
    go_wp2_with (fail)
    refine (toMeaning_any x0 A0 c0 _ (s0.kept b5) h0).mono ?_; rintro e w6 ⟨rfl, Y0, hb6⟩
    have b6 := bl_call b5 hb6
    have q6 := bl_call q5 hb6
    replace X0 := X0.kept hb6
    replace O2 := O2.kept hb6
    go_wp2_with (fail)
    refine (eqMeaning_any x0 x0 _ _ _ _ _ (X0.sl z0) (Y0.sl z0)).mono ?_; rintro e w7 ⟨rfl, hb7⟩
    have b7 := bl_call b6 hb7
    have q7 := bl_call q6 hb7
    replace X0 := X0.kept hb7
    replace O2 := O2.kept hb7
    replace Y0 := Y0.kept hb7
    clear Y0
    go_wp2_with (fail)
    refine (markMeaning_any x0 _ _ 1 (by omega) (by omega) _ (X0.ownN (Nat.le_refl _) z0)).mono ?_; rintro e w8 ⟨rfl, M0, g8⟩
    have b8 := bl_mark b7 b7.size g8 b2.size
    have q8 := bl_mark q7 q7.size g8 (Nat.le_refl _)
    replace O2 := O2.keptBy g8 l0
    clear X0 M0
    have m0 : ¬ ((1 : Int) + (x0.length : Int) < 0) := by omega
    go_wp2_with (fail)
    refine (eqHoist_any _ _ _ _ _ _ _ O2.sl' (S1.kept q8)).mono ?_; rintro e w9 ⟨rfl, hb9⟩
    have b9 := bl_call b8 hb9
    have q9 := bl_call q8 hb9
    replace O2 := O2.kept hb9
    go_wp2_with (fail)
    refine (markHoist_any _ _ _ 1 (by omega) (by omega) _ O2).mono ?_; rintro e w10 ⟨rfl, M, g10⟩
    have b10 := bl_grown b9 b9.size O2 g10 b3.size
    have q10 := bl_grown q9 q9.size O2 g10 q3.size
    clear O2
    have mm : ¬ ((1 : Int) + (ys.length : Int) < 0) := by omega
    go_wp2_with (fail)
    refine (heldHoist_any _ _ _ 1 (by omega) (by omega) _ M.slN).mono ?_; rintro e w11 ⟨rfl, hb11⟩
    have b11 := bl_call b10 hb11
    have q11 := bl_call q10 hb11
    replace M := M.kept hb11
    go_wp2_with (fail)
    refine (toMeaning_any x0 A0 c0 _ (s0.kept b11) h0).mono ?_; rintro e w12 ⟨rfl, Z0, hb12⟩
    have b12 := bl_call b11 hb12
    have q12 := bl_call q11 hb12
    replace M := M.kept hb12
    go_wp2_with (fail)
    refine (k2 _ _ _ (Z0.sl z0)).mono ?_; rintro e w13 ⟨⟨v3, rfl, O3⟩, hb13⟩
    have b13 := bl_call b12 hb13
    have q13 := bl_call q12 hb13
    replace M := M.kept hb13
    replace Z0 := Z0.kept hb13
    clear Z0
    obtain ⟨B3, d3, rfl, S3⟩ := O3.sl
    go_wp2_with (fail)
    refine (eqHoist_any _ _ _ _ _ _ _ S3 (S1.kept q13)).mono ?_; rintro e w14 ⟨rfl, hb14⟩
    have b14 := bl_call b13 hb14
    have q14 := bl_call q13 hb14
    replace M := M.kept hb14
    go_wp2_with (fail)
    refine (heldHoist_any _ _ _ 1 (by omega) (by omega) _ M.slN).mono ?_; rintro e w15 ⟨rfl, hb15⟩
    have b15 := bl_call b14 hb15
    have q15 := bl_call q14 hb15
    replace M := M.kept hb15
    go_wp2_with (fail)
    go_ret
    exact ⟨by simp, b15⟩
  · have h0' : (1048576 : Int) < ((x0.length : Nat) : Int) := by omega
    go_enter Try.func3, Try.ntmps3
    go_wp2_with (fail)
    go_ret
    exact ⟨rfl, Below.refl _ _⟩
end Go.Proofs.Ytnokdbnlagoidaa
