/- Walks: the laws of AreDistinct and NearestPair. -/
import Derived.Test.YtbekebjmnccbkaaG23
import Derived.Test.YtbekebjmnccbkaaG25
set_option linter.unusedVariables false
set_option linter.unusedSimpArgs false
namespace Go.Proofs.Ytbekebjmnccbkaa
open Go.RowKit

set_option maxHeartbeats 2000000 in
theorem walk_FnExactAreDistinct (w : World) (A : Option Addr) (fs : List (List Int)) (c : Nat) (sx : SlF w A fs) (n : Int) (hn : -9223372036854775808 ≤ n ∧ n ≤ 9223372036854775807) :
    Calls Try.prog 13 #[.slice A fs.length c, .int .i64 n] w fun e w' => e = .returned (.bool true) ∧ Below w.heap.size w w' := by
  have hx9 := sx.1
  have h24 := sx.2.1
  have hby := sx.2.2.1
  by_cases h1 : fs.length ≤ 1048576
  · have h1' : (fs.length : Int) ≤ 1048576 := by omega
    have hz := fun W => szFlagS_any A fs.length c W hx9
    rw [if_pos h1] at hz
    have k1 := fun A c W h => sAreDistinct_any fs A c n W h
    have k2 := fun A c W h => AreDistinct_any fs A c n W h
    generalize distB fs n = db at *
    generalize askC fs n = cc at *
    go_enter Try.func13, Try.ntmps13
    go_wp2_with (go_at_call 40; refine (hz _).mono ?_; rintro e w' ⟨rfl, rfl⟩)
    refine (toFlagS_any fs A c _ sx h1).mono ?_; rintro e w1 ⟨rfl, X1, hb1⟩
    go_wp2_with (fail)
    refine (k1 _ _ _ (X1.slF hx9 h24 hby)).mono ?_; rintro e w2 ⟨rfl, hb2⟩
    have b2 := bl_call hb1 hb2
    have s2 := sx.kept b2
    clear X1 hb1 hb2
    go_wp2_with (fail)
    refine (toFlagS_any fs A c _ s2 h1).mono ?_; rintro e w3 ⟨rfl, X3, hb3⟩
    have b3 := bl_call b2 hb3
    clear s2 b2 hb3
    go_wp2_with (fail)
    refine (k2 _ _ _ (X3.slF hx9 h24 hby)).mono ?_; rintro e w4 ⟨rfl, hb4⟩
    have b4 := bl_call b3 hb4
    have X4 := X3.kept hb4
    have s4 := sx.kept b4
    clear hb4 b3 X3
    go_wp2_with (fail)
    refine (toFlagS_any fs A c _ s4 h1).mono ?_; rintro e w5 ⟨rfl, X5, hb5⟩
    have b5 := bl_call b4 hb5
    have X6 := X4.kept hb5
    clear hb5 b4 X4 s4
    go_wp2_with (fail)
    refine (eqFlagS_same fs _ _ _ _ _ (X6.slF hx9 h24 hby) (X5.slF hx9 h24 hby)).mono ?_; rintro e w6 ⟨rfl, hb6⟩
    go_wp2_with (fail)
    go_ret
    exact ⟨by first | rfl | simp, bl_call b5 hb6⟩
  · have h1' : (1048576 : Int) < (fs.length : Int) := by omega
    have hz := fun W => szFlagS_any A fs.length c W hx9
    rw [if_neg h1] at hz
    go_enter Try.func13, Try.ntmps13
    go_wp2_with (go_at_call 40; refine (hz _).mono ?_; rintro e w' ⟨rfl, rfl⟩)
    go_ret
    exact ⟨rfl, Below.refl _ _⟩

set_option maxHeartbeats 2000000 in
theorem walk_FnExactNearestPair (w : World) (A : Option Addr) (fs : List (List Int)) (c : Nat) (sx : SlF w A fs) :
    Calls Try.prog 14 #[.slice A fs.length c] w fun e w' => e = .returned (.bool true) ∧ Below w.heap.size w w' := by
  have hx9 := sx.1
  have h24 := sx.2.1
  have hby := sx.2.2.1
  by_cases h1 : fs.length ≤ 1048576
  · have h1' : (fs.length : Int) ≤ 1048576 := by omega
    have hz := fun W => szFlagS_any A fs.length c W hx9
    rw [if_pos h1] at hz
    have k1 := fun A c W h => sNearestPair_any fs A c W h
    have k2 := fun A c W h => NearestPair_any fs A c W h
    generalize (nearR fs).1 = ra at *
    generalize (nearR fs).2.1 = rb at *
    generalize (nearR fs).2.2 = rl at *
    generalize nearC fs = cc at *
    go_enter Try.func14, Try.ntmps14
    go_wp2_with (go_at_call 40; refine (hz _).mono ?_; rintro e w' ⟨rfl, rfl⟩)
    refine (toFlagS_any fs A c _ sx h1).mono ?_; rintro e w1 ⟨rfl, X1, hb1⟩
    go_wp2_with (fail)
    refine (k1 _ _ _ (X1.slF hx9 h24 hby)).mono ?_; rintro e w2 ⟨rfl, hb2⟩
    have b2 := bl_call hb1 hb2
    have s2 := sx.kept b2
    clear X1 hb1 hb2
    go_wp2_with (fail)
    refine (toFlagS_any fs A c _ s2 h1).mono ?_; rintro e w3 ⟨rfl, X3, hb3⟩
    have b3 := bl_call b2 hb3
    clear s2 b2 hb3
    go_wp2_with (fail)
    refine (k2 _ _ _ (X3.slF hx9 h24 hby)).mono ?_; rintro e w4 ⟨rfl, hb4⟩
    have b4 := bl_call b3 hb4
    have X4 := X3.kept hb4
    have s4 := sx.kept b4
    clear hb4 b3 X3
    go_wp2_with (fail)
    refine (toFlagS_any fs A c _ s4 h1).mono ?_; rintro e w5 ⟨rfl, X5, hb5⟩
    have b5 := bl_call b4 hb5
    have X6 := X4.kept hb5
    clear hb5 b4 X4 s4
    go_wp2_with (fail)
    refine (eqFlagS_same fs _ _ _ _ _ (X6.slF hx9 h24 hby) (X5.slF hx9 h24 hby)).mono ?_; rintro e w6 ⟨rfl, hb6⟩
    go_wp2_with (fail)
    go_ret
    exact ⟨by first | rfl | simp, bl_call b5 hb6⟩
  · have h1' : (1048576 : Int) < (fs.length : Int) := by omega
    have hz := fun W => szFlagS_any A fs.length c W hx9
    rw [if_neg h1] at hz
    go_enter Try.func14, Try.ntmps14
    go_wp2_with (go_at_call 40; refine (hz _).mono ?_; rintro e w' ⟨rfl, rfl⟩)
    go_ret
    exact ⟨rfl, Below.refl _ _⟩
end Go.Proofs.Ytbekebjmnccbkaa
