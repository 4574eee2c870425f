/- Walk: the law of MostDistinct. -/
import Derived.Test.YtjppoejkfpeicaaMt
import Derived.Test.YtjppoejkfpeicaaG25
import Derived.Test.YtjppoejkfpeicaaG9
set_option linter.unusedVariables false
set_option linter.unusedSimpArgs false
namespace Go.Proofs.Ytjppoejkfpeicaa
open Go.RowKit

set_option maxHeartbeats 2000000 in
theorem walk_FnExactMostDistinct (w : World) (A : Option Addr) (fs : List (List Int)) (c : Nat) (sx : SlF w A fs) (n : Int) (hn : -9223372036854775808 ≤ n ∧ n ≤ 9223372036854775807) :
    Calls Try.prog 4 #[.slice A fs.length c, .int .i64 n] w fun e w' => e = .returned (.bool true) ∧ Below w.heap.size w w' := by
  have hx9 := sx.1
  have h24 := sx.2.1
  have hby := sx.2.2.1
  by_cases h1 : fs.length ≤ 1048576
  · have h1' : (fs.length : Int) ≤ 1048576 := by omega
    have hz := fun W => szFlagS_any A fs.length c W hx9
    rw [if_pos h1] at hz
    have k1 := fun A c W h => sMostDistinct_any fs A c n W h
    have k2 := fun A c W h => MostDistinct_any fs A c n W h
    have hl := most_le fs n
    generalize mostL fs n = ys at *
    generalize mostC fs n = cc at *
    go_enter Try.func4, Try.ntmps4
    go_wp2_with (go_at_call 7; refine (hz _).mono ?_; rintro e w' ⟨rfl, rfl⟩)
    refine (toFlagS_any fs A c _ sx h1).mono ?_; rintro e w1 ⟨rfl, X1, hb1⟩
    go_wp2_with (fail)
    refine (k1 _ _ _ (X1.slF hx9 h24 hby)).mono ?_; rintro e w2 ⟨⟨v2, rfl, O2⟩, hb2⟩
    obtain ⟨B2, d2, rfl, S2⟩ := O2.sl
    have b2 := bl_call hb1 hb2
    have s2 := sx.kept b2
    clear X1 hb1 hb2 O2
    go_wp2_with (fail)
    refine (toFlagS_any fs A c _ s2 h1).mono ?_; rintro e w3 ⟨rfl, X3, hb3⟩
    have b3 := bl_call b2 hb3
    have q3 := hb3
    clear s2
    have l3 := X3.lt
    go_wp2_with (fail)
    refine (k2 _ _ _ (X3.slF hx9 h24 hby)).mono ?_; rintro e w4 ⟨⟨v4, rfl, O4⟩, hb4⟩
    obtain ⟨B4, d4, rfl, S4⟩ := O4.sl
    have b4 := bl_call b3 hb4
    have q4 := bl_call q3 hb4
    have X4 := X3.kept hb4
    clear S4 X3
    go_wp2_with (fail)
    refine (eqInt64S_any _ _ _ _ _ _ _ O4.sl' (S2.kept q4)).mono ?_; rintro e w5 ⟨rfl, hb5⟩
    have b5 := bl_call b4 hb5
    have q5 := bl_call q4 hb5
    have X5 := X4.kept hb5
    have O5 := O4.kept hb5
    have s5 := sx.kept b5
    clear X4 O4 hb4 hb5
    go_wp2_with (fail)
    refine (toFlagS_any fs A c _ s5 h1).mono ?_; rintro e w6 ⟨rfl, Y6, hb6⟩
    have b6 := bl_call b5 hb6
    have q6 := bl_call q5 hb6
    have X6 := X5.kept hb6
    have O6 := O5.kept hb6
    clear X5 O5 s5 hb6
    go_wp2_with (fail)
    refine (eqFlagS_same fs _ _ _ _ _ (X6.slF hx9 h24 hby) (Y6.slF hx9 h24 hby)).mono ?_; rintro e w7 ⟨rfl, hb7⟩
    have b7 := bl_call b6 hb7
    have q7 := bl_call q6 hb7
    have X7 := X6.kept hb7
    have O7 := O6.kept hb7
    clear X6 O6 Y6 hb7
    go_wp2_with (fail)
    refine (markFlagS_any fs.length _ _ (by rw [flat_length u8s 24 fs (fun x hx => by rw [u8s_length]; exact h24 x hx)]) h1 _ X7).mono ?_; rintro e w8 ⟨rfl, g8⟩
    have b8 := b7.grown g8 b7.size (fun k hk => by simp only [Option.some.injEq] at hk; rw [← hk]; exact b2.size)
    have q8 := q7.grown g8 q7.size (fun k hk => by simp only [Option.some.injEq] at hk; rw [← hk]; exact Nat.le_refl _)
    have O8 := O7.keptBy (n := 0) (c := 0) g8 l3
    have m8 : ¬ ((1 : Int) + (fs.length : Int) * 24 < 0) := by omega
    clear X7 O7
    go_wp2_with (fail)
    refine (eqInt64S_any _ _ _ _ _ _ _ O8.sl' (S2.kept q8)).mono ?_; rintro e w9 ⟨rfl, hb9⟩
    have b9 := bl_call b8 hb9
    have q9 := bl_call q8 hb9
    have O9 := O8.kept hb9
    clear O8 hb9
    go_wp2_with (fail)
    refine (markInt64S_any _ _ _ 1 (by omega) (by omega) _ O9).mono ?_; rintro e w10 ⟨rfl, M, g10⟩
    have b10 := bl_grown b9 b9.size O9 g10 b3.size
    have q10 := bl_grown q9 q9.size O9 g10 q3.size
    have m10 : ¬ ((1 : Int) + (ys.length : Int) < 0) := by omega
    clear O9
    go_wp2_with (fail)
    refine (heldInt64S_any _ _ _ 1 (by omega) (by omega) _ M.slN).mono ?_; rintro e w11 ⟨rfl, hb11⟩
    have b11 := bl_call b10 hb11
    have q11 := bl_call q10 hb11
    have M11 := M.kept hb11
    have s11 := sx.kept b11
    clear M hb11
    go_wp2_with (fail)
    refine (toFlagS_any fs A c _ s11 h1).mono ?_; rintro e w12 ⟨rfl, Z12, hb12⟩
    have b12 := bl_call b11 hb12
    have q12 := bl_call q11 hb12
    have M12 := M11.kept hb12
    clear M11 hb12 s11
    go_wp2_with (fail)
    refine (k2 _ _ _ (Z12.slF hx9 h24 hby)).mono ?_; rintro e w13 ⟨⟨v13, rfl, O13⟩, hb13⟩
    obtain ⟨B13, d13, rfl, S13⟩ := O13.sl
    have b13 := bl_call b12 hb13
    have q13 := bl_call q12 hb13
    have M13 := M12.kept hb13
    clear M12 hb13 Z12
    go_wp2_with (fail)
    refine (eqInt64S_any _ _ _ _ _ _ _ S13 (S2.kept q13)).mono ?_; rintro e w14 ⟨rfl, hb14⟩
    have b14 := bl_call b13 hb14
    have M14 := M13.kept hb14
    clear M13 hb14
    go_wp2_with (fail)
    refine (heldInt64S_any _ _ _ 1 (by omega) (by omega) _ M14.slN).mono ?_; rintro e w15 ⟨rfl, hb15⟩
    go_wp2_with (fail)
    go_ret
    exact ⟨by simp, bl_call b14 hb15⟩
  · have h1' : (1048576 : Int) < (fs.length : Int) := by omega
    have hz := fun W => szFlagS_any A fs.length c W hx9
    rw [if_neg h1] at hz
    go_enter Try.func4, Try.ntmps4
    go_wp2_with (go_at_call 7; refine (hz _).mono ?_; rintro e w' ⟨rfl, rfl⟩)
    go_ret
    exact ⟨rfl, Below.refl _ _⟩
end Go.Proofs.Ytjppoejkfpeicaa
