/- Walk: the law of GroupsOf. -/
import Derived.Test.YtllplgjlpndpfaaGe
import Derived.Test.YtllplgjlpndpfaaLs
set_option linter.unusedVariables false
namespace Go.Proofs.Ytllplgjlpndpfaa
open Go.RowKit

theorem off_bd {gs : List (List Int)} (h : ∀ i, (nthL gs i).length ≤ 8) : ∀ k, off gs k ≤ 8 * k
  | 0 => Nat.le_refl _
  | k + 1 => by
    have := off_bd h k
    have := h k
    show off gs k + _ ≤ _; omega
theorem goL_bd (m : List Int) : (goL m).length ≤ 9 ∧ off (goL m) (goL m).length ≤ 72 := by
  unfold goL
  cases hk : mOk m
  · simp [off]
  · have h8 := (mOk_len' hk).2
    rw [if_pos rfl]
    have h1 := (grT_len m m.length).2
    have h2 := off_bd (gs := grT m m.length) (fun i => by have := grT_in m m.length i; omega) (grT m m.length).length
    omega
set_option maxRecDepth 100000 in
set_option maxHeartbeats 4000000 in
theorem walk_FnExactGroupsOf (w : World) (A0 : Option Addr) (x0 : List Int) (c0 : Nat) (s0 : Sl .i8 w A0 x0) (r0 : ∀ n ∈ x0, -128 ≤ n ∧ n ≤ 127) :
    Calls Try.prog 10 #[.slice A0 x0.length c0] w fun e w' => e = .returned (.bool true) ∧ Below w.heap.size w w' := by
  have z0 := s0.1
  by_cases h0 : x0.length ≤ 1048576
  · have h0' : ((x0.length : Nat) : Int) ≤ 1048576 := by omega
    have k1 := fun W A c h => sGroupsOf_any x0 r0 A c W h
    have k2 := fun W A c h => GroupsOf_any x0 r0 h0 A c W h
    have hl := goL_bd x0
    generalize goL x0 = gs at *
    generalize goC x0 = vc at *
    have hl1 : gs.length ≤ 1000 := by omega
    have hl2 : off gs gs.length ≤ 1000 := by omega
    go_enter Try.func10, Try.ntmps10
    go_wp2_with (fail)
    refine (toMeaning_any x0 A0 c0 _ s0 h0).mono ?_; rintro e w1 ⟨rfl, P0, hb1⟩
    have b1 := hb1
    go_wp2_with (fail)
    refine (k1 _ _ _ (P0.sl z0)).mono ?_; rintro e w2 ⟨⟨v1, rfl, M1⟩, hb2⟩
    have b2 := bl_call b1 hb2
    clear P0
    go_wp2_with (fail)
    refine (toMeaning_any x0 A0 c0 _ (s0.kept b2) h0).mono ?_; rintro e w3 ⟨rfl, X0, hb3⟩
    have b3 := bl_call b2 hb3
    have q3 := hb3
    have hX3 := X0.lt
    go_wp2_with (fail)
    refine (k2 _ _ _ (X0.sl z0)).mono ?_; rintro e w4 ⟨⟨v2, rfl, M2⟩, hb4⟩
    have b4 := bl_call b3 hb4
    have q4 := bl_call q3 hb4
    have hsz4 := hb4.size
    replace X0 := X0.kept hb4
    go_wp2_with (fail)
    refine (eqMeaningS_any gs hl1 _ _ v2 v1 w4 M2 (M1.kept q4)).mono ?_; rintro e w5 ⟨rfl, hb5⟩
    have b5 := bl_call b4 hb5
    have q5 := bl_call q4 hb5
    replace X0 := X0.kept hb5
    replace M2 := M2.kept hb5
    go_wp2_with (fail)
    refine (toMeaning_any x0 A0 c0 _ (s0.kept b5) h0).mono ?_; rintro e w6 ⟨rfl, Y0, hb6⟩
    have b6 := bl_call b5 hb6
    have q6 := bl_call q5 hb6
    replace X0 := X0.kept hb6
    replace M2 := M2.kept hb6
    go_wp2_with (fail)
    refine (eqMeaning_any x0 x0 _ _ _ _ _ (X0.sl z0) (Y0.sl z0)).mono ?_; rintro e w7 ⟨rfl, hb7⟩
    have b7 := bl_call b6 hb7
    have q7 := bl_call q6 hb7
    replace X0 := X0.kept hb7
    replace M2 := M2.kept hb7
    rw [decide_eq_true rfl]
    clear Y0
    go_wp2_with (fail)
    refine (markMeaning_any x0 _ _ 1 (by omega) (by omega) _ (X0.ownN (Nat.le_refl _) z0)).mono ?_; rintro e w8 ⟨rfl, M0, g8⟩
    have b8 := bl_mark b7 b7.size g8 b2.size
    have q8 := bl_mark q7 q7.size g8 (Nat.le_refl _)
    replace M2 := M2.low g8 (fun k hk => by simp only [Value.ownBlock, Option.some.injEq] at hk; omega)
    clear X0 M0
    have m0 : ¬ ((1 : Int) + (x0.length : Int) < 0) := by omega
    go_wp2_with (fail)
    refine (eqMeaningS_any gs hl1 _ _ v2 v1 w8 M2 (M1.kept q8)).mono ?_; rintro e w9 ⟨rfl, hb9⟩
    have b9 := bl_call b8 hb9
    have q9 := bl_call q8 hb9
    replace M2 := M2.kept hb9
    go_wp2_with (fail)
    have hbase : w3.heap.size ≤ w9.heap.size := by have h1 := hb4.size; have h2 := hb5.size; have h3 := hb6.size; have h4 := hb7.size; have h5 := g8.size; have h6 := hb9.size; omega
    refine (markMeaningS_any gs hl1 hl2 _ v2 w9 hbase M2).mono ?_; rintro e w10 ⟨rfl, M3, g10⟩
    have b10 := b9.trans (g10.mono b3.size)
    have q10 := q9.trans (g10.mono q3.size)
    clear M2 k1
    have ho' : (off gs gs.length : Int) ≤ 1000 := by omega
    have mm : ¬ ((1 : Int) + (off gs gs.length : Int) < 0) := by omega
    go_wp2_with (fail)
    refine (heldMeaningS_any gs hl1 hl2 _ v2 w10 M3).mono ?_; rintro e w11 ⟨rfl, hb11⟩
    have b11 := bl_call b10 hb11
    have q11 := bl_call q10 hb11
    replace M3 := M3.kept hb11
    go_wp2_with (fail)
    refine (toMeaning_any x0 A0 c0 _ (s0.kept b11) h0).mono ?_; rintro e w12 ⟨rfl, Z0, hb12⟩
    have b12 := bl_call b11 hb12
    have q12 := bl_call q11 hb12
    replace M3 := M3.kept hb12
    go_wp2_with (fail)
    refine (k2 _ _ _ (Z0.sl z0)).mono ?_; rintro e w13 ⟨⟨v3, rfl, M4⟩, hb13⟩
    have b13 := bl_call b12 hb13
    have q13 := bl_call q12 hb13
    replace M3 := M3.kept hb13
    clear Z0
    go_wp2_with (fail)
    refine (eqMeaningS_any gs hl1 _ _ v3 v1 w13 M4 (M1.kept q13)).mono ?_; rintro e w14 ⟨rfl, hb14⟩
    have b14 := bl_call b13 hb14
    replace M3 := M3.kept hb14
    go_wp2_with (fail)
    refine (heldMeaningS_any gs hl1 hl2 _ v2 w14 M3).mono ?_; rintro e w15 ⟨rfl, hb15⟩
    have b15 := bl_call b14 hb15
    go_wp2_with (fail)
    go_ret
    exact ⟨by simp, b15⟩
  · have h0' : (1048576 : Int) < ((x0.length : Nat) : Int) := by omega
    go_enter Try.func10, Try.ntmps10
    go_wp2_with (fail)
    go_ret
    exact ⟨rfl, Below.refl _ _⟩
end Go.Proofs.Ytllplgjlpndpfaa
