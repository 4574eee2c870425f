/- Walk: the law of TextFromHoists. -/
import Derived.Test.YtllplgjlpndpfaaN2
set_option linter.unusedVariables false
namespace Go.Proofs.Ytllplgjlpndpfaa
open Go.RowKit
set_option maxHeartbeats 1000000 in
theorem walk_FnExactTextFromHoists (w : World) (A : Option Addr) (hs : List (List Int)) (c : Nat) (S : SlH w A hs) (rx : ∀ xs ∈ hs, ∀ n ∈ xs, -128 ≤ n ∧ n ≤ 127) :
    Calls Try.prog 12 #[.slice A hs.length c] w fun e w' => e = .returned (.bool true) ∧ Below w.heap.size w w' := by
  have key := szHoistS_any hs A c w S
  have kt := fun W h h1 h2 => toHoistS_any hs A c W h h1 h2
  have k1 := fun W A c h h1 h2 => sTextFromHoists_any hs A c W h rx h1 h2
  have k2 := fun W A c h h1 h2 => TextFromHoists_any hs A c W h rx h1 h2
  generalize textS hs = vs at *
  generalize textC hs = vc at *
  go_enter Try.func12, Try.ntmps12
  go_wp2_with (fail)
  refine key.mono ?_; rintro e w' ⟨⟨r, rfl, hr⟩, rfl⟩
  rcases hr with rfl | ⟨h0, h1, h2⟩
  · go_wp2_with (fail)
    go_ret
    exact ⟨rfl, Below.refl _ _⟩
  · have h0' : ¬ (r < 0) := by omega
    go_wp2_with (fail)
    refine (kt _ S h1 h2).mono ?_; rintro e w1 ⟨rfl, P1, b1⟩
    go_wp2_with (fail)
    refine (k1 _ _ _ P1 h1 h2).mono ?_; rintro e w2 ⟨rfl, hb2⟩
    have b2 := bl_call b1 hb2
    go_wp2_with (fail)
    refine (kt _ (S.kept b2) h1 h2).mono ?_; rintro e w3 ⟨rfl, X3, hb3⟩
    have b3 := bl_call b2 hb3
    go_wp2_with (fail)
    refine (k2 _ _ _ X3 h1 h2).mono ?_; rintro e w4 ⟨rfl, hb4⟩
    have b4 := bl_call b3 hb4
    have X4 := X3.kept hb4
    go_wp2_with (fail)
    refine (kt _ (S.kept b4) h1 h2).mono ?_; rintro e w5 ⟨rfl, Y5, hb5⟩
    have b5 := bl_call b4 hb5
    have X5 := X4.kept hb5
    go_wp2_with (fail)
    refine (eqHoistS_same hs _ _ _ _ _ X5 Y5).mono ?_; rintro e w6 ⟨rfl, hb6⟩
    go_wp2_with (fail)
    go_ret
    exact ⟨rfl, bl_call b5 hb6⟩
end Go.Proofs.Ytllplgjlpndpfaa
