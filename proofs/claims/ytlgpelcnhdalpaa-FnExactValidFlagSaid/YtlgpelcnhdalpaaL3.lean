import Derived.Test.YtlgpelcnhdalpaaF2
set_option linter.unusedVariables false
namespace Go.Proofs.Ytlgpelcnhdalpaa
open Go.RowKit
set_option maxHeartbeats 400000 in
theorem walk_FnExactValidFlag (xs : List Int) (hx : xs.length = 24) (rx : ∀ x ∈ xs, 0 ≤ x ∧ x ≤ 255) (w : World) :
    Calls Try.prog 6 #[fl xs] w fun e w' => e = .returned (.bool true) ∧ Below w.heap.size w w' := by
  unfold fl
  have B0 := Blk.new w (u8s xs) 25
  have b0 := bl_new (Below.refl _ w) (.cells (u8s xs).toArray 25)
  go_enter Try.func6, Try.ntmps6
  go_wp2_with (refine load_blk rfl 25 _ rfl _ rfl B0 Try.underlying25 rfl info_fl' (by rw [u8s_length]; exact hx) ?_)
  refine (toFlag_any xs hx _).mono ?_; rintro e w1 ⟨rfl, hb1⟩
  go_wp2_with (fail)
  refine (sValidFlag_any xs hx _).mono ?_; rintro e w2 ⟨rfl, hb2⟩
  have B2 := (B0.kept hb1).kept hb2
  go_wp2_with (refine load_blk rfl 25 _ rfl _ rfl B2 Try.underlying25 rfl info_fl' (by rw [u8s_length]; exact hx) ?_)
  refine (toFlag_any xs hx _).mono ?_; rintro e w3 ⟨rfl, hb3⟩
  go_wp2_with (fail)
  refine (ValidFlag_any xs hx _).mono ?_; rintro e w4 ⟨rfl, hb4⟩
  go_wp2_with (fail)
  go_ret
  exact ⟨rfl, bl_call (bl_call (bl_call (bl_call b0 hb1) hb2) hb3) hb4⟩
end Go.Proofs.Ytlgpelcnhdalpaa
