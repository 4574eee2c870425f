import Derived.Test.YtlgpelcnhdalpaaF13
import Derived.Test.YtlgpelcnhdalpaaT1
set_option linter.unusedVariables false
namespace Go.Proofs.Ytlgpelcnhdalpaa
open Go.RowKit

set_option maxHeartbeats 800000 in
theorem walk_FnExactTurnFlag (xs : List Int) (hx : xs.length = 24) (rx : ∀ x ∈ xs, 0 ≤ x ∧ x ≤ 255) (w : World) :
    Calls Try.prog 11 #[fl xs] w fun e w' => e = .returned (.bool true) ∧ Below w.heap.size w w' := by
  unfold fl
  have B0 := Blk.new w (u8s xs) 25
  have b0 := bl_new (Below.refl _ w) (.cells (u8s xs).toArray 25)
  have hl : (okF (vf xs) (turnL xs)).length = 24 := okF_length (turnL_length xs)
  go_enter Try.func11, Try.ntmps11
  go_wp2_with (refine load_blk rfl 25 _ rfl _ rfl B0 Try.underlying25 rfl info_fl' (by rw [u8s_length]; exact hx) ?_)
  refine (toFlag_any xs hx _).mono ?_; rintro e w1 ⟨rfl, hb1⟩
  go_wp2_with (fail)
  refine (sTurnFlag_any xs hx _).mono ?_; rintro e w2 ⟨rfl, hb2⟩
  have b2 := bl_call (bl_call b0 hb1) hb2
  have B2 := (B0.kept hb1).kept hb2
  have C2 : Blk (w2.alloc (.cells #[.int .u8 0, .int .u8 0, .int .u8 0, .int .u8 0, .int .u8 0, .int .u8 0, .int .u8 0, .int .u8 0, .int .u8 0, .int .u8 0, .int .u8 0, .int .u8 0, .int .u8 0, .int .u8 0, .int .u8 0, .int .u8 0, .int .u8 0, .int .u8 0, .int .u8 0, .int .u8 0, .int .u8 0, .int .u8 0, .int .u8 0, .int .u8 0] 27)) w2.heap.size (u8s zero24) 27 := Blk.mk _ (u8s zero24) _ rfl
  have A2 : Blk ((w2.alloc (.cells #[.int .u8 0, .int .u8 0, .int .u8 0, .int .u8 0, .int .u8 0, .int .u8 0, .int .u8 0, .int .u8 0, .int .u8 0, .int .u8 0, .int .u8 0, .int .u8 0, .int .u8 0, .int .u8 0, .int .u8 0, .int .u8 0, .int .u8 0, .int .u8 0, .int .u8 0, .int .u8 0, .int .u8 0, .int .u8 0, .int .u8 0, .int .u8 0] 27)).setRow w2.heap.size (u8s (okF (vf xs) (turnL xs))).toArray) w.heap.size (u8s xs) 25 := (B2.alloc _).farRow (Nat.ne_of_lt B2.lt) _
  clear B0 b0 hb1 hb2
  unfold fl
  go_wp2_with (first | (refine store_blk rfl 27 _ _ rfl _ rfl rfl C2 info_fl (by rw [u8s_length]; exact hl) (by rw [u8s_length]; exact zero24_length) (u8s_one _) ?_) | (refine load_blk rfl 25 _ rfl _ rfl A2 Try.underlying25 rfl info_fl' (by rw [u8s_length]; exact hx) ?_))
  refine (toFlag_any xs hx _).mono ?_; rintro e w3 ⟨rfl, hb3⟩
  have b3 := bl_call (bl_setRow (bl_new b2 _) b2.size _) hb3
  have C3 := (C2.setRow (u8s (okF (vf xs) (turnL xs)))).kept hb3
  have hs : w2.heap.size < w3.heap.size := C3.lt
  clear hb3 C2 B2 b2
  go_wp2_with (fail)
  refine (TurnFlag_any xs hx _).mono ?_; rintro e w4 ⟨rfl, hb4⟩
  have b4 := bl_call b3 hb4
  have C4 := C3.kept hb4
  have D4 : Blk (w4.alloc (.cells #[.int .u8 0, .int .u8 0, .int .u8 0, .int .u8 0, .int .u8 0, .int .u8 0, .int .u8 0, .int .u8 0, .int .u8 0, .int .u8 0, .int .u8 0, .int .u8 0, .int .u8 0, .int .u8 0, .int .u8 0, .int .u8 0, .int .u8 0, .int .u8 0, .int .u8 0, .int .u8 0, .int .u8 0, .int .u8 0, .int .u8 0, .int .u8 0] 27)) w4.heap.size (u8s zero24) 27 := Blk.mk _ (u8s zero24) _ rfl
  have hne := Nat.ne_of_lt C4.lt
  have D5 := D4.setRow (u8s (okF (vf xs) (turnL xs)))
  have A4 : Blk ((w4.alloc (.cells #[.int .u8 0, .int .u8 0, .int .u8 0, .int .u8 0, .int .u8 0, .int .u8 0, .int .u8 0, .int .u8 0, .int .u8 0, .int .u8 0, .int .u8 0, .int .u8 0, .int .u8 0, .int .u8 0, .int .u8 0, .int .u8 0, .int .u8 0, .int .u8 0, .int .u8 0, .int .u8 0, .int .u8 0, .int .u8 0, .int .u8 0, .int .u8 0] 27)).setRow w4.heap.size (u8s (okF (vf xs) (turnL xs))).toArray) w2.heap.size (u8s (okF (vf xs) (turnL xs))) 27 := (C4.alloc _).farRow hne _
  clear hb4 C3 b3
  unfold fl
  go_wp2_with (first | (refine store_blk rfl 27 _ _ rfl _ rfl rfl D4 info_fl (by rw [u8s_length]; exact hl) (by rw [u8s_length]; exact zero24_length) (u8s_one _) ?_) | (refine load_blk rfl 27 _ rfl _ rfl D5 Try.underlying27 rfl info_fl (by rw [u8s_length]; exact hl) ?_) | (refine load_blk rfl 27 _ rfl _ rfl A4 Try.underlying27 rfl info_fl (by rw [u8s_length]; exact hl) ?_))
  refine (eqFlag_same _ hl _).mono ?_; rintro e w5 ⟨rfl, hb5⟩
  go_wp2_with (fail)
  go_ret
  exact ⟨rfl, bl_call (bl_setRow (bl_new b4 _) b4.size _) hb5⟩

set_option maxHeartbeats 800000 in
theorem walk_FnExactMirrorFlag (xs : List Int) (hx : xs.length = 24) (rx : ∀ x ∈ xs, 0 ≤ x ∧ x ≤ 255) (w : World) :
    Calls Try.prog 12 #[fl xs] w fun e w' => e = .returned (.bool true) ∧ Below w.heap.size w w' := by
  unfold fl
  have B0 := Blk.new w (u8s xs) 25
  have b0 := bl_new (Below.refl _ w) (.cells (u8s xs).toArray 25)
  have hl : (okF (vf xs) (mirrorL xs)).length = 24 := okF_length (mirrorL_length xs)
  go_enter Try.func12, Try.ntmps12
  go_wp2_with (refine load_blk rfl 25 _ rfl _ rfl B0 Try.underlying25 rfl info_fl' (by rw [u8s_length]; exact hx) ?_)
  refine (toFlag_any xs hx _).mono ?_; rintro e w1 ⟨rfl, hb1⟩
  go_wp2_with (fail)
  refine (sMirrorFlag_any xs hx _).mono ?_; rintro e w2 ⟨rfl, hb2⟩
  have b2 := bl_call (bl_call b0 hb1) hb2
  have B2 := (B0.kept hb1).kept hb2
  have C2 : Blk (w2.alloc (.cells #[.int .u8 0, .int .u8 0, .int .u8 0, .int .u8 0, .int .u8 0, .int .u8 0, .int .u8 0, .int .u8 0, .int .u8 0, .int .u8 0, .int .u8 0, .int .u8 0, .int .u8 0, .int .u8 0, .int .u8 0, .int .u8 0, .int .u8 0, .int .u8 0, .int .u8 0, .int .u8 0, .int .u8 0, .int .u8 0, .int .u8 0, .int .u8 0] 27)) w2.heap.size (u8s zero24) 27 := Blk.mk _ (u8s zero24) _ rfl
  have A2 : Blk ((w2.alloc (.cells #[.int .u8 0, .int .u8 0, .int .u8 0, .int .u8 0, .int .u8 0, .int .u8 0, .int .u8 0, .int .u8 0, .int .u8 0, .int .u8 0, .int .u8 0, .int .u8 0, .int .u8 0, .int .u8 0, .int .u8 0, .int .u8 0, .int .u8 0, .int .u8 0, .int .u8 0, .int .u8 0, .int .u8 0, .int .u8 0, .int .u8 0, .int .u8 0] 27)).setRow w2.heap.size (u8s (okF (vf xs) (mirrorL xs))).toArray) w.heap.size (u8s xs) 25 := (B2.alloc _).farRow (Nat.ne_of_lt B2.lt) _
  clear B0 b0 hb1 hb2
  unfold fl
  go_wp2_with (first | (refine store_blk rfl 27 _ _ rfl _ rfl rfl C2 info_fl (by rw [u8s_length]; exact hl) (by rw [u8s_length]; exact zero24_length) (u8s_one _) ?_) | (refine load_blk rfl 25 _ rfl _ rfl A2 Try.underlying25 rfl info_fl' (by rw [u8s_length]; exact hx) ?_))
  refine (toFlag_any xs hx _).mono ?_; rintro e w3 ⟨rfl, hb3⟩
  have b3 := bl_call (bl_setRow (bl_new b2 _) b2.size _) hb3
  have C3 := (C2.setRow (u8s (okF (vf xs) (mirrorL xs)))).kept hb3
  have hs : w2.heap.size < w3.heap.size := C3.lt
  clear hb3 C2 B2 b2
  go_wp2_with (fail)
  refine (MirrorFlag_any xs hx rx _).mono ?_; rintro e w4 ⟨rfl, hb4⟩
  have b4 := bl_call b3 hb4
  have C4 := C3.kept hb4
  have D4 : Blk (w4.alloc (.cells #[.int .u8 0, .int .u8 0, .int .u8 0, .int .u8 0, .int .u8 0, .int .u8 0, .int .u8 0, .int .u8 0, .int .u8 0, .int .u8 0, .int .u8 0, .int .u8 0, .int .u8 0, .int .u8 0, .int .u8 0, .int .u8 0, .int .u8 0, .int .u8 0, .int .u8 0, .int .u8 0, .int .u8 0, .int .u8 0, .int .u8 0, .int .u8 0] 27)) w4.heap.size (u8s zero24) 27 := Blk.mk _ (u8s zero24) _ rfl
  have hne := Nat.ne_of_lt C4.lt
  have D5 := D4.setRow (u8s (okF (vf xs) (mirrorL xs)))
  have A4 : Blk ((w4.alloc (.cells #[.int .u8 0, .int .u8 0, .int .u8 0, .int .u8 0, .int .u8 0, .int .u8 0, .int .u8 0, .int .u8 0, .int .u8 0, .int .u8 0, .int .u8 0, .int .u8 0, .int .u8 0, .int .u8 0, .int .u8 0, .int .u8 0, .int .u8 0, .int .u8 0, .int .u8 0, .int .u8 0, .int .u8 0, .int .u8 0, .int .u8 0, .int .u8 0] 27)).setRow w4.heap.size (u8s (okF (vf xs) (mirrorL xs))).toArray) w2.heap.size (u8s (okF (vf xs) (mirrorL xs))) 27 := (C4.alloc _).farRow hne _
  clear hb4 C3 b3
  unfold fl
  go_wp2_with (first | (refine store_blk rfl 27 _ _ rfl _ rfl rfl D4 info_fl (by rw [u8s_length]; exact hl) (by rw [u8s_length]; exact zero24_length) (u8s_one _) ?_) | (refine load_blk rfl 27 _ rfl _ rfl D5 Try.underlying27 rfl info_fl (by rw [u8s_length]; exact hl) ?_) | (refine load_blk rfl 27 _ rfl _ rfl A4 Try.underlying27 rfl info_fl (by rw [u8s_length]; exact hl) ?_))
  refine (eqFlag_same _ hl _).mono ?_; rintro e w5 ⟨rfl, hb5⟩
  go_wp2_with (fail)
  go_ret
  exact ⟨rfl, bl_call (bl_setRow (bl_new b4 _) b4.size _) hb5⟩
end Go.Proofs.Ytlgpelcnhdalpaa
