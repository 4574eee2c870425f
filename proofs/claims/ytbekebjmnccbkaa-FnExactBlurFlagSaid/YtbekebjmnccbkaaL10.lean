/- Walks: the laws of PaintCell and BlurFlag. -/
import Derived.Test.YtbekebjmnccbkaaG11
import Derived.Test.YtbekebjmnccbkaaG16
import Derived.Test.YtbekebjmnccbkaaT1
set_option linter.unusedVariables false
namespace Go.Proofs.Ytbekebjmnccbkaa
open Go.RowKit

set_option maxHeartbeats 1000000 in
theorem walk_FnExactPaintCell (xs : List Int) (hx : xs.length = 24) (rx : ∀ x ∈ xs, 0 ≤ x ∧ x ≤ 255) (x : Int) (nx : -9223372036854775808 ≤ x ∧ x ≤ 9223372036854775807) (y : Int) (ny : -9223372036854775808 ≤ y ∧ y ≤ 9223372036854775807) (c : Int) (nc : -9223372036854775808 ≤ c ∧ c ≤ 9223372036854775807) (w : World) :
    Calls Try.prog 8 #[fl xs, .int .i64 x, .int .i64 y, .int .i64 c] w fun e w' => e = .returned (.bool true) ∧ Below w.heap.size w w' := by
  have hl : (paintL xs x y c).length = 24 := paintL_length _ _ _ _ hx
  have k1 := fun W => sPaintCell_any xs hx rx x y c W
  have k2 := fun W => PaintCell_any xs hx rx x y c W
  generalize (paintL xs x y c) = ys at *
  generalize (paintC xs x y c) = cc at *
  unfold fl
  have B0 := Blk.new w (u8s xs) 22
  have b0 := bl_new (Below.refl _ w) (.cells (u8s xs).toArray 22)
  go_enter Try.func8, Try.ntmps8
  go_wp2_with (refine load_blk rfl 22 _ rfl _ rfl B0 Try.underlying22 rfl info_fl' (by rw [u8s_length]; exact hx) ?_)
  refine (toFlag_any xs hx _).mono ?_; rintro e w1 ⟨rfl, hb1⟩
  go_wp2_with (fail)
  refine (k1 _).mono ?_; rintro e w2 ⟨rfl, hb2⟩
  have b2 := bl_call (bl_call b0 hb1) hb2
  have B2 := (B0.kept hb1).kept hb2
  have C2 : Blk (w2.alloc (.cells #[.int .u8 0, .int .u8 0, .int .u8 0, .int .u8 0, .int .u8 0, .int .u8 0, .int .u8 0, .int .u8 0, .int .u8 0, .int .u8 0, .int .u8 0, .int .u8 0, .int .u8 0, .int .u8 0, .int .u8 0, .int .u8 0, .int .u8 0, .int .u8 0, .int .u8 0, .int .u8 0, .int .u8 0, .int .u8 0, .int .u8 0, .int .u8 0] 23)) w2.heap.size (u8s zero24) 23 := Blk.mk _ (u8s zero24) _ rfl
  have A2 : Blk ((w2.alloc (.cells #[.int .u8 0, .int .u8 0, .int .u8 0, .int .u8 0, .int .u8 0, .int .u8 0, .int .u8 0, .int .u8 0, .int .u8 0, .int .u8 0, .int .u8 0, .int .u8 0, .int .u8 0, .int .u8 0, .int .u8 0, .int .u8 0, .int .u8 0, .int .u8 0, .int .u8 0, .int .u8 0, .int .u8 0, .int .u8 0, .int .u8 0, .int .u8 0] 23)).setRow w2.heap.size (u8s ys).toArray) w.heap.size (u8s xs) 22 := (B2.alloc _).farRow (Nat.ne_of_lt B2.lt) _
  clear B0 b0 hb1 hb2
  unfold fl
  go_wp2_with (first | (refine store_blk rfl 23 _ _ rfl _ rfl rfl C2 info_fl (by rw [u8s_length]; exact hl) (by rw [u8s_length]; exact zero24_length) (u8s_one _) ?_) | (refine load_blk rfl 22 _ rfl _ rfl A2 Try.underlying22 rfl info_fl' (by rw [u8s_length]; exact hx) ?_))
  refine (toFlag_any xs hx _).mono ?_; rintro e w3 ⟨rfl, hb3⟩
  have b3 := bl_call (bl_setRow (bl_new b2 _) b2.size _) hb3
  have C3 := (C2.setRow (u8s ys)).kept hb3
  have hs : w2.heap.size < w3.heap.size := C3.lt
  clear hb3 C2 B2 b2
  go_wp2_with (fail)
  refine (k2 _).mono ?_; rintro e w4 ⟨rfl, hb4⟩
  have b4 := bl_call b3 hb4
  have C4 := C3.kept hb4
  have D4 : Blk (w4.alloc (.cells #[.int .u8 0, .int .u8 0, .int .u8 0, .int .u8 0, .int .u8 0, .int .u8 0, .int .u8 0, .int .u8 0, .int .u8 0, .int .u8 0, .int .u8 0, .int .u8 0, .int .u8 0, .int .u8 0, .int .u8 0, .int .u8 0, .int .u8 0, .int .u8 0, .int .u8 0, .int .u8 0, .int .u8 0, .int .u8 0, .int .u8 0, .int .u8 0] 23)) w4.heap.size (u8s zero24) 23 := Blk.mk _ (u8s zero24) _ rfl
  have hne := Nat.ne_of_lt C4.lt
  have D5 := D4.setRow (u8s ys)
  have A4 : Blk ((w4.alloc (.cells #[.int .u8 0, .int .u8 0, .int .u8 0, .int .u8 0, .int .u8 0, .int .u8 0, .int .u8 0, .int .u8 0, .int .u8 0, .int .u8 0, .int .u8 0, .int .u8 0, .int .u8 0, .int .u8 0, .int .u8 0, .int .u8 0, .int .u8 0, .int .u8 0, .int .u8 0, .int .u8 0, .int .u8 0, .int .u8 0, .int .u8 0, .int .u8 0] 23)).setRow w4.heap.size (u8s ys).toArray) w2.heap.size (u8s ys) 23 := (C4.alloc _).farRow hne _
  clear hb4 C3 b3
  unfold fl
  go_wp2_with (first | (refine store_blk rfl 23 _ _ rfl _ rfl rfl D4 info_fl (by rw [u8s_length]; exact hl) (by rw [u8s_length]; exact zero24_length) (u8s_one _) ?_) | (refine load_blk rfl 23 _ rfl _ rfl D5 Try.underlying23 rfl info_fl (by rw [u8s_length]; exact hl) ?_) | (refine load_blk rfl 23 _ rfl _ rfl A4 Try.underlying23 rfl info_fl (by rw [u8s_length]; exact hl) ?_))
  refine (eqFlag_same _ hl _).mono ?_; rintro e w5 ⟨rfl, hb5⟩
  go_wp2_with (fail)
  go_ret
  exact ⟨rfl, bl_call (bl_setRow (bl_new b4 _) b4.size _) hb5⟩

set_option maxHeartbeats 1000000 in
theorem walk_FnExactBlurFlag (xs : List Int) (hx : xs.length = 24) (rx : ∀ x ∈ xs, 0 ≤ x ∧ x ≤ 255)  (w : World) :
    Calls Try.prog 9 #[fl xs] w fun e w' => e = .returned (.bool true) ∧ Below w.heap.size w w' := by
  have hl : (ok6 (vf xs) (blurL xs)).length = 6 := ok6_length (blurL_length _)
  have k1 := fun W => sBlurFlag_any xs hx rx W
  have k2 := fun W => BlurFlag_any xs hx rx W
  generalize (ok6 (vf xs) (blurL xs)) = ys at *
  generalize (codeV (vf xs)) = cc at *
  unfold fl
  have B0 := Blk.new w (u8s xs) 22
  have b0 := bl_new (Below.refl _ w) (.cells (u8s xs).toArray 22)
  go_enter Try.func9, Try.ntmps9
  go_wp2_with (refine load_blk rfl 22 _ rfl _ rfl B0 Try.underlying22 rfl info_fl' (by rw [u8s_length]; exact hx) ?_)
  refine (toFlag_any xs hx _).mono ?_; rintro e w1 ⟨rfl, hb1⟩
  go_wp2_with (fail)
  refine (k1 _).mono ?_; rintro e w2 ⟨rfl, hb2⟩
  have b2 := bl_call (bl_call b0 hb1) hb2
  have B2 := (B0.kept hb1).kept hb2
  have C2 : Blk (w2.alloc (.cells #[.int .u8 0, .int .u8 0, .int .u8 0, .int .u8 0, .int .u8 0, .int .u8 0] 35)) w2.heap.size (u8s zero6) 35 := Blk.mk _ (u8s zero6) _ rfl
  have A2 : Blk ((w2.alloc (.cells #[.int .u8 0, .int .u8 0, .int .u8 0, .int .u8 0, .int .u8 0, .int .u8 0] 35)).setRow w2.heap.size (u8s ys).toArray) w.heap.size (u8s xs) 22 := (B2.alloc _).farRow (Nat.ne_of_lt B2.lt) _
  clear B0 b0 hb1 hb2
  go_wp2_with (first | (refine store_blk rfl 35 _ _ rfl _ rfl (ds := u8s ys) rfl C2 info_b6 (by rw [u8s_length]; exact hl) (by rw [u8s_length]; exact rfl) (u8s_one _) ?_) | (refine load_blk rfl 22 _ rfl _ rfl A2 Try.underlying22 rfl info_fl' (by rw [u8s_length]; exact hx) ?_))
  refine (toFlag_any xs hx _).mono ?_; rintro e w3 ⟨rfl, hb3⟩
  have b3 := bl_call (bl_setRow (bl_new b2 _) b2.size _) hb3
  have C3 := (C2.setRow (u8s ys)).kept hb3
  have hs : w2.heap.size < w3.heap.size := C3.lt
  clear hb3 C2 B2 b2
  go_wp2_with (fail)
  refine (k2 _).mono ?_; rintro e w4 ⟨rfl, hb4⟩
  have b4 := bl_call b3 hb4
  have C4 := C3.kept hb4
  have D4 : Blk (w4.alloc (.cells #[.int .u8 0, .int .u8 0, .int .u8 0, .int .u8 0, .int .u8 0, .int .u8 0] 35)) w4.heap.size (u8s zero6) 35 := Blk.mk _ (u8s zero6) _ rfl
  have hne := Nat.ne_of_lt C4.lt
  have D5 := D4.setRow (u8s ys)
  have A4 : Blk ((w4.alloc (.cells #[.int .u8 0, .int .u8 0, .int .u8 0, .int .u8 0, .int .u8 0, .int .u8 0] 35)).setRow w4.heap.size (u8s ys).toArray) w2.heap.size (u8s ys) 35 := (C4.alloc _).farRow hne _
  clear hb4 C3 b3
  go_wp2_with (first | (refine store_blk rfl 35 _ _ rfl _ rfl (ds := u8s ys) rfl D4 info_b6 (by rw [u8s_length]; exact hl) (by rw [u8s_length]; exact rfl) (u8s_one _) ?_) | (refine load_blk rfl 35 _ rfl _ rfl D5 Try.underlying35 rfl info_b6 (by rw [u8s_length]; exact hl) ?_) | (refine load_blk rfl 35 _ rfl _ rfl A4 Try.underlying35 rfl info_b6 (by rw [u8s_length]; exact hl) ?_))
  refine (eqByteA6_same _ hl _).mono ?_; rintro e w5 ⟨rfl, hb5⟩
  go_wp2_with (fail)
  go_ret
  exact ⟨rfl, bl_call (bl_setRow (bl_new b4 _) b4.size _) hb5⟩
end Go.Proofs.Ytbekebjmnccbkaa
