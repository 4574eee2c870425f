/- Walks: laws of flags that are made of colours. -/
import Derived.Test.YtbekebjmnccbkaaG3
import Derived.Test.YtbekebjmnccbkaaG5
import Derived.Test.YtbekebjmnccbkaaG7
set_option linter.unusedVariables false
namespace Go.Proofs.Ytbekebjmnccbkaa
open Go.RowKit

set_option maxHeartbeats 800000 in
theorem walk_FnExactCrossOf (a : Int) (ha : -9223372036854775808 ≤ a ∧ a ≤ 9223372036854775807) (b : Int) (hb : -9223372036854775808 ≤ b ∧ b ≤ 9223372036854775807) (w : World) :
    Calls Try.prog 6 #[.int .i64 a, .int .i64 b] w fun e w' => e = .returned (.bool true) ∧ Below w.heap.size w w' := by
  have hl : (okF (aC [a, b]) (madeL 0 a b)).length = 24 := okF_length (madeL_length _ _ _)
  have k1 := fun W => sCrossOf_any a b W
  have k2 := fun W => CrossOf_any a b W
  generalize (okF (aC [a, b]) (madeL 0 a b)) = ys at *
  generalize (codeR (aC [a, b])) = cc at *
  go_enter Try.func6, Try.ntmps6
  go_wp2_with (fail)
  refine (k1 _).mono ?_; rintro e w1 ⟨rfl, hb1⟩
  have C1 : Blk (w1.alloc (.cells #[.int .u8 0, .int .u8 0, .int .u8 0, .int .u8 0, .int .u8 0, .int .u8 0, .int .u8 0, .int .u8 0, .int .u8 0, .int .u8 0, .int .u8 0, .int .u8 0, .int .u8 0, .int .u8 0, .int .u8 0, .int .u8 0, .int .u8 0, .int .u8 0, .int .u8 0, .int .u8 0, .int .u8 0, .int .u8 0, .int .u8 0, .int .u8 0] 23)) w1.heap.size (u8s zero24) 23 := Blk.mk _ (u8s zero24) _ rfl
  have C2 := C1.setRow (u8s ys)
  have b1 := bl_setRow (bl_new hb1 (.cells #[.int .u8 0, .int .u8 0, .int .u8 0, .int .u8 0, .int .u8 0, .int .u8 0, .int .u8 0, .int .u8 0, .int .u8 0, .int .u8 0, .int .u8 0, .int .u8 0, .int .u8 0, .int .u8 0, .int .u8 0, .int .u8 0, .int .u8 0, .int .u8 0, .int .u8 0, .int .u8 0, .int .u8 0, .int .u8 0, .int .u8 0, .int .u8 0] 23)) hb1.size (u8s ys).toArray
  clear hb1
  unfold fl
  go_wp2_with (refine store_blk rfl 23 _ _ rfl _ rfl rfl C1 info_fl (by rw [u8s_length]; exact hl) (by rw [u8s_length]; exact zero24_length) (u8s_one _) ?_)
  refine (k2 _).mono ?_; rintro e w2 ⟨rfl, hb2⟩
  have C3 := C2.kept hb2
  have b2 := bl_call b1 hb2
  have D1 : Blk (w2.alloc (.cells #[.int .u8 0, .int .u8 0, .int .u8 0, .int .u8 0, .int .u8 0, .int .u8 0, .int .u8 0, .int .u8 0, .int .u8 0, .int .u8 0, .int .u8 0, .int .u8 0, .int .u8 0, .int .u8 0, .int .u8 0, .int .u8 0, .int .u8 0, .int .u8 0, .int .u8 0, .int .u8 0, .int .u8 0, .int .u8 0, .int .u8 0, .int .u8 0] 23)) w2.heap.size (u8s zero24) 23 := Blk.mk _ (u8s zero24) _ rfl
  have D2 := D1.setRow (u8s ys)
  have A2 : Blk ((w2.alloc (.cells #[.int .u8 0, .int .u8 0, .int .u8 0, .int .u8 0, .int .u8 0, .int .u8 0, .int .u8 0, .int .u8 0, .int .u8 0, .int .u8 0, .int .u8 0, .int .u8 0, .int .u8 0, .int .u8 0, .int .u8 0, .int .u8 0, .int .u8 0, .int .u8 0, .int .u8 0, .int .u8 0, .int .u8 0, .int .u8 0, .int .u8 0, .int .u8 0] 23)).setRow w2.heap.size (u8s ys).toArray) w1.heap.size (u8s ys) 23 := (C3.alloc _).farRow (Nat.ne_of_lt C3.lt) _
  have b3 := bl_setRow (bl_new b2 (.cells #[.int .u8 0, .int .u8 0, .int .u8 0, .int .u8 0, .int .u8 0, .int .u8 0, .int .u8 0, .int .u8 0, .int .u8 0, .int .u8 0, .int .u8 0, .int .u8 0, .int .u8 0, .int .u8 0, .int .u8 0, .int .u8 0, .int .u8 0, .int .u8 0, .int .u8 0, .int .u8 0, .int .u8 0, .int .u8 0, .int .u8 0, .int .u8 0] 23)) b2.size (u8s ys).toArray
  clear hb2 b1 C1 C2
  unfold fl
  go_wp2_with (first | (refine store_blk rfl 23 _ _ rfl _ rfl rfl D1 info_fl (by rw [u8s_length]; exact hl) (by rw [u8s_length]; exact zero24_length) (u8s_one _) ?_) | (refine load_blk rfl 23 _ rfl _ rfl D2 Try.underlying23 rfl info_fl (by rw [u8s_length]; exact hl) ?_) | (refine load_blk rfl 23 _ rfl _ rfl A2 Try.underlying23 rfl info_fl (by rw [u8s_length]; exact hl) ?_))
  refine (eqFlag_same _ hl _).mono ?_; rintro e w3 ⟨rfl, hb3⟩
  go_wp2_with (fail)
  go_ret
  exact ⟨rfl, bl_call b3 hb3⟩

set_option maxHeartbeats 800000 in
theorem walk_FnExactBorderOf (a : Int) (ha : -9223372036854775808 ≤ a ∧ a ≤ 9223372036854775807) (b : Int) (hb : -9223372036854775808 ≤ b ∧ b ≤ 9223372036854775807) (w : World) :
    Calls Try.prog 7 #[.int .i64 a, .int .i64 b] w fun e w' => e = .returned (.bool true) ∧ Below w.heap.size w w' := by
  have hl : (okF (aC [a, b]) (madeL 1 a b)).length = 24 := okF_length (madeL_length _ _ _)
  have k1 := fun W => sBorderOf_any a b W
  have k2 := fun W => BorderOf_any a b W
  generalize (okF (aC [a, b]) (madeL 1 a b)) = ys at *
  generalize (codeR (aC [a, b])) = cc at *
  go_enter Try.func7, Try.ntmps7
  go_wp2_with (fail)
  refine (k1 _).mono ?_; rintro e w1 ⟨rfl, hb1⟩
  have C1 : Blk (w1.alloc (.cells #[.int .u8 0, .int .u8 0, .int .u8 0, .int .u8 0, .int .u8 0, .int .u8 0, .int .u8 0, .int .u8 0, .int .u8 0, .int .u8 0, .int .u8 0, .int .u8 0, .int .u8 0, .int .u8 0, .int .u8 0, .int .u8 0, .int .u8 0, .int .u8 0, .int .u8 0, .int .u8 0, .int .u8 0, .int .u8 0, .int .u8 0, .int .u8 0] 23)) w1.heap.size (u8s zero24) 23 := Blk.mk _ (u8s zero24) _ rfl
  have C2 := C1.setRow (u8s ys)
  have b1 := bl_setRow (bl_new hb1 (.cells #[.int .u8 0, .int .u8 0, .int .u8 0, .int .u8 0, .int .u8 0, .int .u8 0, .int .u8 0, .int .u8 0, .int .u8 0, .int .u8 0, .int .u8 0, .int .u8 0, .int .u8 0, .int .u8 0, .int .u8 0, .int .u8 0, .int .u8 0, .int .u8 0, .int .u8 0, .int .u8 0, .int .u8 0, .int .u8 0, .int .u8 0, .int .u8 0] 23)) hb1.size (u8s ys).toArray
  clear hb1
  unfold fl
  go_wp2_with (refine store_blk rfl 23 _ _ rfl _ rfl rfl C1 info_fl (by rw [u8s_length]; exact hl) (by rw [u8s_length]; exact zero24_length) (u8s_one _) ?_)
  refine (k2 _).mono ?_; rintro e w2 ⟨rfl, hb2⟩
  have C3 := C2.kept hb2
  have b2 := bl_call b1 hb2
  have D1 : Blk (w2.alloc (.cells #[.int .u8 0, .int .u8 0, .int .u8 0, .int .u8 0, .int .u8 0, .int .u8 0, .int .u8 0, .int .u8 0, .int .u8 0, .int .u8 0, .int .u8 0, .int .u8 0, .int .u8 0, .int .u8 0, .int .u8 0, .int .u8 0, .int .u8 0, .int .u8 0, .int .u8 0, .int .u8 0, .int .u8 0, .int .u8 0, .int .u8 0, .int .u8 0] 23)) w2.heap.size (u8s zero24) 23 := Blk.mk _ (u8s zero24) _ rfl
  have D2 := D1.setRow (u8s ys)
  have A2 : Blk ((w2.alloc (.cells #[.int .u8 0, .int .u8 0, .int .u8 0, .int .u8 0, .int .u8 0, .int .u8 0, .int .u8 0, .int .u8 0, .int .u8 0, .int .u8 0, .int .u8 0, .int .u8 0, .int .u8 0, .int .u8 0, .int .u8 0, .int .u8 0, .int .u8 0, .int .u8 0, .int .u8 0, .int .u8 0, .int .u8 0, .int .u8 0, .int .u8 0, .int .u8 0] 23)).setRow w2.heap.size (u8s ys).toArray) w1.heap.size (u8s ys) 23 := (C3.alloc _).farRow (Nat.ne_of_lt C3.lt) _
  have b3 := bl_setRow (bl_new b2 (.cells #[.int .u8 0, .int .u8 0, .int .u8 0, .int .u8 0, .int .u8 0, .int .u8 0, .int .u8 0, .int .u8 0, .int .u8 0, .int .u8 0, .int .u8 0, .int .u8 0, .int .u8 0, .int .u8 0, .int .u8 0, .int .u8 0, .int .u8 0, .int .u8 0, .int .u8 0, .int .u8 0, .int .u8 0, .int .u8 0, .int .u8 0, .int .u8 0] 23)) b2.size (u8s ys).toArray
  clear hb2 b1 C1 C2
  unfold fl
  go_wp2_with (first | (refine store_blk rfl 23 _ _ rfl _ rfl rfl D1 info_fl (by rw [u8s_length]; exact hl) (by rw [u8s_length]; exact zero24_length) (u8s_one _) ?_) | (refine load_blk rfl 23 _ rfl _ rfl D2 Try.underlying23 rfl info_fl (by rw [u8s_length]; exact hl) ?_) | (refine load_blk rfl 23 _ rfl _ rfl A2 Try.underlying23 rfl info_fl (by rw [u8s_length]; exact hl) ?_))
  refine (eqFlag_same _ hl _).mono ?_; rintro e w3 ⟨rfl, hb3⟩
  go_wp2_with (fail)
  go_ret
  exact ⟨rfl, bl_call b3 hb3⟩

set_option maxHeartbeats 800000 in
theorem walk_FnExactChequersOf (a : Int) (ha : -9223372036854775808 ≤ a ∧ a ≤ 9223372036854775807) (b : Int) (hb : -9223372036854775808 ≤ b ∧ b ≤ 9223372036854775807) (w : World) :
    Calls Try.prog 5 #[.int .i64 a, .int .i64 b] w fun e w' => e = .returned (.bool true) ∧ Below w.heap.size w w' := by
  have hl : (okF (aC [a, b]) (madeL 2 a b)).length = 24 := okF_length (madeL_length _ _ _)
  have k1 := fun W => sChequersOf_any a b W
  have k2 := fun W => ChequersOf_any a b W
  generalize (okF (aC [a, b]) (madeL 2 a b)) = ys at *
  generalize (codeR (aC [a, b])) = cc at *
  go_enter Try.func5, Try.ntmps5
  go_wp2_with (fail)
  refine (k1 _).mono ?_; rintro e w1 ⟨rfl, hb1⟩
  have C1 : Blk (w1.alloc (.cells #[.int .u8 0, .int .u8 0, .int .u8 0, .int .u8 0, .int .u8 0, .int .u8 0, .int .u8 0, .int .u8 0, .int .u8 0, .int .u8 0, .int .u8 0, .int .u8 0, .int .u8 0, .int .u8 0, .int .u8 0, .int .u8 0, .int .u8 0, .int .u8 0, .int .u8 0, .int .u8 0, .int .u8 0, .int .u8 0, .int .u8 0, .int .u8 0] 23)) w1.heap.size (u8s zero24) 23 := Blk.mk _ (u8s zero24) _ rfl
  have C2 := C1.setRow (u8s ys)
  have b1 := bl_setRow (bl_new hb1 (.cells #[.int .u8 0, .int .u8 0, .int .u8 0, .int .u8 0, .int .u8 0, .int .u8 0, .int .u8 0, .int .u8 0, .int .u8 0, .int .u8 0, .int .u8 0, .int .u8 0, .int .u8 0, .int .u8 0, .int .u8 0, .int .u8 0, .int .u8 0, .int .u8 0, .int .u8 0, .int .u8 0, .int .u8 0, .int .u8 0, .int .u8 0, .int .u8 0] 23)) hb1.size (u8s ys).toArray
  clear hb1
  unfold fl
  go_wp2_with (refine store_blk rfl 23 _ _ rfl _ rfl rfl C1 info_fl (by rw [u8s_length]; exact hl) (by rw [u8s_length]; exact zero24_length) (u8s_one _) ?_)
  refine (k2 _).mono ?_; rintro e w2 ⟨rfl, hb2⟩
  have C3 := C2.kept hb2
  have b2 := bl_call b1 hb2
  have D1 : Blk (w2.alloc (.cells #[.int .u8 0, .int .u8 0, .int .u8 0, .int .u8 0, .int .u8 0, .int .u8 0, .int .u8 0, .int .u8 0, .int .u8 0, .int .u8 0, .int .u8 0, .int .u8 0, .int .u8 0, .int .u8 0, .int .u8 0, .int .u8 0, .int .u8 0, .int .u8 0, .int .u8 0, .int .u8 0, .int .u8 0, .int .u8 0, .int .u8 0, .int .u8 0] 23)) w2.heap.size (u8s zero24) 23 := Blk.mk _ (u8s zero24) _ rfl
  have D2 := D1.setRow (u8s ys)
  have A2 : Blk ((w2.alloc (.cells #[.int .u8 0, .int .u8 0, .int .u8 0, .int .u8 0, .int .u8 0, .int .u8 0, .int .u8 0, .int .u8 0, .int .u8 0, .int .u8 0, .int .u8 0, .int .u8 0, .int .u8 0, .int .u8 0, .int .u8 0, .int .u8 0, .int .u8 0, .int .u8 0, .int .u8 0, .int .u8 0, .int .u8 0, .int .u8 0, .int .u8 0, .int .u8 0] 23)).setRow w2.heap.size (u8s ys).toArray) w1.heap.size (u8s ys) 23 := (C3.alloc _).farRow (Nat.ne_of_lt C3.lt) _
  have b3 := bl_setRow (bl_new b2 (.cells #[.int .u8 0, .int .u8 0, .int .u8 0, .int .u8 0, .int .u8 0, .int .u8 0, .int .u8 0, .int .u8 0, .int .u8 0, .int .u8 0, .int .u8 0, .int .u8 0, .int .u8 0, .int .u8 0, .int .u8 0, .int .u8 0, .int .u8 0, .int .u8 0, .int .u8 0, .int .u8 0, .int .u8 0, .int .u8 0, .int .u8 0, .int .u8 0] 23)) b2.size (u8s ys).toArray
  clear hb2 b1 C1 C2
  unfold fl
  go_wp2_with (first | (refine store_blk rfl 23 _ _ rfl _ rfl rfl D1 info_fl (by rw [u8s_length]; exact hl) (by rw [u8s_length]; exact zero24_length) (u8s_one _) ?_) | (refine load_blk rfl 23 _ rfl _ rfl D2 Try.underlying23 rfl info_fl (by rw [u8s_length]; exact hl) ?_) | (refine load_blk rfl 23 _ rfl _ rfl A2 Try.underlying23 rfl info_fl (by rw [u8s_length]; exact hl) ?_))
  refine (eqFlag_same _ hl _).mono ?_; rintro e w3 ⟨rfl, hb3⟩
  go_wp2_with (fail)
  go_ret
  exact ⟨rfl, bl_call b3 hb3⟩

set_option maxHeartbeats 800000 in
theorem walk_FnExactPlainFlag (a : Int) (ha : -9223372036854775808 ≤ a ∧ a ≤ 9223372036854775807) (w : World) :
    Calls Try.prog 3 #[.int .i64 a] w fun e w' => e = .returned (.bool true) ∧ Below w.heap.size w w' := by
  have hl : (okF (inR a 0 5) (plainL a)).length = 24 := okF_length (plainL_length _)
  have k1 := fun W => sPlainFlag_any a W
  have k2 := fun W => PlainFlag_any a W
  generalize (okF (inR a 0 5) (plainL a)) = ys at *
  generalize (codeR (inR a 0 5)) = cc at *
  go_enter Try.func3, Try.ntmps3
  go_wp2_with (fail)
  refine (k1 _).mono ?_; rintro e w1 ⟨rfl, hb1⟩
  have C1 : Blk (w1.alloc (.cells #[.int .u8 0, .int .u8 0, .int .u8 0, .int .u8 0, .int .u8 0, .int .u8 0, .int .u8 0, .int .u8 0, .int .u8 0, .int .u8 0, .int .u8 0, .int .u8 0, .int .u8 0, .int .u8 0, .int .u8 0, .int .u8 0, .int .u8 0, .int .u8 0, .int .u8 0, .int .u8 0, .int .u8 0, .int .u8 0, .int .u8 0, .int .u8 0] 23)) w1.heap.size (u8s zero24) 23 := Blk.mk _ (u8s zero24) _ rfl
  have C2 := C1.setRow (u8s ys)
  have b1 := bl_setRow (bl_new hb1 (.cells #[.int .u8 0, .int .u8 0, .int .u8 0, .int .u8 0, .int .u8 0, .int .u8 0, .int .u8 0, .int .u8 0, .int .u8 0, .int .u8 0, .int .u8 0, .int .u8 0, .int .u8 0, .int .u8 0, .int .u8 0, .int .u8 0, .int .u8 0, .int .u8 0, .int .u8 0, .int .u8 0, .int .u8 0, .int .u8 0, .int .u8 0, .int .u8 0] 23)) hb1.size (u8s ys).toArray
  clear hb1
  unfold fl
  go_wp2_with (refine store_blk rfl 23 _ _ rfl _ rfl rfl C1 info_fl (by rw [u8s_length]; exact hl) (by rw [u8s_length]; exact zero24_length) (u8s_one _) ?_)
  refine (k2 _).mono ?_; rintro e w2 ⟨rfl, hb2⟩
  have C3 := C2.kept hb2
  have b2 := bl_call b1 hb2
  have D1 : Blk (w2.alloc (.cells #[.int .u8 0, .int .u8 0, .int .u8 0, .int .u8 0, .int .u8 0, .int .u8 0, .int .u8 0, .int .u8 0, .int .u8 0, .int .u8 0, .int .u8 0, .int .u8 0, .int .u8 0, .int .u8 0, .int .u8 0, .int .u8 0, .int .u8 0, .int .u8 0, .int .u8 0, .int .u8 0, .int .u8 0, .int .u8 0, .int .u8 0, .int .u8 0] 23)) w2.heap.size (u8s zero24) 23 := Blk.mk _ (u8s zero24) _ rfl
  have D2 := D1.setRow (u8s ys)
  have A2 : Blk ((w2.alloc (.cells #[.int .u8 0, .int .u8 0, .int .u8 0, .int .u8 0, .int .u8 0, .int .u8 0, .int .u8 0, .int .u8 0, .int .u8 0, .int .u8 0, .int .u8 0, .int .u8 0, .int .u8 0, .int .u8 0, .int .u8 0, .int .u8 0, .int .u8 0, .int .u8 0, .int .u8 0, .int .u8 0, .int .u8 0, .int .u8 0, .int .u8 0, .int .u8 0] 23)).setRow w2.heap.size (u8s ys).toArray) w1.heap.size (u8s ys) 23 := (C3.alloc _).farRow (Nat.ne_of_lt C3.lt) _
  have b3 := bl_setRow (bl_new b2 (.cells #[.int .u8 0, .int .u8 0, .int .u8 0, .int .u8 0, .int .u8 0, .int .u8 0, .int .u8 0, .int .u8 0, .int .u8 0, .int .u8 0, .int .u8 0, .int .u8 0, .int .u8 0, .int .u8 0, .int .u8 0, .int .u8 0, .int .u8 0, .int .u8 0, .int .u8 0, .int .u8 0, .int .u8 0, .int .u8 0, .int .u8 0, .int .u8 0] 23)) b2.size (u8s ys).toArray
  clear hb2 b1 C1 C2
  unfold fl
  go_wp2_with (first | (refine store_blk rfl 23 _ _ rfl _ rfl rfl D1 info_fl (by rw [u8s_length]; exact hl) (by rw [u8s_length]; exact zero24_length) (u8s_one _) ?_) | (refine load_blk rfl 23 _ rfl _ rfl D2 Try.underlying23 rfl info_fl (by rw [u8s_length]; exact hl) ?_) | (refine load_blk rfl 23 _ rfl _ rfl A2 Try.underlying23 rfl info_fl (by rw [u8s_length]; exact hl) ?_))
  refine (eqFlag_same _ hl _).mono ?_; rintro e w3 ⟨rfl, hb3⟩
  go_wp2_with (fail)
  go_ret
  exact ⟨rfl, bl_call b3 hb3⟩
end Go.Proofs.Ytbekebjmnccbkaa
