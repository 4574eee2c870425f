/- Walks: the laws of RecolourFlag and StripesOf. -/
import Derived.Test.YtbekebjmnccbkaaG10
import Derived.Test.YtbekebjmnccbkaaG9
import Derived.Test.YtbekebjmnccbkaaG8
import Derived.Test.YtbekebjmnccbkaaT1
set_option linter.unusedVariables false
namespace Go.Proofs.Ytbekebjmnccbkaa
open Go.RowKit

set_option maxHeartbeats 1000000 in
theorem walk_FnExactRecolourFlag (xs : List Int) (hx : xs.length = 24) (rx : ∀ x ∈ xs, 0 ≤ x ∧ x ≤ 255) (p : Int) (hp : -9223372036854775808 ≤ p ∧ p ≤ 9223372036854775807) (q : Int) (hq : -9223372036854775808 ≤ q ∧ q ≤ 9223372036854775807) (w : World) :
    Calls Try.prog 4 #[fl xs, .int .i64 p, .int .i64 q] w fun e w' => e = .returned (.bool true) ∧ Below w.heap.size w w' := by
  have hl : (recL xs p q).length = 24 := recL_length _ _ _
  have k1 := fun W => sRecolourFlag_any xs hx rx p q W
  have k2 := fun W => RecolourFlag_any xs hx rx p q W
  generalize (recL xs p q) = ys at *
  generalize (recC xs p q) = cc at *
  unfold fl
  have B0 := Blk.new w (u8s xs) 22
  have b0 := bl_new (Below.refl _ w) (.cells (u8s xs).toArray 22)
  go_enter Try.func4, Try.ntmps4
  go_wp2_with (refine load_blk rfl 22 _ rfl _ rfl B0 Try.underlying22 rfl info_fl' (by rw [u8s_length]; exact hx) ?_)
  refine (toFlag_any xs hx _).mono ?_; rintro e w1 ⟨rfl, hb1⟩
  go_wp2_with (fail)
  refine (k1 _).mono ?_; rintro e w2 ⟨rfl, hb2⟩
  have b2 := bl_call (bl_call b0 hb1) hb2
  have B2 := (B0.kept hb1).kept hb2
  have C2 : Blk (w2.alloc (.cells #[.int .u8 0, .int .u8 0, .int .u8 0, .int .u8 0, .int .u8 0, .int .u8 0, .int .u8 0, .int .u8 0, .int .u8 0, .int .u8 0, .int .u8 0, .int .u8 0, .int .u8 0, .int .u8 0, .int .u8 0, .int .u8 0, .int .u8 0, .int .u8 0, .int .u8 0, .int .u8 0, .int .u8 0, .int .u8 0, .int .u8 0, .int .u8 0] 23)) w2.heap.size (u8s zero24) 23 := Blk.mk _ (u8s zero24) _ rfl
  have A2 : Blk ((w2.alloc (.cells #[.int .u8 0, .int .u8 0, .int .u8 0, .int .u8 0, .int .u8 0, .int .u8 0, .int .u8 0, .int .u8 0, .int .u8 0, .int .u8 0, .int .u8 0, .int .u8 0, .int .u8 0, .int .u8 0, .int .u8 0, .int .u8 0, .int .u8 0, .int .u8 0, .int .u8 0, .int .u8 0, .int .u8 0, .int .u8 0, .int .u8 0, .int .u8 0] 23)).setRow w2.heap.size (u8s ys).toArray) w.heap.size (u8s xs) 22 := (B2.alloc _).farRow (Nat.ne_of_lt B2.lt) _
  clear B0 b0 hb1 hb2
  unfold fl
  go_wp2_with (first | (refine store_blk rfl 23 _ _ rfl _ rfl rfl C2 info_fl (by rw [u8s_length]; exact hl) (by rw [u8s_length]; exact zero24_length) (u8s_one _) ?_) | (refine load_blk rfl 22 _ rfl _ rfl A2 Try.underlying22 rfl info_fl' (by rw [u8s_length]; exact hx) ?_))
  refine (toFlag_any xs hx _).mono ?_; rintro e w3 ⟨rfl, hb3⟩
  have b3 := bl_call (bl_setRow (bl_new b2 _) b2.size _) hb3
  have C3 := (C2.setRow (u8s ys)).kept hb3
  have hs : w2.heap.size < w3.heap.size := C3.lt
  clear hb3 C2 B2 b2
  go_wp2_with (fail)
  refine (k2 _).mono ?_; rintro e w4 ⟨rfl, hb4⟩
  have b4 := bl_call b3 hb4
  have C4 := C3.kept hb4
  have D4 : Blk (w4.alloc (.cells #[.int .u8 0, .int .u8 0, .int .u8 0, .int .u8 0, .int .u8 0, .int .u8 0, .int .u8 0, .int .u8 0, .int .u8 0, .int .u8 0, .int .u8 0, .int .u8 0, .int .u8 0, .int .u8 0, .int .u8 0, .int .u8 0, .int .u8 0, .int .u8 0, .int .u8 0, .int .u8 0, .int .u8 0, .int .u8 0, .int .u8 0, .int .u8 0] 23)) w4.heap.size (u8s zero24) 23 := Blk.mk _ (u8s zero24) _ rfl
  have hne := Nat.ne_of_lt C4.lt
  have D5 := D4.setRow (u8s ys)
  have A4 : Blk ((w4.alloc (.cells #[.int .u8 0, .int .u8 0, .int .u8 0, .int .u8 0, .int .u8 0, .int .u8 0, .int .u8 0, .int .u8 0, .int .u8 0, .int .u8 0, .int .u8 0, .int .u8 0, .int .u8 0, .int .u8 0, .int .u8 0, .int .u8 0, .int .u8 0, .int .u8 0, .int .u8 0, .int .u8 0, .int .u8 0, .int .u8 0, .int .u8 0, .int .u8 0] 23)).setRow w4.heap.size (u8s ys).toArray) w2.heap.size (u8s ys) 23 := (C4.alloc _).farRow hne _
  clear hb4 C3 b3
  unfold fl
  go_wp2_with (first | (refine store_blk rfl 23 _ _ rfl _ rfl rfl D4 info_fl (by rw [u8s_length]; exact hl) (by rw [u8s_length]; exact zero24_length) (u8s_one _) ?_) | (refine load_blk rfl 23 _ rfl _ rfl D5 Try.underlying23 rfl info_fl (by rw [u8s_length]; exact hl) ?_) | (refine load_blk rfl 23 _ rfl _ rfl A4 Try.underlying23 rfl info_fl (by rw [u8s_length]; exact hl) ?_))
  refine (eqFlag_same _ hl _).mono ?_; rintro e w5 ⟨rfl, hb5⟩
  go_wp2_with (fail)
  go_ret
  exact ⟨rfl, bl_call (bl_setRow (bl_new b4 _) b4.size _) hb5⟩

set_option maxHeartbeats 1000000 in
theorem walk_FnExactStripesOf (w : World) (A : Option Addr) (xs : List Int) (c : Nat) (sx : Sl .i64 w A xs) (rx : ∀ n ∈ xs, -9223372036854775808 ≤ n ∧ n ≤ 9223372036854775807) (up : Bool) :
    Calls Try.prog 10 #[.slice A xs.length c, .bool up] w fun e w' => e = .returned (.bool true) ∧ Below w.heap.size w w' := by
  have hx9 := sx.1
  by_cases h1 : xs.length ≤ 1048576
  · have h1' : (xs.length : Int) ≤ 1048576 := by omega
    have hl : (okF (stripesOk xs up) (stripeL xs up)).length = 24 := okF_length (stripeL_length _ _)
    have k1 := fun A c W h => sStripesOf_any xs up A c W h h1
    have k2 := fun A c W h => StripesOf_any xs up A c W h h1
    generalize (okF (stripesOk xs up) (stripeL xs up)) = ys at *
    generalize codeR (stripesOk xs up) = cc at *
    go_enter Try.func10, Try.ntmps10
    go_wp2_with (fail)
    refine (toInt64S_any xs A c _ sx h1).mono ?_; rintro e w1 ⟨rfl, X1, hb1⟩
    go_wp2_with (fail)
    refine (k1 _ _ _ (X1.sl hx9)).mono ?_; rintro e w2 ⟨rfl, hb2⟩
    have b2 := bl_call hb1 hb2
    have C1 : Blk (w2.alloc (.cells #[.int .u8 0, .int .u8 0, .int .u8 0, .int .u8 0, .int .u8 0, .int .u8 0, .int .u8 0, .int .u8 0, .int .u8 0, .int .u8 0, .int .u8 0, .int .u8 0, .int .u8 0, .int .u8 0, .int .u8 0, .int .u8 0, .int .u8 0, .int .u8 0, .int .u8 0, .int .u8 0, .int .u8 0, .int .u8 0, .int .u8 0, .int .u8 0] 23)) w2.heap.size (u8s zero24) 23 := Blk.mk _ (u8s zero24) _ rfl
    have C2 := C1.setRow (u8s ys)
    have b3 := bl_setRow (bl_new b2 (.cells #[.int .u8 0, .int .u8 0, .int .u8 0, .int .u8 0, .int .u8 0, .int .u8 0, .int .u8 0, .int .u8 0, .int .u8 0, .int .u8 0, .int .u8 0, .int .u8 0, .int .u8 0, .int .u8 0, .int .u8 0, .int .u8 0, .int .u8 0, .int .u8 0, .int .u8 0, .int .u8 0, .int .u8 0, .int .u8 0, .int .u8 0, .int .u8 0] 23)) b2.size (u8s ys).toArray
    have s3 := sx.kept b3
    clear hb1 hb2 b2 X1
    unfold fl
    go_wp2_with (refine store_blk rfl 23 _ _ rfl _ rfl rfl C1 info_fl (by rw [u8s_length]; exact hl) (by rw [u8s_length]; exact zero24_length) (u8s_one _) ?_)
    refine (toInt64S_any xs A c _ s3 h1).mono ?_; rintro e w3 ⟨rfl, X3, hb3⟩
    have b4 := bl_call b3 hb3
    have C3 := C2.kept hb3
    have X3' : Blk w3 (w2.heap.size + 1) (i64s xs) 2 := by simpa using X3
    clear C1 C2 b3 s3 hb3 X3
    go_wp2_with (fail)
    refine (k2 _ _ _ (X3'.sl hx9)).mono ?_; rintro e w4 ⟨rfl, hb4⟩
    have b5 := bl_call b4 hb4
    have C4 := C3.kept hb4
    have X4 := X3'.kept hb4
    have D4 : Blk (w4.alloc (.cells #[.int .u8 0, .int .u8 0, .int .u8 0, .int .u8 0, .int .u8 0, .int .u8 0, .int .u8 0, .int .u8 0, .int .u8 0, .int .u8 0, .int .u8 0, .int .u8 0, .int .u8 0, .int .u8 0, .int .u8 0, .int .u8 0, .int .u8 0, .int .u8 0, .int .u8 0, .int .u8 0, .int .u8 0, .int .u8 0, .int .u8 0, .int .u8 0] 23)) w4.heap.size (u8s zero24) 23 := Blk.mk _ (u8s zero24) _ rfl
    have D5 := D4.setRow (u8s ys)
    have A4 : Blk ((w4.alloc (.cells #[.int .u8 0, .int .u8 0, .int .u8 0, .int .u8 0, .int .u8 0, .int .u8 0, .int .u8 0, .int .u8 0, .int .u8 0, .int .u8 0, .int .u8 0, .int .u8 0, .int .u8 0, .int .u8 0, .int .u8 0, .int .u8 0, .int .u8 0, .int .u8 0, .int .u8 0, .int .u8 0, .int .u8 0, .int .u8 0, .int .u8 0, .int .u8 0] 23)).setRow w4.heap.size (u8s ys).toArray) w2.heap.size (u8s ys) 23 := (C4.alloc _).farRow (Nat.ne_of_lt C4.lt) _
    have X5 : Blk ((w4.alloc (.cells #[.int .u8 0, .int .u8 0, .int .u8 0, .int .u8 0, .int .u8 0, .int .u8 0, .int .u8 0, .int .u8 0, .int .u8 0, .int .u8 0, .int .u8 0, .int .u8 0, .int .u8 0, .int .u8 0, .int .u8 0, .int .u8 0, .int .u8 0, .int .u8 0, .int .u8 0, .int .u8 0, .int .u8 0, .int .u8 0, .int .u8 0, .int .u8 0] 23)).setRow w4.heap.size (u8s ys).toArray) (w2.heap.size + 1) (i64s xs) 2 := (X4.alloc _).farRow (Nat.ne_of_lt X4.lt) _
    have b6 := bl_setRow (bl_new b5 (.cells #[.int .u8 0, .int .u8 0, .int .u8 0, .int .u8 0, .int .u8 0, .int .u8 0, .int .u8 0, .int .u8 0, .int .u8 0, .int .u8 0, .int .u8 0, .int .u8 0, .int .u8 0, .int .u8 0, .int .u8 0, .int .u8 0, .int .u8 0, .int .u8 0, .int .u8 0, .int .u8 0, .int .u8 0, .int .u8 0, .int .u8 0, .int .u8 0] 23)) b5.size (u8s ys).toArray
    clear b4 b5 hb4 C3 C4 X3' X4
    unfold fl
    go_wp2_with (first | (refine store_blk rfl 23 _ _ rfl _ rfl rfl D4 info_fl (by rw [u8s_length]; exact hl) (by rw [u8s_length]; exact zero24_length) (u8s_one _) ?_) | (refine load_blk rfl 23 _ rfl _ rfl D5 Try.underlying23 rfl info_fl (by rw [u8s_length]; exact hl) ?_) | (refine load_blk rfl 23 _ rfl _ rfl A4 Try.underlying23 rfl info_fl (by rw [u8s_length]; exact hl) ?_))
    refine (eqFlag_same _ hl _).mono ?_; rintro e w5 ⟨rfl, hb5⟩
    have b7 := bl_call b6 hb5
    have X6 := X5.kept hb5
    have s7 := sx.kept b7
    clear X5 D4 D5 A4
    go_wp2_with (fail)
    refine (toInt64S_any xs A c _ s7 h1).mono ?_; rintro e w6 ⟨rfl, X7, hb6⟩
    have X8 := X6.kept hb6
    go_wp2_with (fail)
    refine (eqInt64S_any xs xs _ _ _ _ _ (X8.sl hx9) (X7.sl hx9)).mono ?_; rintro e w7 ⟨rfl, hb7⟩
    go_wp2_with (fail)
    go_ret
    exact ⟨by simp, bl_call (bl_call b7 hb6) hb7⟩
  · have h1' : (1048576 : Int) < (xs.length : Int) := by omega
    go_enter Try.func10, Try.ntmps10
    go_wp2_with (fail)
    go_ret
    exact ⟨rfl, Below.refl _ _⟩
end Go.Proofs.Ytbekebjmnccbkaa
