import Derived.Test.YtlgpelcnhdalpaaF7
import Derived.Test.YtlgpelcnhdalpaaF2
import Derived.Test.YtlgpelcnhdalpaaF15
set_option linter.unusedVariables false
namespace Go.Proofs.Ytlgpelcnhdalpaa
open Go.RowKit
set_option maxHeartbeats 800000 in
theorem walk_FnExactCellOf (xs : List Int) (hx : xs.length = 24) (rx : ∀ x ∈ xs, 0 ≤ x ∧ x ≤ 255) (x : Int) (nx : -9223372036854775808 ≤ x ∧ x ≤ 9223372036854775807) (y : Int) (ny : -9223372036854775808 ≤ y ∧ y ≤ 9223372036854775807) (w : World) :
    Calls Try.prog 10 #[fl xs, .int .i64 x, .int .i64 y] w fun e w' => e = .returned (.bool true) ∧ Below w.heap.size w w' := by
  clear nx ny
  unfold fl
  have B0 := Blk.new w (u8s xs) 25
  have b0 := bl_new (Below.refl _ w) (.cells (u8s xs).toArray 25)
  go_enter Try.func10, Try.ntmps10
  go_wp2_with (refine load_blk rfl 25 _ rfl _ rfl B0 Try.underlying25 rfl info_fl' (by rw [u8s_length]; exact hx) ?_)
  refine (toFlag_any xs hx _).mono ?_; rintro e w1 ⟨rfl, hb1⟩
  go_wp2_with (fail)
  refine (sCellOf_any xs hx rx x y _).mono ?_; rintro e w2 ⟨rfl, hb2⟩
  have b2 := bl_call (bl_call b0 hb1) hb2
  have B2 := (B0.kept hb1).kept hb2
  clear B0 b0 hb1 hb2
  go_wp2_with (refine load_blk rfl 25 _ rfl _ rfl B2 Try.underlying25 rfl info_fl' (by rw [u8s_length]; exact hx) ?_)
  refine (toFlag_any xs hx _).mono ?_; rintro e w3 ⟨rfl, hb3⟩
  go_wp2_with (fail)
  refine (CellOf_any xs hx rx x y _).mono ?_; rintro e w4 ⟨rfl, hb4⟩
  go_wp2_with (fail)
  go_ret
  exact ⟨rfl, bl_call (bl_call b2 hb3) hb4⟩

set_option maxHeartbeats 800000 in
theorem walk_FnExactCountColours (xs : List Int) (hx : xs.length = 24) (rx : ∀ x ∈ xs, 0 ≤ x ∧ x ≤ 255) (w : World) :
    Calls Try.prog 8 #[fl xs] w fun e w' => e = .returned (.bool true) ∧ Below w.heap.size w w' := by
  unfold fl
  have B0 := Blk.new w (u8s xs) 25
  have b0 := bl_new (Below.refl _ w) (.cells (u8s xs).toArray 25)
  have hl : (ok6 (vf xs) (countL xs 24)).length = 6 := ok6_length (countL_length xs 24)
  go_enter Try.func8, Try.ntmps8
  go_wp2_with (refine load_blk rfl 25 _ rfl _ rfl B0 Try.underlying25 rfl info_fl' (by rw [u8s_length]; exact hx) ?_)
  refine (toFlag_any xs hx _).mono ?_; rintro e w1 ⟨rfl, hb1⟩
  go_wp2_with (fail)
  refine (sCountColours_any xs hx rx _).mono ?_; rintro e w2 ⟨rfl, hb2⟩
  have b2 := bl_call (bl_call b0 hb1) hb2
  have B2 := (B0.kept hb1).kept hb2
  have C2 : Blk (w2.alloc (.cells #[.int .i64 0, .int .i64 0, .int .i64 0, .int .i64 0, .int .i64 0, .int .i64 0] 35)) w2.heap.size (i64s zero6) 35 := Blk.mk _ (i64s zero6) _ rfl
  have A2 : Blk ((w2.alloc (.cells #[.int .i64 0, .int .i64 0, .int .i64 0, .int .i64 0, .int .i64 0, .int .i64 0] 35)).setRow w2.heap.size (i64s (ok6 (vf xs) (countL xs 24))).toArray) w.heap.size (u8s xs) 25 := (B2.alloc _).farRow (Nat.ne_of_lt B2.lt) _
  clear B0 b0 hb1 hb2
  go_wp2_with (first | (refine store_blk rfl 35 _ _ rfl _ rfl (ds := i64s (ok6 (vf xs) (countL xs 24))) rfl C2 info_6 (by rw [i64s_length]; exact hl) (by rw [i64s_length]; exact rfl) (i64s_one _) ?_) | (refine load_blk rfl 25 _ rfl _ rfl A2 Try.underlying25 rfl info_fl' (by rw [u8s_length]; exact hx) ?_))
  refine (toFlag_any xs hx _).mono ?_; rintro e w3 ⟨rfl, hb3⟩
  have b3 := bl_call (bl_setRow (bl_new b2 _) b2.size _) hb3
  have C3 := (C2.setRow (i64s (ok6 (vf xs) (countL xs 24)))).kept hb3
  have hs : w2.heap.size < w3.heap.size := C3.lt
  clear hb3 C2 B2 b2
  go_wp2_with (fail)
  refine (CountColours_any xs hx rx _).mono ?_; rintro e w4 ⟨rfl, hb4⟩
  have b4 := bl_call b3 hb4
  have C4 := C3.kept hb4
  have D4 : Blk (w4.alloc (.cells #[.int .i64 0, .int .i64 0, .int .i64 0, .int .i64 0, .int .i64 0, .int .i64 0] 35)) w4.heap.size (i64s zero6) 35 := Blk.mk _ (i64s zero6) _ rfl
  have hne := Nat.ne_of_lt C4.lt
  have D5 := D4.setRow (i64s (ok6 (vf xs) (countL xs 24)))
  have A4 : Blk ((w4.alloc (.cells #[.int .i64 0, .int .i64 0, .int .i64 0, .int .i64 0, .int .i64 0, .int .i64 0] 35)).setRow w4.heap.size (i64s (ok6 (vf xs) (countL xs 24))).toArray) w2.heap.size (i64s (ok6 (vf xs) (countL xs 24))) 35 := (C4.alloc _).farRow hne _
  clear hb4 C3 b3
  go_wp2_with (first | (refine store_blk rfl 35 _ _ rfl _ rfl (ds := i64s (ok6 (vf xs) (countL xs 24))) rfl D4 info_6 (by rw [i64s_length]; exact hl) (by rw [i64s_length]; exact rfl) (i64s_one _) ?_) | (refine load_blk rfl 35 _ rfl _ rfl D5 Try.underlying35 rfl info_6 (by rw [i64s_length]; exact hl) ?_) | (refine load_blk rfl 35 _ rfl _ rfl A4 Try.underlying35 rfl info_6 (by rw [i64s_length]; exact hl) ?_))
  refine (eqInt64A6_same _ hl _).mono ?_; rintro e w5 ⟨rfl, hb5⟩
  go_wp2_with (fail)
  go_ret
  exact ⟨rfl, bl_call (bl_setRow (bl_new b4 _) b4.size _) hb5⟩
end Go.Proofs.Ytlgpelcnhdalpaa
