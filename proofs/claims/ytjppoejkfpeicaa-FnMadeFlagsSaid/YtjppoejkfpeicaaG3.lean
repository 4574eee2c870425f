/- Contracts: crosses, borders, chequers. -/
import Derived.Test.YtjppoejkfpeicaaG2
set_option linter.unusedVariables false
namespace Go.Proofs.Ytjppoejkfpeicaa
open Go.RowKit

set_option maxHeartbeats 400000 in
theorem CrossOf_any (a b : Int) (w : World) :
    Calls Try.prog 21 #[.int .i64 a, .int .i64 b] w fun e w' => e = .returned (.tuple #[fl (okF (aC [a, b]) (madeL 0 a b)), .int .i64 (codeR (aC [a, b]))]) ∧ Below w.heap.size w w' := by
  have W0 : Blk ((((w.alloc (.cells #[.int .i64 a] 2)).alloc (.cells #[.int .i64 b] 2)).alloc (.cells #[.int .u8 0, .int .u8 0, .int .u8 0, .int .u8 0, .int .u8 0, .int .u8 0, .int .u8 0, .int .u8 0, .int .u8 0, .int .u8 0, .int .u8 0, .int .u8 0, .int .u8 0, .int .u8 0, .int .u8 0, .int .u8 0, .int .u8 0, .int .u8 0, .int .u8 0, .int .u8 0, .int .u8 0, .int .u8 0, .int .u8 0, .int .u8 0] 38)).alloc (.cells #[.int .i64 a, .int .i64 b] 2)) w.heap.size (i64s [a]) 2 := (((Blk.mk _ (i64s [a]) _ rfl).alloc _).alloc _).alloc _
  have W1 : Blk ((((w.alloc (.cells #[.int .i64 a] 2)).alloc (.cells #[.int .i64 b] 2)).alloc (.cells #[.int .u8 0, .int .u8 0, .int .u8 0, .int .u8 0, .int .u8 0, .int .u8 0, .int .u8 0, .int .u8 0, .int .u8 0, .int .u8 0, .int .u8 0, .int .u8 0, .int .u8 0, .int .u8 0, .int .u8 0, .int .u8 0, .int .u8 0, .int .u8 0, .int .u8 0, .int .u8 0, .int .u8 0, .int .u8 0, .int .u8 0, .int .u8 0] 38)).alloc (.cells #[.int .i64 a, .int .i64 b] 2)) (w.heap.size + 1) (i64s [b]) 2 := ((Blk.mk _ (i64s [b]) _ (by simp)).alloc _).alloc _
  have W2 : Blk ((((w.alloc (.cells #[.int .i64 a] 2)).alloc (.cells #[.int .i64 b] 2)).alloc (.cells #[.int .u8 0, .int .u8 0, .int .u8 0, .int .u8 0, .int .u8 0, .int .u8 0, .int .u8 0, .int .u8 0, .int .u8 0, .int .u8 0, .int .u8 0, .int .u8 0, .int .u8 0, .int .u8 0, .int .u8 0, .int .u8 0, .int .u8 0, .int .u8 0, .int .u8 0, .int .u8 0, .int .u8 0, .int .u8 0, .int .u8 0, .int .u8 0] 38)).alloc (.cells #[.int .i64 a, .int .i64 b] 2)) (w.heap.size + 1 + 1) (u8s zero24) 38 := (Blk.mk _ (u8s zero24) _ (by simp)).alloc _
  have W3 : Blk ((((w.alloc (.cells #[.int .i64 a] 2)).alloc (.cells #[.int .i64 b] 2)).alloc (.cells #[.int .u8 0, .int .u8 0, .int .u8 0, .int .u8 0, .int .u8 0, .int .u8 0, .int .u8 0, .int .u8 0, .int .u8 0, .int .u8 0, .int .u8 0, .int .u8 0, .int .u8 0, .int .u8 0, .int .u8 0, .int .u8 0, .int .u8 0, .int .u8 0, .int .u8 0, .int .u8 0, .int .u8 0, .int .u8 0, .int .u8 0, .int .u8 0] 38)).alloc (.cells #[.int .i64 a, .int .i64 b] 2)) (w.heap.size + 1 + 1 + 1) (i64s [a, b]) 2 := Blk.mk _ (i64s [a, b]) _ (by simp)
  have b0 : Below w.heap.size w ((((w.alloc (.cells #[.int .i64 a] 2)).alloc (.cells #[.int .i64 b] 2)).alloc (.cells #[.int .u8 0, .int .u8 0, .int .u8 0, .int .u8 0, .int .u8 0, .int .u8 0, .int .u8 0, .int .u8 0, .int .u8 0, .int .u8 0, .int .u8 0, .int .u8 0, .int .u8 0, .int .u8 0, .int .u8 0, .int .u8 0, .int .u8 0, .int .u8 0, .int .u8 0, .int .u8 0, .int .u8 0, .int .u8 0, .int .u8 0, .int .u8 0] 38)).alloc (.cells #[.int .i64 a, .int .i64 b] 2)) := bl_new (bl_new (bl_new (bl_new (Below.refl _ _) _) _) _) _
  have hl : (okF (aC [a, b]) (madeL 0 a b)).length = 24 := okF_length (madeL_length _ _ _)
  have key := pattern_any 59 #[.pointer (some ⟨w.heap.size + 1, 0, none⟩), .pointer (some ⟨w.heap.size, 0, none⟩)] (enters Try.func59 (by kernel_rfl) rfl) (madeF 0 a b) [a, b] (w.heap.size + 1 + 1 + 1) 0 2 _ (by simp) W3.range
    (fun h i _ => made_bd 0 a b h i) (fun _ W k hk hb => CrossOf1_any a b w.heap.size (w.heap.size + 1) k hk W ((W1.kept hb).at 0) ((W0.kept hb).at 0))
  rw [show (List.range 24).map (madeF 0 a b) = madeL 0 a b from rfl] at key
  generalize ho : okF (aC [a, b]) (madeL 0 a b) = ys at *
  go_enter Try.func21, Try.ntmps21
  go_wp2_with (fail)
  refine (key).mono ?_; rintro e w1 ⟨rfl, hb1⟩
  have h2 := W2.kept hb1
  unfold fl
  go_wp2_with (refine store_blk rfl 38 _ _ rfl _ rfl rfl h2 info_fl (by rw [u8s_length]; exact hl) (by rw [u8s_length]; exact zero24_length) (u8s_one _) ?_)
  refine ret_blk_tmp rfl _ rfl (h2.setRow _) Try.underlying38 rfl info_fl (by rw [u8s_length]; exact hl) rfl ⟨rfl, bl_setRow (bl_call b0 hb1) (by omega) _⟩

set_option maxHeartbeats 400000 in
theorem BorderOf_any (a b : Int) (w : World) :
    Calls Try.prog 22 #[.int .i64 a, .int .i64 b] w fun e w' => e = .returned (.tuple #[fl (okF (aC [a, b]) (madeL 1 a b)), .int .i64 (codeR (aC [a, b]))]) ∧ Below w.heap.size w w' := by
  have W0 : Blk ((((w.alloc (.cells #[.int .i64 a] 2)).alloc (.cells #[.int .i64 b] 2)).alloc (.cells #[.int .u8 0, .int .u8 0, .int .u8 0, .int .u8 0, .int .u8 0, .int .u8 0, .int .u8 0, .int .u8 0, .int .u8 0, .int .u8 0, .int .u8 0, .int .u8 0, .int .u8 0, .int .u8 0, .int .u8 0, .int .u8 0, .int .u8 0, .int .u8 0, .int .u8 0, .int .u8 0, .int .u8 0, .int .u8 0, .int .u8 0, .int .u8 0] 38)).alloc (.cells #[.int .i64 a, .int .i64 b] 2)) w.heap.size (i64s [a]) 2 := (((Blk.mk _ (i64s [a]) _ rfl).alloc _).alloc _).alloc _
  have W1 : Blk ((((w.alloc (.cells #[.int .i64 a] 2)).alloc (.cells #[.int .i64 b] 2)).alloc (.cells #[.int .u8 0, .int .u8 0, .int .u8 0, .int .u8 0, .int .u8 0, .int .u8 0, .int .u8 0, .int .u8 0, .int .u8 0, .int .u8 0, .int .u8 0, .int .u8 0, .int .u8 0, .int .u8 0, .int .u8 0, .int .u8 0, .int .u8 0, .int .u8 0, .int .u8 0, .int .u8 0, .int .u8 0, .int .u8 0, .int .u8 0, .int .u8 0] 38)).alloc (.cells #[.int .i64 a, .int .i64 b] 2)) (w.heap.size + 1) (i64s [b]) 2 := ((Blk.mk _ (i64s [b]) _ (by simp)).alloc _).alloc _
  have W2 : Blk ((((w.alloc (.cells #[.int .i64 a] 2)).alloc (.cells #[.int .i64 b] 2)).alloc (.cells #[.int .u8 0, .int .u8 0, .int .u8 0, .int .u8 0, .int .u8 0, .int .u8 0, .int .u8 0, .int .u8 0, .int .u8 0, .int .u8 0, .int .u8 0, .int .u8 0, .int .u8 0, .int .u8 0, .int .u8 0, .int .u8 0, .int .u8 0, .int .u8 0, .int .u8 0, .int .u8 0, .int .u8 0, .int .u8 0, .int .u8 0, .int .u8 0] 38)).alloc (.cells #[.int .i64 a, .int .i64 b] 2)) (w.heap.size + 1 + 1) (u8s zero24) 38 := (Blk.mk _ (u8s zero24) _ (by simp)).alloc _
  have W3 : Blk ((((w.alloc (.cells #[.int .i64 a] 2)).alloc (.cells #[.int .i64 b] 2)).alloc (.cells #[.int .u8 0, .int .u8 0, .int .u8 0, .int .u8 0, .int .u8 0, .int .u8 0, .int .u8 0, .int .u8 0, .int .u8 0, .int .u8 0, .int .u8 0, .int .u8 0, .int .u8 0, .int .u8 0, .int .u8 0, .int .u8 0, .int .u8 0, .int .u8 0, .int .u8 0, .int .u8 0, .int .u8 0, .int .u8 0, .int .u8 0, .int .u8 0] 38)).alloc (.cells #[.int .i64 a, .int .i64 b] 2)) (w.heap.size + 1 + 1 + 1) (i64s [a, b]) 2 := Blk.mk _ (i64s [a, b]) _ (by simp)
  have b0 : Below w.heap.size w ((((w.alloc (.cells #[.int .i64 a] 2)).alloc (.cells #[.int .i64 b] 2)).alloc (.cells #[.int .u8 0, .int .u8 0, .int .u8 0, .int .u8 0, .int .u8 0, .int .u8 0, .int .u8 0, .int .u8 0, .int .u8 0, .int .u8 0, .int .u8 0, .int .u8 0, .int .u8 0, .int .u8 0, .int .u8 0, .int .u8 0, .int .u8 0, .int .u8 0, .int .u8 0, .int .u8 0, .int .u8 0, .int .u8 0, .int .u8 0, .int .u8 0] 38)).alloc (.cells #[.int .i64 a, .int .i64 b] 2)) := bl_new (bl_new (bl_new (bl_new (Below.refl _ _) _) _) _) _
  have hl : (okF (aC [a, b]) (madeL 1 a b)).length = 24 := okF_length (madeL_length _ _ _)
  have key := pattern_any 61 #[.pointer (some ⟨w.heap.size + 1, 0, none⟩), .pointer (some ⟨w.heap.size, 0, none⟩)] (enters Try.func61 (by kernel_rfl) rfl) (madeF 1 a b) [a, b] (w.heap.size + 1 + 1 + 1) 0 2 _ (by simp) W3.range
    (fun h i _ => made_bd 1 a b h i) (fun _ W k hk hb => BorderOf1_any a b w.heap.size (w.heap.size + 1) k hk W ((W1.kept hb).at 0) ((W0.kept hb).at 0))
  rw [show (List.range 24).map (madeF 1 a b) = madeL 1 a b from rfl] at key
  generalize ho : okF (aC [a, b]) (madeL 1 a b) = ys at *
  go_enter Try.func22, Try.ntmps22
  go_wp2_with (fail)
  refine (key).mono ?_; rintro e w1 ⟨rfl, hb1⟩
  have h2 := W2.kept hb1
  unfold fl
  go_wp2_with (refine store_blk rfl 38 _ _ rfl _ rfl rfl h2 info_fl (by rw [u8s_length]; exact hl) (by rw [u8s_length]; exact zero24_length) (u8s_one _) ?_)
  refine ret_blk_tmp rfl _ rfl (h2.setRow _) Try.underlying38 rfl info_fl (by rw [u8s_length]; exact hl) rfl ⟨rfl, bl_setRow (bl_call b0 hb1) (by omega) _⟩

set_option maxHeartbeats 400000 in
theorem ChequersOf_any (a b : Int) (w : World) :
    Calls Try.prog 23 #[.int .i64 a, .int .i64 b] w fun e w' => e = .returned (.tuple #[fl (okF (aC [a, b]) (madeL 2 a b)), .int .i64 (codeR (aC [a, b]))]) ∧ Below w.heap.size w w' := by
  have W0 : Blk ((((w.alloc (.cells #[.int .i64 a] 2)).alloc (.cells #[.int .i64 b] 2)).alloc (.cells #[.int .u8 0, .int .u8 0, .int .u8 0, .int .u8 0, .int .u8 0, .int .u8 0, .int .u8 0, .int .u8 0, .int .u8 0, .int .u8 0, .int .u8 0, .int .u8 0, .int .u8 0, .int .u8 0, .int .u8 0, .int .u8 0, .int .u8 0, .int .u8 0, .int .u8 0, .int .u8 0, .int .u8 0, .int .u8 0, .int .u8 0, .int .u8 0] 38)).alloc (.cells #[.int .i64 a, .int .i64 b] 2)) w.heap.size (i64s [a]) 2 := (((Blk.mk _ (i64s [a]) _ rfl).alloc _).alloc _).alloc _
  have W1 : Blk ((((w.alloc (.cells #[.int .i64 a] 2)).alloc (.cells #[.int .i64 b] 2)).alloc (.cells #[.int .u8 0, .int .u8 0, .int .u8 0, .int .u8 0, .int .u8 0, .int .u8 0, .int .u8 0, .int .u8 0, .int .u8 0, .int .u8 0, .int .u8 0, .int .u8 0, .int .u8 0, .int .u8 0, .int .u8 0, .int .u8 0, .int .u8 0, .int .u8 0, .int .u8 0, .int .u8 0, .int .u8 0, .int .u8 0, .int .u8 0, .int .u8 0] 38)).alloc (.cells #[.int .i64 a, .int .i64 b] 2)) (w.heap.size + 1) (i64s [b]) 2 := ((Blk.mk _ (i64s [b]) _ (by simp)).alloc _).alloc _
  have W2 : Blk ((((w.alloc (.cells #[.int .i64 a] 2)).alloc (.cells #[.int .i64 b] 2)).alloc (.cells #[.int .u8 0, .int .u8 0, .int .u8 0, .int .u8 0, .int .u8 0, .int .u8 0, .int .u8 0, .int .u8 0, .int .u8 0, .int .u8 0, .int .u8 0, .int .u8 0, .int .u8 0, .int .u8 0, .int .u8 0, .int .u8 0, .int .u8 0, .int .u8 0, .int .u8 0, .int .u8 0, .int .u8 0, .int .u8 0, .int .u8 0, .int .u8 0] 38)).alloc (.cells #[.int .i64 a, .int .i64 b] 2)) (w.heap.size + 1 + 1) (u8s zero24) 38 := (Blk.mk _ (u8s zero24) _ (by simp)).alloc _
  have W3 : Blk ((((w.alloc (.cells #[.int .i64 a] 2)).alloc (.cells #[.int .i64 b] 2)).alloc (.cells #[.int .u8 0, .int .u8 0, .int .u8 0, .int .u8 0, .int .u8 0, .int .u8 0, .int .u8 0, .int .u8 0, .int .u8 0, .int .u8 0, .int .u8 0, .int .u8 0, .int .u8 0, .int .u8 0, .int .u8 0, .int .u8 0, .int .u8 0, .int .u8 0, .int .u8 0, .int .u8 0, .int .u8 0, .int .u8 0, .int .u8 0, .int .u8 0] 38)).alloc (.cells #[.int .i64 a, .int .i64 b] 2)) (w.heap.size + 1 + 1 + 1) (i64s [a, b]) 2 := Blk.mk _ (i64s [a, b]) _ (by simp)
  have b0 : Below w.heap.size w ((((w.alloc (.cells #[.int .i64 a] 2)).alloc (.cells #[.int .i64 b] 2)).alloc (.cells #[.int .u8 0, .int .u8 0, .int .u8 0, .int .u8 0, .int .u8 0, .int .u8 0, .int .u8 0, .int .u8 0, .int .u8 0, .int .u8 0, .int .u8 0, .int .u8 0, .int .u8 0, .int .u8 0, .int .u8 0, .int .u8 0, .int .u8 0, .int .u8 0, .int .u8 0, .int .u8 0, .int .u8 0, .int .u8 0, .int .u8 0, .int .u8 0] 38)).alloc (.cells #[.int .i64 a, .int .i64 b] 2)) := bl_new (bl_new (bl_new (bl_new (Below.refl _ _) _) _) _) _
  have hl : (okF (aC [a, b]) (madeL 2 a b)).length = 24 := okF_length (madeL_length _ _ _)
  have key := pattern_any 62 #[.pointer (some ⟨w.heap.size, 0, none⟩), .pointer (some ⟨w.heap.size + 1, 0, none⟩)] (enters Try.func62 (by kernel_rfl) rfl) (madeF 2 a b) [a, b] (w.heap.size + 1 + 1 + 1) 0 2 _ (by simp) W3.range
    (fun h i _ => made_bd 2 a b h i) (fun _ W k hk hb => ChequersOf1_any a b w.heap.size (w.heap.size + 1) k hk W ((W1.kept hb).at 0) ((W0.kept hb).at 0))
  rw [show (List.range 24).map (madeF 2 a b) = madeL 2 a b from rfl] at key
  generalize ho : okF (aC [a, b]) (madeL 2 a b) = ys at *
  go_enter Try.func23, Try.ntmps23
  go_wp2_with (fail)
  refine (key).mono ?_; rintro e w1 ⟨rfl, hb1⟩
  have h2 := W2.kept hb1
  unfold fl
  go_wp2_with (refine store_blk rfl 38 _ _ rfl _ rfl rfl h2 info_fl (by rw [u8s_length]; exact hl) (by rw [u8s_length]; exact zero24_length) (u8s_one _) ?_)
  refine ret_blk_tmp rfl _ rfl (h2.setRow _) Try.underlying38 rfl info_fl (by rw [u8s_length]; exact hl) rfl ⟨rfl, bl_setRow (bl_call b0 hb1) (by omega) _⟩
end Go.Proofs.Ytjppoejkfpeicaa
