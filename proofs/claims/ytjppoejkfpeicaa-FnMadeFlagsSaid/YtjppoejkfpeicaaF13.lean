/- Contracts: MirrorFlag: both sides. -/
import Derived.Test.YtjppoejkfpeicaaF12
set_option linter.unusedVariables false
namespace Go.Proofs.Ytjppoejkfpeicaa
open Go.RowKit
set_option maxHeartbeats 800000 in
theorem MirrorFlag_any (xs : List Int) (hx : xs.length = 24) (rx : Bytes xs) (w : World) :
    Calls Try.prog 30 #[fl xs] w fun e w' => e = .returned (.tuple #[fl (okF (vf xs) (mirrorL xs)), .int .i64 (codeV (vf xs))]) ∧ Below w.heap.size w w' := by
  unfold fl
  have B0 : Blk ((w.alloc (.cells (u8s xs).toArray 38)).alloc (.cells #[.int .u8 0, .int .u8 0, .int .u8 0, .int .u8 0, .int .u8 0, .int .u8 0, .int .u8 0, .int .u8 0, .int .u8 0, .int .u8 0, .int .u8 0, .int .u8 0, .int .u8 0, .int .u8 0, .int .u8 0, .int .u8 0, .int .u8 0, .int .u8 0, .int .u8 0, .int .u8 0, .int .u8 0, .int .u8 0, .int .u8 0, .int .u8 0] 38)) w.heap.size (u8s xs) 38 := (Blk.new _ _ _).alloc _
  have B1 : Blk ((w.alloc (.cells (u8s xs).toArray 38)).alloc (.cells #[.int .u8 0, .int .u8 0, .int .u8 0, .int .u8 0, .int .u8 0, .int .u8 0, .int .u8 0, .int .u8 0, .int .u8 0, .int .u8 0, .int .u8 0, .int .u8 0, .int .u8 0, .int .u8 0, .int .u8 0, .int .u8 0, .int .u8 0, .int .u8 0, .int .u8 0, .int .u8 0, .int .u8 0, .int .u8 0, .int .u8 0, .int .u8 0] 38)) (w.heap.size + 1) (u8s zero24) 38 := Blk.mk _ (u8s zero24) _ (by simp)
  have b0 : Below w.heap.size w ((w.alloc (.cells (u8s xs).toArray 38)).alloc (.cells #[.int .u8 0, .int .u8 0, .int .u8 0, .int .u8 0, .int .u8 0, .int .u8 0, .int .u8 0, .int .u8 0, .int .u8 0, .int .u8 0, .int .u8 0, .int .u8 0, .int .u8 0, .int .u8 0, .int .u8 0, .int .u8 0, .int .u8 0, .int .u8 0, .int .u8 0, .int .u8 0, .int .u8 0, .int .u8 0, .int .u8 0, .int .u8 0] 38)) := bl_new (bl_new (Below.refl _ _) _) _
  have hl : (mirrorL xs).length = 24 := mirrorL_length xs
  cases h1 : vf xs
  · go_enter Try.func30, Try.ntmps30
    go_wp2_with (refine load_blk rfl 38 _ rfl _ rfl B0 Try.underlying38 rfl info_fl (by rw [u8s_length]; exact hx) ?_)
    refine (ValidFlag_any xs hx _).mono ?_; rintro e w1 ⟨rfl, hb1⟩
    have h2 := B1.kept hb1
    go_wp2_with (refine store_blk rfl 38 _ _ rfl _ rfl (ds := u8s zero24) rfl h2 info_fl (by rfl) (by rfl) (u8s_one _) ?_)
    refine ret_blk_tmp rfl _ rfl (h2.setRow _) Try.underlying38 rfl info_fl (by rfl) rfl ⟨rfl, bl_setRow (bl_call b0 hb1) (by omega) _⟩
  · go_enter Try.func30, Try.ntmps30
    go_wp2_with (refine load_blk rfl 38 _ rfl _ rfl B0 Try.underlying38 rfl info_fl (by rw [u8s_length]; exact hx) ?_)
    refine (ValidFlag_any xs hx _).mono ?_; rintro e w1 ⟨rfl, hb1⟩
    have h0 := B0.kept hb1
    go_wp2_with (refine load_blk rfl 38 _ rfl _ rfl h0 Try.underlying38 rfl info_fl (by rw [u8s_length]; exact hx) ?_)
    refine (mirrored_any xs hx rx _).mono ?_; rintro e w2 ⟨rfl, hb2⟩
    have h2 := (B1.kept hb1).kept hb2
    go_wp2_with (refine store_blk rfl 38 _ _ rfl _ rfl rfl h2 info_fl (by rw [u8s_length]; exact hl) (by rw [u8s_length]; exact zero24_length) (u8s_one _) ?_)
    refine ret_blk_tmp rfl _ rfl (h2.setRow _) Try.underlying38 rfl info_fl (by rw [u8s_length]; exact hl) rfl ⟨rfl, bl_setRow (bl_call (bl_call b0 hb1) hb2) (by omega) _⟩
end Go.Proofs.Ytjppoejkfpeicaa
