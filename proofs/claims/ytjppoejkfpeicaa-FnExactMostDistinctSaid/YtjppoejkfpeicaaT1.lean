import Derived.Test.YtjppoejkfpeicaaA
namespace Go.Proofs.Ytjppoejkfpeicaa
open Go.RowKit

theorem info_fl : (Try.prog.info? 38).map (·.size) = some 24 := by kernel_rfl
theorem info_fl' : (Try.prog.info? 37).map (·.size) = some 24 := by kernel_rfl

set_option maxHeartbeats 400000 in
theorem toFlag_any (xs : List Int) (hl : xs.length = 24) (w : World) :
    Calls Try.prog 44 #[fl xs] w fun e w' => e = .returned (fl xs) ∧ Below w.heap.size w w' := by
  unfold fl
  go_enter Try.func44, Try.ntmps44
  go_wp2
  go_loopw [4] (fun i wr => ∃ k : Nat, k ≤ 24 ∧ i = .int .i64 k ∧ Blk wr w.heap.size (u8s xs) 37 ∧ Blk wr (w.heap.size + 1) (u8s (List.replicate 24 0)) 38 ∧ Blk wr (w.heap.size + 1 + 1) (u8s (part (nth xs) 24 k)) 38 ∧ Below w.heap.size w wr) (fun i wr => 24 - (intOf i).toNat)
  case atStart => exact ⟨0, by omega, rfl, ((Blk.new _ _ _).alloc _).alloc _, (Blk.mk _ _ _ (by simp)).alloc _, Blk.mk _ _ _ (by simp), bl_new (bl_new (bl_new (Below.refl _ _) _) _) _⟩
  case round =>
    obtain ⟨k, hk, rfl, h0, h1, h2, hb⟩ := hrel
    by_cases hlt : k < 24
    · have c0 : wr.cell? ⟨w.heap.size, k, none⟩ = some (.int .u8 (nth xs k)) := by rw [h0.at, u8s_get xs k (by omega)]
      obtain ⟨v2, c2⟩ := h2.some k (by rw [u8s_length, part_length]; exact hlt)
      have f2 := h2.frozen k
      go_wp2
      go_roundw
      case rel => exact ⟨k + 1, by omega, by go_num, h0.far (by simp; omega) _, h1.far (by simp) _, by have := h2.set k (.int .u8 (nth xs k)); rw [u8s_set, part_set] at this; exact this, hb.setCell (by simp; omega) _⟩
      case measure => simp [intOf]; omega
    · obtain rfl : k = 24 := by omega
      rw [part_full, range_nth xs 24 hl] at h2
      go_wp2_with (first | (refine load_blk rfl 38 _ rfl _ rfl h2 Try.underlying38 rfl info_fl (by rw [u8s_length]; exact hl) ?_) | (refine store_blk rfl 38 _ _ rfl _ rfl rfl h1 info_fl (by rw [u8s_length]; exact hl) (by rw [u8s_length]; simp) (u8s_one _) ?_))
      refine ret_blk rfl _ rfl (h1.setRow _) Try.underlying38 rfl info_fl (by rw [u8s_length]; exact hl) rfl ⟨rfl, bl_setRow hb (by omega) _⟩
end Go.Proofs.Ytjppoejkfpeicaa
