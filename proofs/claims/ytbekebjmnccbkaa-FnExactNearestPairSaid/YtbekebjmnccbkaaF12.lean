/- Contracts: MirrorFlag: both sides. -/
import Derived.Test.YtbekebjmnccbkaaF11
set_option linter.unusedVariables false
namespace Go.Proofs.Ytbekebjmnccbkaa
open Go.RowKit

set_option maxRecDepth 20000 in
set_option maxHeartbeats 1000000 in
theorem l01Mirror_any (xs : List Int) (hx : xs.length = 24) (b o : Nat) (w : World) (hr : w.rangeAt b o (u8s xs)) :
    Calls Try.prog 71 #[.pointer (some ⟨b, o, none⟩)] w fun e w' => e = .returned (fl (mirrorL xs)) ∧ Below w.heap.size w w' := by
  have hz : part (mirF xs) 24 0 = zero24 := part_zero _ _
  have HZ := As.mk hz
  clear hz
  have BZ : Blk ((w.alloc (.cells #[.int .u8 0, .int .u8 0, .int .u8 0, .int .u8 0, .int .u8 0, .int .u8 0, .int .u8 0, .int .u8 0, .int .u8 0, .int .u8 0, .int .u8 0, .int .u8 0, .int .u8 0, .int .u8 0, .int .u8 0, .int .u8 0, .int .u8 0, .int .u8 0, .int .u8 0, .int .u8 0, .int .u8 0, .int .u8 0, .int .u8 0, .int .u8 0] 23)).alloc (.cells #[.int .u8 0, .int .u8 0, .int .u8 0, .int .u8 0, .int .u8 0, .int .u8 0, .int .u8 0, .int .u8 0, .int .u8 0, .int .u8 0, .int .u8 0, .int .u8 0, .int .u8 0, .int .u8 0, .int .u8 0, .int .u8 0, .int .u8 0, .int .u8 0, .int .u8 0, .int .u8 0, .int .u8 0, .int .u8 0, .int .u8 0, .int .u8 0] 23)) (w.heap.size + 1) (u8s zero24) 23 := Blk.mk _ (u8s zero24) _ (by simp)
  have BY : Blk ((w.alloc (.cells #[.int .u8 0, .int .u8 0, .int .u8 0, .int .u8 0, .int .u8 0, .int .u8 0, .int .u8 0, .int .u8 0, .int .u8 0, .int .u8 0, .int .u8 0, .int .u8 0, .int .u8 0, .int .u8 0, .int .u8 0, .int .u8 0, .int .u8 0, .int .u8 0, .int .u8 0, .int .u8 0, .int .u8 0, .int .u8 0, .int .u8 0, .int .u8 0] 23)).alloc (.cells #[.int .u8 0, .int .u8 0, .int .u8 0, .int .u8 0, .int .u8 0, .int .u8 0, .int .u8 0, .int .u8 0, .int .u8 0, .int .u8 0, .int .u8 0, .int .u8 0, .int .u8 0, .int .u8 0, .int .u8 0, .int .u8 0, .int .u8 0, .int .u8 0, .int .u8 0, .int .u8 0, .int .u8 0, .int .u8 0, .int .u8 0, .int .u8 0] 23)) w.heap.size (u8s zero24) 23 := (Blk.mk w (u8s zero24) _ rfl).alloc _
  have bZ : Below w.heap.size w ((w.alloc (.cells #[.int .u8 0, .int .u8 0, .int .u8 0, .int .u8 0, .int .u8 0, .int .u8 0, .int .u8 0, .int .u8 0, .int .u8 0, .int .u8 0, .int .u8 0, .int .u8 0, .int .u8 0, .int .u8 0, .int .u8 0, .int .u8 0, .int .u8 0, .int .u8 0, .int .u8 0, .int .u8 0, .int .u8 0, .int .u8 0, .int .u8 0, .int .u8 0] 23)).alloc (.cells #[.int .u8 0, .int .u8 0, .int .u8 0, .int .u8 0, .int .u8 0, .int .u8 0, .int .u8 0, .int .u8 0, .int .u8 0, .int .u8 0, .int .u8 0, .int .u8 0, .int .u8 0, .int .u8 0, .int .u8 0, .int .u8 0, .int .u8 0, .int .u8 0, .int .u8 0, .int .u8 0, .int .u8 0, .int .u8 0, .int .u8 0, .int .u8 0] 23)) := bl_new (bl_new (Below.refl _ _) _) _
  go_enter Try.func71, Try.ntmps71
  go_wp2_with (refine store_blk rfl 23 _ _ rfl _ rfl (ds := u8s zero24) rfl BZ info_fl (by rfl) (by rfl) (u8s_one _) ?_)
  go_loopw [4] (fun i wr => ∃ k : Nat, k ≤ 24 ∧ i = .int .i64 k ∧ Blk wr w.heap.size (u8s zero24) 23 ∧ Blk wr (w.heap.size + 1) (u8s (part (mirF xs) 24 k)) 23 ∧ Below w.heap.size w wr) (fun i _ => 24 - (intOf i).toNat)
  case atStart => exact ⟨0, by omega, rfl, BY.farRow (by omega) _, by rw [HZ.out]; exact BZ.setRow _, bl_setRow bZ (by omega) _⟩
  case round =>
    obtain ⟨k, hk, rfl, h1, h2, hb⟩ := hrel
    by_cases hlt : k < 24
    · have hlt' : (k : Int) < 24 := by omega
      have g1 : (0 : Int) ≤ (k : Int) % 6 := by omega
      have g2 : (k : Int) % 6 ≤ 5 := by omega
      have g3 : (0 : Int) ≤ (k : Int) / 6 := by omega
      have g4 : (k : Int) / 6 ≤ 3 := by omega
      have g5 : (0 : Int) ≤ 5 - (k : Int) % 6 + 6 * ((k : Int) / 6) := by omega
      have g6 : 5 - (k : Int) % 6 + 6 * ((k : Int) / 6) < 24 := by omega
      have c0 : wr.cell? ⟨b, o + (5 - k % 6 + 6 * (k / 6)), none⟩ = some (.int .u8 (mirF xs k)) := by
        have h0 := hr (5 - k % 6 + 6 * (k / 6)) _ (u8s_get xs _ (by omega))
        rw [hb.cell (World.block_lt_of_cell? w _ h0)]; exact h0
      obtain ⟨v2, c2⟩ := h2.some k (by rw [u8s_length, part_length]; exact hlt)
      have f2 := h2.frozen k
      go_wp2_with (fail)
      have e1 : ((k : Int)).tmod 6 = (k : Int) % 6 := Int.tmod_eq_emod_of_nonneg (by omega)
      have e2 : IntKind.i64.wrap (5 - (k : Int) % 6) = 5 - (k : Int) % 6 := IntWalk.i64_in _ (by omega)
      have e3 : IntKind.i64.wrap ((k : Int) / 6) = (k : Int) / 6 := IntWalk.i64_in _ (by omega)
      have e4 : (5 - (k : Int) % 6 + 6 * ((k : Int) / 6)).toNat = 5 - k % 6 + 6 * (k / 6) := by omega
      refine wp_region_still_tail 12 (by kernel_rfl) (by kernel_rfl) ?_
      simp only [List.take_succ_cons, List.take_zero, List.drop_succ_cons, List.drop_zero]
      repeat still_step
      still_call ((l01Index_any _ _ ⟨by omega, by omega⟩ ⟨g3, g4⟩ _).mono fun e w' h => ⟨h.1, h.2.symm⟩)
      repeat still_step
      refine wpStill_nil ?_
      clear e1 e2 e3 e4
      go_wp2
      go_roundw
      case rel => exact ⟨k + 1, by omega, by go_num, (h1.far (by simp) _).drew, by have := (h2.set k (.int .u8 (mirF xs k))).drew; rw [u8s_set, part_set (mirF xs)] at this; exact this, (hb.setCell (by simp) _).drew⟩
      case measure => simp [intOf]; omega
    · obtain rfl : k = 24 := by omega
      rw [part_full] at h2
      have hl : (mirrorL xs).length = 24 := mirrorL_length xs
      change Blk wr (w.heap.size + 1) (u8s (mirrorL xs)) _ at h2
      go_wp2_with (first | (refine load_blk rfl 23 _ rfl _ rfl h2 Try.underlying23 rfl info_fl (by rw [u8s_length]; exact hl) ?_) | (refine store_blk rfl 23 _ _ rfl _ rfl rfl h1 info_fl (by rw [u8s_length]; exact hl) (by rw [u8s_length]; exact zero24_length) (u8s_one _) ?_))
      refine ret_blk rfl _ rfl (h1.setRow _) Try.underlying23 rfl info_fl (by rw [u8s_length]; exact hl) rfl ⟨rfl, bl_setRow hb (by omega) _⟩
end Go.Proofs.Ytbekebjmnccbkaa
