/- Contracts: flags turned, both sides; two flags compared. -/
import Derived.Test.YtjppoejkfpeicaaDoorF5
import Derived.Test.YtjppoejkfpeicaaDoorF2
set_option linter.unusedVariables false
namespace Go.Proofs.YtjppoejkfpeicaaDoor
open Go.RowKit

set_option maxHeartbeats 400000 in
theorem eqFlag_same (xs : List Int) (hx : xs.length = 24) (w : World) :
    Calls Tryd.prog 7 #[fl xs, fl xs] w fun e w' => e = .returned (.bool true) ∧ Below w.heap.size w w' := by
  unfold fl
  go_enter Tryd.func7, Tryd.ntmps7
  go_wp2
  go_loopw [5] (fun i wr => ∃ k q : Nat, k ≤ 24 ∧ i = .int .i64 k ∧ wr = ((w.alloc (.cells (u8s xs).toArray 23)).alloc (.cells (u8s xs).toArray 23)).drewN q) (fun i _ => 24 - (intOf i).toNat)
  case atStart => exact ⟨0, 0, by omega, rfl, rfl⟩
  case round =>
    obtain ⟨k, q, hk, rfl, rfl⟩ := hrel
    have B0 : Blk ((w.alloc (.cells (u8s xs).toArray 23)).alloc (.cells (u8s xs).toArray 23)) w.heap.size (u8s xs) 23 := (Blk.new _ _ _).alloc _
    have B1 : Blk ((w.alloc (.cells (u8s xs).toArray 23)).alloc (.cells (u8s xs).toArray 23)) (w.heap.size + 1) (u8s xs) 23 := Blk.mk _ _ _ (by simp)
    have b0 := bl_new (bl_new (Below.refl _ w) (.cells (u8s xs).toArray 23)) (.cells (u8s xs).toArray 23)
    generalize (w.alloc (.cells (u8s xs).toArray 23)).alloc (.cells (u8s xs).toArray 23) = W at *
    by_cases hlt : k < 24
    · have hlt' : (k : Int) < 24 := by omega
      have c0 : W.cell? ⟨w.heap.size, k, none⟩ = some (.int .u8 (nth xs k)) := by rw [B0.at, u8s_get xs k (by omega)]
      have c1 : W.cell? ⟨w.heap.size + 1, k, none⟩ = some (.int .u8 (nth xs k)) := by rw [B1.at, u8s_get xs k (by omega)]
      go_wp2
      go_quiet (fail)
      go_wp2
      go_roundw
      case rel => exact ⟨k + 1, _, by omega, by go_num, rfl⟩
      case measure => simp [intOf]; omega
    · obtain rfl : k = 24 := by omega
      go_wp2
      go_ret
      exact ⟨rfl, bl_drewN b0 _⟩

/-- A flag upside down. -/
def turnL (xs : List Int) : List Int := (List.range 24).map fun i => nth xs (23 - i)
theorem turnL_length (xs : List Int) : (turnL xs).length = 24 := by simp [turnL]

set_option maxHeartbeats 400000 in
theorem l01Turn_any (xs : List Int) (hx : xs.length = 24) (b o : Nat) (w : World) (hr : w.rangeAt b o (u8s xs)) :
    Calls Tryd.prog 38 #[.pointer (some ⟨b, o, none⟩)] w fun e w' => e = .returned (fl (turnL xs)) ∧ Below w.heap.size w w' := by
  have hz : part (fun i => nth xs (23 - i)) 24 0 = List.replicate 24 0 := part_zero _ _
  have HZ := As.mk hz
  clear hz
  have BZ : Blk ((w.alloc (.cells #[.int .u8 0, .int .u8 0, .int .u8 0, .int .u8 0, .int .u8 0, .int .u8 0, .int .u8 0, .int .u8 0, .int .u8 0, .int .u8 0, .int .u8 0, .int .u8 0, .int .u8 0, .int .u8 0, .int .u8 0, .int .u8 0, .int .u8 0, .int .u8 0, .int .u8 0, .int .u8 0, .int .u8 0, .int .u8 0, .int .u8 0, .int .u8 0] 23)).alloc (.cells #[.int .u8 0, .int .u8 0, .int .u8 0, .int .u8 0, .int .u8 0, .int .u8 0, .int .u8 0, .int .u8 0, .int .u8 0, .int .u8 0, .int .u8 0, .int .u8 0, .int .u8 0, .int .u8 0, .int .u8 0, .int .u8 0, .int .u8 0, .int .u8 0, .int .u8 0, .int .u8 0, .int .u8 0, .int .u8 0, .int .u8 0, .int .u8 0] 23)) (w.heap.size + 1) (u8s (List.replicate 24 0)) 23 := Blk.mk _ (u8s (List.replicate 24 0)) _ (by simp)
  have BY : Blk ((w.alloc (.cells #[.int .u8 0, .int .u8 0, .int .u8 0, .int .u8 0, .int .u8 0, .int .u8 0, .int .u8 0, .int .u8 0, .int .u8 0, .int .u8 0, .int .u8 0, .int .u8 0, .int .u8 0, .int .u8 0, .int .u8 0, .int .u8 0, .int .u8 0, .int .u8 0, .int .u8 0, .int .u8 0, .int .u8 0, .int .u8 0, .int .u8 0, .int .u8 0] 23)).alloc (.cells #[.int .u8 0, .int .u8 0, .int .u8 0, .int .u8 0, .int .u8 0, .int .u8 0, .int .u8 0, .int .u8 0, .int .u8 0, .int .u8 0, .int .u8 0, .int .u8 0, .int .u8 0, .int .u8 0, .int .u8 0, .int .u8 0, .int .u8 0, .int .u8 0, .int .u8 0, .int .u8 0, .int .u8 0, .int .u8 0, .int .u8 0, .int .u8 0] 23)) w.heap.size (u8s (List.replicate 24 0)) 23 := (Blk.mk w (u8s (List.replicate 24 0)) _ rfl).alloc _
  have bZ : Below w.heap.size w ((w.alloc (.cells #[.int .u8 0, .int .u8 0, .int .u8 0, .int .u8 0, .int .u8 0, .int .u8 0, .int .u8 0, .int .u8 0, .int .u8 0, .int .u8 0, .int .u8 0, .int .u8 0, .int .u8 0, .int .u8 0, .int .u8 0, .int .u8 0, .int .u8 0, .int .u8 0, .int .u8 0, .int .u8 0, .int .u8 0, .int .u8 0, .int .u8 0, .int .u8 0] 23)).alloc (.cells #[.int .u8 0, .int .u8 0, .int .u8 0, .int .u8 0, .int .u8 0, .int .u8 0, .int .u8 0, .int .u8 0, .int .u8 0, .int .u8 0, .int .u8 0, .int .u8 0, .int .u8 0, .int .u8 0, .int .u8 0, .int .u8 0, .int .u8 0, .int .u8 0, .int .u8 0, .int .u8 0, .int .u8 0, .int .u8 0, .int .u8 0, .int .u8 0] 23)) := bl_new (bl_new (Below.refl _ _) _) _
  go_enter Tryd.func38, Tryd.ntmps38
  go_wp2_with (refine store_blk rfl 23 _ _ rfl _ rfl (ds := u8s (List.replicate 24 0)) rfl BZ info_fl (by rfl) (by rfl) (u8s_one _) ?_)
  go_loopw [4] (fun i wr => ∃ k : Nat, k ≤ 24 ∧ i = .int .i64 k ∧ Blk wr w.heap.size (u8s (List.replicate 24 0)) 23 ∧ Blk wr (w.heap.size + 1) (u8s (part (fun i => nth xs (23 - i)) 24 k)) 23 ∧ Below w.heap.size w wr) (fun i _ => 24 - (intOf i).toNat)
  case atStart => exact ⟨0, by omega, rfl, BY.farRow (by omega) _, by rw [HZ.out]; exact BZ.setRow _, bl_setRow bZ (by omega) _⟩
  case round =>
    obtain ⟨k, hk, rfl, h1, h2, hb⟩ := hrel
    by_cases hlt : k < 24
    · have hlt' : (k : Int) < 24 := by omega
      have e1 : (23 - (k : Int)) = ((23 - k : Nat) : Int) := by omega
      have c0 : wr.cell? ⟨b, o + (23 - k), none⟩ = some (.int .u8 (nth xs (23 - k))) := by
        have h0 := hr (23 - k) _ (by rw [u8s_get xs (23 - k) (by omega)])
        rw [hb.cell (World.block_lt_of_cell? w _ h0)]; exact h0
      obtain ⟨v2, c2⟩ := h2.some k (by rw [u8s_length, part_length]; exact hlt)
      have f2 := h2.frozen k
      have E1 := As.mk e1
      clear e1
      go_wp2
      go_roundw
      case rel => exact ⟨k + 1, by omega, by go_num, h1.far (by simp) _, by have := h2.set k (.int .u8 (nth xs (23 - k))); rw [u8s_set, part_set (fun i => nth xs (23 - i))] at this; exact this, hb.setCell (by simp) _⟩
      case measure => simp [intOf]; omega
    · obtain rfl : k = 24 := by omega
      rw [part_full] at h2
      have hl : (turnL xs).length = 24 := turnL_length xs
      change Blk wr (w.heap.size + 1) (u8s (turnL xs)) _ at h2
      go_wp2_with (first | (refine load_blk rfl 23 _ rfl _ rfl h2 Tryd.underlying23 rfl info_fl (by rw [u8s_length]; exact hl) ?_) | (refine store_blk rfl 23 _ _ rfl _ rfl rfl h1 info_fl (by rw [u8s_length]; exact hl) (by rw [u8s_length]; simp) (u8s_one _) ?_))
      refine ret_blk rfl _ rfl (h1.setRow _) Tryd.underlying23 rfl info_fl (by rw [u8s_length]; exact hl) rfl ⟨rfl, bl_setRow hb (by omega) _⟩
end Go.Proofs.YtjppoejkfpeicaaDoor
