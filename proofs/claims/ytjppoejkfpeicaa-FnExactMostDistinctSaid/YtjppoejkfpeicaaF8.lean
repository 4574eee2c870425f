/- Contracts: flags turned, both sides; two flags compared. -/
import Derived.Test.YtjppoejkfpeicaaF5
import Derived.Test.YtjppoejkfpeicaaF2
set_option linter.unusedVariables false
namespace Go.Proofs.Ytjppoejkfpeicaa
open Go.RowKit

set_option maxHeartbeats 400000 in
theorem eqFlag_same (xs : List Int) (hx : xs.length = 24) (w : World) :
    Calls Try.prog 49 #[fl xs, fl xs] w fun e w' => e = .returned (.bool true) ∧ Below w.heap.size w w' := by
  unfold fl
  go_enter Try.func49, Try.ntmps49
  go_wp2
  go_loopw [5] (fun i wr => ∃ k q : Nat, k ≤ 24 ∧ i = .int .i64 k ∧ wr = ((w.alloc (.cells (u8s xs).toArray 38)).alloc (.cells (u8s xs).toArray 38)).drewN q) (fun i _ => 24 - (intOf i).toNat)
  case atStart => exact ⟨0, 0, by omega, rfl, rfl⟩
  case round =>
    obtain ⟨k, q, hk, rfl, rfl⟩ := hrel
    have B0 : Blk ((w.alloc (.cells (u8s xs).toArray 38)).alloc (.cells (u8s xs).toArray 38)) w.heap.size (u8s xs) 38 := (Blk.new _ _ _).alloc _
    have B1 : Blk ((w.alloc (.cells (u8s xs).toArray 38)).alloc (.cells (u8s xs).toArray 38)) (w.heap.size + 1) (u8s xs) 38 := Blk.mk _ _ _ (by simp)
    have b0 := bl_new (bl_new (Below.refl _ w) (.cells (u8s xs).toArray 38)) (.cells (u8s xs).toArray 38)
    generalize (w.alloc (.cells (u8s xs).toArray 38)).alloc (.cells (u8s xs).toArray 38) = W at *
    by_cases hlt : k < 24
    · have hlt' : (k : Int) < 24 := by omega
      have c0 : W.cell? ⟨w.heap.size, k, none⟩ = some (.int .u8 (nth xs k)) := by rw [B0.at, u8s_get xs k (by omega)]
      have c1 : W.cell? ⟨w.heap.size + 1, k, none⟩ = some (.int .u8 (nth xs k)) := by rw [B1.at, u8s_get xs k (by omega)]
      go_wp2
      go_quiet (fail)
      go_wp2
      go_roundw
      case rel => exact ⟨k + 1, _, by omega, by go_num, rfl⟩
      case measure => simp [intOf]; omega
    · obtain rfl : k = 24 := by omega
      go_wp2
      go_ret
      exact ⟨rfl, bl_drewN b0 _⟩

/-- A flag upside down. -/
def turnL (xs : List Int) : List Int := (List.range 24).map fun i => nth xs (23 - i)
theorem turnL_length (xs : List Int) : (turnL xs).length = 24 := by simp [turnL]

end Go.Proofs.Ytjppoejkfpeicaa
