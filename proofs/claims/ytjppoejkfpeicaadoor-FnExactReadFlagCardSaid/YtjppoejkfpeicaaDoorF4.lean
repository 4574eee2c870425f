/- Contracts: in how many places two rows of bytes differ. -/
import Derived.Test.YtjppoejkfpeicaaDoorF2
set_option linter.unusedVariables false
namespace Go.Proofs.YtjppoejkfpeicaaDoor
open Go.RowKit

/-- In how many of the first k places two lists differ. -/
def diffs (xs ys : List Int) (k : Nat) : Int := ((List.range k).countP fun i => nth xs i != nth ys i : Nat)
theorem diffs_zero (xs ys : List Int) : diffs xs ys 0 = 0 := rfl
theorem diffs_succ (xs ys : List Int) (k : Nat) : diffs xs ys (k + 1) = diffs xs ys k + if nth xs k != nth ys k then 1 else 0 := by
  unfold diffs
  rw [List.range_succ, List.countP_append, List.countP_singleton]
  split <;> simp
/-- The counter behind a round, whichever way the test went. -/
theorem diffs_t {xs ys : List Int} {k : Nat} (h : (nth xs k != nth ys k) = true) : diffs xs ys (k + 1) = diffs xs ys k + 1 := by rw [diffs_succ, if_pos h]
theorem diffs_f {xs ys : List Int} {k : Nat} (h : (nth xs k != nth ys k) = false) : diffs xs ys (k + 1) = diffs xs ys k := by rw [diffs_succ, h]; simp
theorem diffs_bd (xs ys : List Int) (k : Nat) : 0 ≤ diffs xs ys k ∧ diffs xs ys k ≤ k := by
  unfold diffs
  have := List.countP_le_length (p := fun i => nth xs i != nth ys i) (l := List.range k)
  rw [List.length_range] at this
  omega
theorem diffs_comm (xs ys : List Int) (k : Nat) : diffs xs ys k = diffs ys xs k := by
  unfold diffs
  congr 1
  apply List.countP_congr
  intro i _
  rw [bne_comm]
theorem drewN_two (w : World) (a b : Nat) : (w.drewN a).drewN b = w.drewN (a + b) := World.drewN_drewN ..

set_option maxHeartbeats 400000 in
theorem l01Distance_any (xs ys : List Int) (hx : xs.length = 24) (hy : ys.length = 24) (b o b' o' : Nat) (w : World) (hr : w.rangeAt b o (u8s xs)) (hr' : w.rangeAt b' o' (u8s ys)) :
    Calls Tryd.prog 42 #[.pointer (some ⟨b, o, none⟩), .pointer (some ⟨b', o', none⟩)] w fun e w' => e = .returned (.int .i64 (diffs xs ys 24)) ∧ Below w.heap.size w w' := by
  go_enter Tryd.func42, Tryd.ntmps42
  go_wp2
  go_loopw [5, 6] (fun n i wr => ∃ k q : Nat, k ≤ 24 ∧ i = .int .i64 k ∧ n = .int .i64 (diffs xs ys k) ∧ wr = w.drewN q) (fun _ i _ => 24 - (intOf i).toNat)
  case atStart => exact ⟨0, 0, by omega, rfl, rfl, rfl⟩
  case round =>
    obtain ⟨k, q, hk, rfl, rfl, rfl⟩ := hrel
    have hbd := diffs_bd xs ys k
    by_cases hlt : k < 24
    · have hlt' : (k : Int) < 24 := by omega
      have c0 : w.cell? ⟨b, o + k, none⟩ = some (.int .u8 (nth xs k)) := hr k _ (by rw [u8s_get xs k (by omega)])
      have c1 : w.cell? ⟨b', o' + k, none⟩ = some (.int .u8 (nth ys k)) := hr' k _ (by rw [u8s_get ys k (by omega)])
      go_wp2
      go_quiet (fail)
      go_wp2
      all_goals
        go_roundw
        case rel => exact ⟨k + 1, _, by omega, by go_num, by first | rw [diffs_t (by assumption)] | rw [diffs_f (by assumption)], rfl⟩
        case measure => simp [intOf]; omega
    · obtain rfl : k = 24 := by omega
      go_wp2
      go_ret
      exact ⟨rfl, bl_drewN (Below.refl _ _) _⟩

set_option maxHeartbeats 400000 in
theorem unlike_any (xs ys : List Int) (hxy : xs.length = ys.length) (hbig : xs.length ≤ 1000000) (b o c b' o' c' : Nat) (w : World) (hr : w.rangeAt b o (u8s xs)) (hr' : w.rangeAt b' o' (u8s ys)) :
    Calls Tryd.prog 41 #[.slice (some ⟨b, o, none⟩) xs.length c, .slice (some ⟨b', o', none⟩) xs.length c'] w fun e w' => e = .returned (.int .i64 (diffs xs ys xs.length)) ∧ w' = w := by
  go_enter Tryd.func41, Tryd.ntmps41
  go_wp2
  go_loop [5, 10] (fun n i => ∃ k : Nat, k ≤ xs.length ∧ i = .int .i64 k ∧ n = .int .i64 (diffs xs ys k)) (fun _ i => xs.length - (intOf i).toNat)
  case atStart => exact ⟨0, by omega, rfl, rfl⟩
  case round =>
    obtain ⟨k, hk, rfl, rfl⟩ := hrel
    have hbd := diffs_bd xs ys k
    by_cases hlt : k < xs.length
    · have hlt' : (k : Int) < (xs.length : Int) := by omega
      have c0 : w.cell? ⟨b, o + k, none⟩ = some (.int .u8 (nth xs k)) := hr k _ (by rw [u8s_get xs k (by omega)])
      have c1 : w.cell? ⟨b', o' + k, none⟩ = some (.int .u8 (nth ys k)) := hr' k _ (by rw [u8s_get ys k (by omega)])
      go_wp2
      all_goals
        go_round
        case rel => exact ⟨k + 1, by omega, by go_num, by first | rw [diffs_t (by rw [bne_comm]; assumption)] | rw [diffs_f (by rw [bne_comm]; assumption)]⟩
        case measure => simp [intOf]; omega
    · obtain rfl : k = xs.length := by omega
      go_wp2
      go_ret
      exact ⟨rfl, rfl⟩
end Go.Proofs.YtjppoejkfpeicaaDoor
