/- Contracts: slices.Max and slices.Index over ints. -/
import Derived.Test.YtjppoejkfpeicaaBm
import Derived.Test.YtjppoejkfpeicaaF14
set_option linter.unusedVariables false
namespace Go.Proofs.Ytjppoejkfpeicaa
open Go.RowKit

theorem best_max (f : Nat → Int) (k : Nat) : f (bestUp f (k + 1)) = if f (bestUp f k) < f (k + 1) then f (k + 1) else f (bestUp f k) := by
  show f (if f (bestUp f k) < f (k + 1) then k + 1 else bestUp f k) = _
  split <;> rfl
theorem bestUp_congr (f g : Nat → Int) : ∀ k, (∀ j, j ≤ k → f j = g j) → bestUp f k = bestUp g k
  | 0, _ => rfl
  | k + 1, h => by
    have h1 := bestUp_congr f g k (fun j hj => h j (by omega))
    have h2 := bestUp_le g k
    unfold bestUp
    rw [h1, h _ (by omega), h (k + 1) (by omega)]

theorem Max_int (xs : List Int) (h1 : 1 ≤ xs.length) (hbig : xs.length ≤ 1000000) (b o c : Nat) (w : World) (hr : w.rangeAt b o (i64s xs)) :
    Calls Try.prog 99 #[.slice (some ⟨b, o, none⟩) xs.length c] w fun e w' => e = .returned (.int .i64 (nth xs (bestUp (nth xs) (xs.length - 1)))) ∧ w = w' := by
  have c0 : w.cell? ⟨b, o + 0, none⟩ = some (.int .i64 (nth xs 0)) := hr 0 _ (i64s_get xs 0 (by omega))
  rw [Nat.add_zero] at c0
  have h1' : (1 : Int) ≤ (xs.length : Int) := by omega
  generalize hn : xs.length = n at *
  have HN := As.mk hn
  clear hn
  go_enter Try.func99, Try.ntmps99
  go_wp2
  go_loop [3, 4] (fun m i => ∃ k : Nat, k + 1 ≤ n ∧ m = .int .i64 (nth xs (bestUp (nth xs) k)) ∧ i = .int .i64 ((k + 1 : Nat) : Int)) (fun _ i => n - (intOf i).toNat)
  case atStart => exact ⟨0, by omega, rfl, rfl⟩
  case round =>
    obtain ⟨k, hk, rfl, rfl⟩ := hrel
    by_cases hlt : k + 1 < n
    · have hlt' : (((k + 1 : Nat)) : Int) < (n : Int) := by omega
      have ck : w.cell? ⟨b, o + (k + 1), none⟩ = some (.int .i64 (nth xs (k + 1))) := hr (k + 1) _ (i64s_get xs (k + 1) (by rw [HN.out]; omega))
      have hB := As.mk (best_max (nth xs) k)
      go_wp2
      go_round
      case rel => exact ⟨k + 1, by omega, by rw [hB.out], by go_num⟩
      case measure => simp [intOf]; omega
    · obtain rfl : n = k + 1 := by omega
      go_wp2
      go_ret
      exact ⟨rfl, rfl⟩

theorem Index_int (xs : List Int) (v : Int) (hbig : xs.length ≤ 1000000) (b o c : Nat) (w : World) (hr : w.rangeAt b o (i64s xs)) :
    Calls Try.prog 98 #[.slice (some ⟨b, o, none⟩) xs.length c, .int .i64 v] w fun e w' => e = .returned (.int .i64 (firstIdx (fun i => nth xs i == v) xs.length 0)) ∧ w = w' := by
  generalize hn : xs.length = n at *
  have HN := As.mk hn
  clear hn
  go_enter Try.func98, Try.ntmps98
  go_wp2
  go_loop [5, 8] (fun _ i => ∃ k : Nat, k ≤ n ∧ i = .int .i64 k ∧ As (∀ j, j < k → (nth xs j == v) = false)) (fun _ i => n - (intOf i).toNat)
  case atStart => exact ⟨0, by omega, rfl, ⟨fun j hj => by omega⟩⟩
  case round =>
    obtain ⟨k, hk, rfl, H⟩ := hrel
    by_cases hlt : k < n
    · have hlt' : (k : Int) < (n : Int) := by omega
      have ck : w.cell? ⟨b, o + k, none⟩ = some (.int .i64 (nth xs k)) := hr k _ (i64s_get xs k (by rw [HN.out]; omega))
      by_cases he : v = nth xs k
      · have he' : (v == nth xs k) = true := by simp [he]
        have hq : (nth xs k == v) = true := by simp [he]
        have HR := As.mk (firstIdx_hit (fun i => nth xs i == v) n 0 k hlt (by simpa using H.out) (by simpa using hq))
        clear hq he
        go_wp2
        go_ret
        exact ⟨ret_n (by rw [HR.out]; simp), rfl⟩
      · have he' : (v == nth xs k) = false := by simp [he]
        have hq : (nth xs k == v) = false := by simp; exact fun h => he h.symm
        have HQ := As.mk hq
        clear hq he
        go_wp2
        go_round
        case rel => exact ⟨k + 1, by omega, by go_num, ⟨all_succ H.out HQ.out⟩⟩
        case measure => simp [intOf]; omega
    · obtain rfl : k = n := by omega
      go_wp2
      go_ret
      exact ⟨ret_n (by rw [firstIdx_miss _ k 0 (by simpa using H.out)]), rfl⟩
end Go.Proofs.Ytjppoejkfpeicaa
