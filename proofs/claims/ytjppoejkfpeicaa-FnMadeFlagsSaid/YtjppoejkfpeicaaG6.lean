/- Contracts: stripes: what the closure tells. -/
import Derived.Test.YtjppoejkfpeicaaG5
import Derived.Test.YtjppoejkfpeicaaG3
import Derived.Test.YtjppoejkfpeicaaH1
set_option linter.unusedVariables false
namespace Go.Proofs.Ytjppoejkfpeicaa
open Go.RowKit

/-- Cell k of a flag of stripes. -/
def stripeF (xs : List Int) (up : Bool) (k : Nat) : Int := nth xs ((if up then k % 6 else k / 6) * xs.length / (if up then 6 else 4))
def stripeL (xs : List Int) (up : Bool) : List Int := (List.range 24).map (stripeF xs up)
theorem stripeL_length (xs : List Int) (up : Bool) : (stripeL xs up).length = 24 := by simp [stripeL]
theorem stripe_at (q n m : Nat) (hq : q < m) (hn : 1 ≤ n) (hm : 0 < m) : q * n / m < n := by
  rw [Nat.div_lt_iff_lt_mul hm, Nat.mul_comm n m]
  exact Nat.mul_lt_mul_of_pos_right hq (by omega)

set_option maxHeartbeats 800000 in
theorem StripesOf1_any (xs : List Int) (up : Bool) (A : Option Addr) (c B0 B1 B2 k : Nat) (hk : k < 24) (w : World) (hs : Sl .i64 w A xs) (h1 : 1 ≤ xs.length) (h2 : xs.length ≤ if up then 6 else 4)
    (c0 : w.cell? ⟨B0, 0, none⟩ = some (.slice A xs.length c)) (c1 : w.cell? ⟨B1, 0, none⟩ = some (.bool up)) (c2 : w.cell? ⟨B2, 0, none⟩ = some (.int .i64 (if up then 6 else 4))) :
    Calls Try.prog 65 #[.int .i64 ((k : Int) % 6), .int .i64 ((k : Int) / 6), .pointer (some ⟨B1, 0, none⟩), .pointer (some ⟨B0, 0, none⟩), .pointer (some ⟨B2, 0, none⟩)] w fun e w' => e = .returned (.int .i64 (stripeF xs up k)) ∧ Below w.heap.size w w' := by
  obtain ⟨b, o, rfl, hr⟩ := hs.2 (by omega)
  unfold stripeF
  generalize hn : xs.length = n at *
  cases up
  · simp only [Bool.false_eq_true, if_false] at h2 c2 ⊢
    have hx : (k : Int) / 6 = ((k / 6 : Nat) : Int) := by omega
    have hx4 : k / 6 < 4 := by omega
    rw [hx]
    generalize k / 6 = x at *
    have hm1 : (x : Int) * (n : Int) = ((x * n : Nat) : Int) := by rw [Int.natCast_mul]
    have hm2 : x * n ≤ 3 * 4 := Nat.mul_le_mul (by omega) h2
    have hi := stripe_at x n 4 hx4 h1 (by omega)
    have ci := hr (x * n / 4) _ (i64s_get xs _ (by omega))
    generalize x * n = y at *
    have hy : (y : Int) / 4 = ((y / 4 : Nat) : Int) := by omega
    have hy2 : (y : Int) ≤ 12 := by omega
    clear hx
    generalize y / 4 = z at *
    have hz : (z : Int) < (n : Int) := by omega
    have hn2 : (n : Int) ≤ 4 := by omega
    go_enter Try.func65, Try.ntmps65
    go_wp2
    go_quiet (fail)
    go_wp2
    go_ret
    exact ⟨rfl, bl_drewN (Below.refl _ _) _⟩
  · simp only [if_true] at h2 c2 ⊢
    have hx : (k : Int) % 6 = ((k % 6 : Nat) : Int) := by omega
    have hx4 : k % 6 < 6 := by omega
    rw [hx]
    generalize k % 6 = x at *
    have hm1 : (x : Int) * (n : Int) = ((x * n : Nat) : Int) := by rw [Int.natCast_mul]
    have hm2 : x * n ≤ 5 * 6 := Nat.mul_le_mul (by omega) h2
    have hi := stripe_at x n 6 hx4 h1 (by omega)
    have ci := hr (x * n / 6) _ (i64s_get xs _ (by omega))
    generalize x * n = y at *
    have hy : (y : Int) / 6 = ((y / 6 : Nat) : Int) := by omega
    have hy2 : (y : Int) ≤ 30 := by omega
    clear hx
    generalize y / 6 = z at *
    have hz : (z : Int) < (n : Int) := by omega
    have hn2 : (n : Int) ≤ 6 := by omega
    go_enter Try.func65, Try.ntmps65
    go_wp2
    go_quiet (fail)
    go_wp2
    go_ret
    exact ⟨rfl, bl_drewN (Below.refl _ _) _⟩
end Go.Proofs.Ytjppoejkfpeicaa
