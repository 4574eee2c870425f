/- Contracts and plain facts, several texts in one. -/
import Derived.Test.YtjppoejkfpeicaaQC9
import Derived.Test.YtjppoejkfpeicaaQC1
/- Contracts: crosses, borders, chequers. -/
set_option linter.unusedVariables false
namespace Go.Proofs.Ytjppoejkfpeicaa
open Go.RowKit

set_option maxHeartbeats 400000 in
theorem CrossOf_any (a b : Int) (w : World) :
    Calls Try.prog 21 #[.int .i64 a, .int .i64 b] w fun e w' => e = .returned (.tuple #[fl (okF (aC [a, b]) (madeL 0 a b)), .int .i64 (codeR (aC [a, b]))]) ∧ Below w.heap.size w w' := by
  have W0 : Blk ((((w.alloc (.cells #[.int .i64 a] 2)).alloc (.cells #[.int .i64 b] 2)).alloc (.cells #[.int .u8 0, .int .u8 0, .int .u8 0, .int .u8 0, .int .u8 0, .int .u8 0, .int .u8 0, .int .u8 0, .int .u8 0, .int .u8 0, .int .u8 0, .int .u8 0, .int .u8 0, .int .u8 0, .int .u8 0, .int .u8 0, .int .u8 0, .int .u8 0, .int .u8 0, .int .u8 0, .int .u8 0, .int .u8 0, .int .u8 0, .int .u8 0] 38)).alloc (.cells #[.int .i64 a, .int .i64 b] 2)) w.heap.size (i64s [a]) 2 := (((Blk.mk _ (i64s [a]) _ rfl).alloc _).alloc _).alloc _
  have W1 : Blk ((((w.alloc (.cells #[.int .i64 a] 2)).alloc (.cells #[.int .i64 b] 2)).alloc (.cells #[.int .u8 0, .int .u8 0, .int .u8 0, .int .u8 0, .int .u8 0, .int .u8 0, .int .u8 0, .int .u8 0, .int .u8 0, .int .u8 0, .int .u8 0, .int .u8 0, .int .u8 0, .int .u8 0, .int .u8 0, .int .u8 0, .int .u8 0, .int .u8 0, .int .u8 0, .int .u8 0, .int .u8 0, .int .u8 0, .int .u8 0, .int .u8 0] 38)).alloc (.cells #[.int .i64 a, .int .i64 b] 2)) (w.heap.size + 1) (i64s [b]) 2 := ((Blk.mk _ (i64s [b]) _ (by simp)).alloc _).alloc _
  have W2 : Blk ((((w.alloc (.cells #[.int .i64 a] 2)).alloc (.cells #[.int .i64 b] 2)).alloc (.cells #[.int .u8 0, .int .u8 0, .int .u8 0, .int .u8 0, .int .u8 0, .int .u8 0, .int .u8 0, .int .u8 0, .int .u8 0, .int .u8 0, .int .u8 0, .int .u8 0, .int .u8 0, .int .u8 0, .int .u8 0, .int .u8 0, .int .u8 0, .int .u8 0, .int .u8 0, .int .u8 0, .int .u8 0, .int .u8 0, .int .u8 0, .int .u8 0] 38)).alloc (.cells #[.int .i64 a, .int .i64 b] 2)) (w.heap.size + 1 + 1) (u8s zero24) 38 := (Blk.mk _ (u8s zero24) _ (by simp)).alloc _
  have W3 : Blk ((((w.alloc (.cells #[.int .i64 a] 2)).alloc (.cells #[.int .i64 b] 2)).alloc (.cells #[.int .u8 0, .int .u8 0, .int .u8 0, .int .u8 0, .int .u8 0, .int .u8 0, .int .u8 0, .int .u8 0, .int .u8 0, .int .u8 0, .int .u8 0, .int .u8 0, .int .u8 0, .int .u8 0, .int .u8 0, .int .u8 0, .int .u8 0, .int .u8 0, .int .u8 0, .int .u8 0, .int .u8 0, .int .u8 0, .int .u8 0, .int .u8 0] 38)).alloc (.cells #[.int .i64 a, .int .i64 b] 2)) (w.heap.size + 1 + 1 + 1) (i64s [a, b]) 2 := Blk.mk _ (i64s [a, b]) _ (by simp)
  have b0 : Below w.heap.size w ((((w.alloc (.cells #[.int .i64 a] 2)).alloc (.cells #[.int .i64 b] 2)).alloc (.cells #[.int .u8 0, .int .u8 0, .int .u8 0, .int .u8 0, .int .u8 0, .int .u8 0, .int .u8 0, .int .u8 0, .int .u8 0, .int .u8 0, .int .u8 0, .int .u8 0, .int .u8 0, .int .u8 0, .int .u8 0, .int .u8 0, .int .u8 0, .int .u8 0, .int .u8 0, .int .u8 0, .int .u8 0, .int .u8 0, .int .u8 0, .int .u8 0] 38)).alloc (.cells #[.int .i64 a, .int .i64 b] 2)) := bl_new (bl_new (bl_new (bl_new (Below.refl _ _) _) _) _) _
  have hl : (okF (aC [a, b]) (madeL 0 a b)).length = 24 := okF_length (madeL_length _ _ _)
  have key := pattern_any 59 #[.pointer (some ⟨w.heap.size + 1, 0, none⟩), .pointer (some ⟨w.heap.size, 0, none⟩)] (enters Try.func59 (by kernel_rfl) rfl) (madeF 0 a b) [a, b] (w.heap.size + 1 + 1 + 1) 0 2 _ (by simp) W3.range
    (fun h i _ => made_bd 0 a b h i) (fun _ W k hk hb => CrossOf1_any a b w.heap.size (w.heap.size + 1) k hk W ((W1.kept hb).at 0) ((W0.kept hb).at 0))
  rw [show (List.range 24).map (madeF 0 a b) = madeL 0 a b from rfl] at key
  generalize ho : okF (aC [a, b]) (madeL 0 a b) = ys at *
  go_enter Try.func21, Try.ntmps21
  go_wp2_with (fail)
  refine (key).mono ?_; rintro e w1 ⟨rfl, hb1⟩
  have h2 := W2.kept hb1
  unfold fl
  go_wp2_with (refine store_blk rfl 38 _ _ rfl _ rfl rfl h2 info_fl (by rw [u8s_length]; exact hl) (by rw [u8s_length]; exact zero24_length) (u8s_one _) ?_)
  refine ret_blk_tmp rfl _ rfl (h2.setRow _) Try.underlying38 rfl info_fl (by rw [u8s_length]; exact hl) rfl ⟨rfl, bl_setRow (bl_call b0 hb1) (by omega) _⟩

set_option maxHeartbeats 400000 in
theorem BorderOf_any (a b : Int) (w : World) :
    Calls Try.prog 22 #[.int .i64 a, .int .i64 b] w fun e w' => e = .returned (.tuple #[fl (okF (aC [a, b]) (madeL 1 a b)), .int .i64 (codeR (aC [a, b]))]) ∧ Below w.heap.size w w' := by
  have W0 : Blk ((((w.alloc (.cells #[.int .i64 a] 2)).alloc (.cells #[.int .i64 b] 2)).alloc (.cells #[.int .u8 0, .int .u8 0, .int .u8 0, .int .u8 0, .int .u8 0, .int .u8 0, .int .u8 0, .int .u8 0, .int .u8 0, .int .u8 0, .int .u8 0, .int .u8 0, .int .u8 0, .int .u8 0, .int .u8 0, .int .u8 0, .int .u8 0, .int .u8 0, .int .u8 0, .int .u8 0, .int .u8 0, .int .u8 0, .int .u8 0, .int .u8 0] 38)).alloc (.cells #[.int .i64 a, .int .i64 b] 2)) w.heap.size (i64s [a]) 2 := (((Blk.mk _ (i64s [a]) _ rfl).alloc _).alloc _).alloc _
  have W1 : Blk ((((w.alloc (.cells #[.int .i64 a] 2)).alloc (.cells #[.int .i64 b] 2)).alloc (.cells #[.int .u8 0, .int .u8 0, .int .u8 0, .int .u8 0, .int .u8 0, .int .u8 0, .int .u8 0, .int .u8 0, .int .u8 0, .int .u8 0, .int .u8 0, .int .u8 0, .int .u8 0, .int .u8 0, .int .u8 0, .int .u8 0, .int .u8 0, .int .u8 0, .int .u8 0, .int .u8 0, .int .u8 0, .int .u8 0, .int .u8 0, .int .u8 0] 38)).alloc (.cells #[.int .i64 a, .int .i64 b] 2)) (w.heap.size + 1) (i64s [b]) 2 := ((Blk.mk _ (i64s [b]) _ (by simp)).alloc _).alloc _
  have W2 : Blk ((((w.alloc (.cells #[.int .i64 a] 2)).alloc (.cells #[.int .i64 b] 2)).alloc (.cells #[.int .u8 0, .int .u8 0, .int .u8 0, .int .u8 0, .int .u8 0, .int .u8 0, .int .u8 0, .int .u8 0, .int .u8 0, .int .u8 0, .int .u8 0, .int .u8 0, .int .u8 0, .int .u8 0, .int .u8 0, .int .u8 0, .int .u8 0, .int .u8 0, .int .u8 0, .int .u8 0, .int .u8 0, .int .u8 0, .int .u8 0, .int .u8 0] 38)).alloc (.cells #[.int .i64 a, .int .i64 b] 2)) (w.heap.size + 1 + 1) (u8s zero24) 38 := (Blk.mk _ (u8s zero24) _ (by simp)).alloc _
  have W3 : Blk ((((w.alloc (.cells #[.int .i64 a] 2)).alloc (.cells #[.int .i64 b] 2)).alloc (.cells #[.int .u8 0, .int .u8 0, .int .u8 0, .int .u8 0, .int .u8 0, .int .u8 0, .int .u8 0, .int .u8 0, .int .u8 0, .int .u8 0, .int .u8 0, .int .u8 0, .int .u8 0, .int .u8 0, .int .u8 0, .int .u8 0, .int .u8 0, .int .u8 0, .int .u8 0, .int .u8 0, .int .u8 0, .int .u8 0, .int .u8 0, .int .u8 0] 38)).alloc (.cells #[.int .i64 a, .int .i64 b] 2)) (w.heap.size + 1 + 1 + 1) (i64s [a, b]) 2 := Blk.mk _ (i64s [a, b]) _ (by simp)
  have b0 : Below w.heap.size w ((((w.alloc (.cells #[.int .i64 a] 2)).alloc (.cells #[.int .i64 b] 2)).alloc (.cells #[.int .u8 0, .int .u8 0, .int .u8 0, .int .u8 0, .int .u8 0, .int .u8 0, .int .u8 0, .int .u8 0, .int .u8 0, .int .u8 0, .int .u8 0, .int .u8 0, .int .u8 0, .int .u8 0, .int .u8 0, .int .u8 0, .int .u8 0, .int .u8 0, .int .u8 0, .int .u8 0, .int .u8 0, .int .u8 0, .int .u8 0, .int .u8 0] 38)).alloc (.cells #[.int .i64 a, .int .i64 b] 2)) := bl_new (bl_new (bl_new (bl_new (Below.refl _ _) _) _) _) _
  have hl : (okF (aC [a, b]) (madeL 1 a b)).length = 24 := okF_length (madeL_length _ _ _)
  have key := pattern_any 61 #[.pointer (some ⟨w.heap.size + 1, 0, none⟩), .pointer (some ⟨w.heap.size, 0, none⟩)] (enters Try.func61 (by kernel_rfl) rfl) (madeF 1 a b) [a, b] (w.heap.size + 1 + 1 + 1) 0 2 _ (by simp) W3.range
    (fun h i _ => made_bd 1 a b h i) (fun _ W k hk hb => BorderOf1_any a b w.heap.size (w.heap.size + 1) k hk W ((W1.kept hb).at 0) ((W0.kept hb).at 0))
  rw [show (List.range 24).map (madeF 1 a b) = madeL 1 a b from rfl] at key
  generalize ho : okF (aC [a, b]) (madeL 1 a b) = ys at *
  go_enter Try.func22, Try.ntmps22
  go_wp2_with (fail)
  refine (key).mono ?_; rintro e w1 ⟨rfl, hb1⟩
  have h2 := W2.kept hb1
  unfold fl
  go_wp2_with (refine store_blk rfl 38 _ _ rfl _ rfl rfl h2 info_fl (by rw [u8s_length]; exact hl) (by rw [u8s_length]; exact zero24_length) (u8s_one _) ?_)
  refine ret_blk_tmp rfl _ rfl (h2.setRow _) Try.underlying38 rfl info_fl (by rw [u8s_length]; exact hl) rfl ⟨rfl, bl_setRow (bl_call b0 hb1) (by omega) _⟩

set_option maxHeartbeats 400000 in
theorem ChequersOf_any (a b : Int) (w : World) :
    Calls Try.prog 23 #[.int .i64 a, .int .i64 b] w fun e w' => e = .returned (.tuple #[fl (okF (aC [a, b]) (madeL 2 a b)), .int .i64 (codeR (aC [a, b]))]) ∧ Below w.heap.size w w' := by
  have W0 : Blk ((((w.alloc (.cells #[.int .i64 a] 2)).alloc (.cells #[.int .i64 b] 2)).alloc (.cells #[.int .u8 0, .int .u8 0, .int .u8 0, .int .u8 0, .int .u8 0, .int .u8 0, .int .u8 0, .int .u8 0, .int .u8 0, .int .u8 0, .int .u8 0, .int .u8 0, .int .u8 0, .int .u8 0, .int .u8 0, .int .u8 0, .int .u8 0, .int .u8 0, .int .u8 0, .int .u8 0, .int .u8 0, .int .u8 0, .int .u8 0, .int .u8 0] 38)).alloc (.cells #[.int .i64 a, .int .i64 b] 2)) w.heap.size (i64s [a]) 2 := (((Blk.mk _ (i64s [a]) _ rfl).alloc _).alloc _).alloc _
  have W1 : Blk ((((w.alloc (.cells #[.int .i64 a] 2)).alloc (.cells #[.int .i64 b] 2)).alloc (.cells #[.int .u8 0, .int .u8 0, .int .u8 0, .int .u8 0, .int .u8 0, .int .u8 0, .int .u8 0, .int .u8 0, .int .u8 0, .int .u8 0, .int .u8 0, .int .u8 0, .int .u8 0, .int .u8 0, .int .u8 0, .int .u8 0, .int .u8 0, .int .u8 0, .int .u8 0, .int .u8 0, .int .u8 0, .int .u8 0, .int .u8 0, .int .u8 0] 38)).alloc (.cells #[.int .i64 a, .int .i64 b] 2)) (w.heap.size + 1) (i64s [b]) 2 := ((Blk.mk _ (i64s [b]) _ (by simp)).alloc _).alloc _
  have W2 : Blk ((((w.alloc (.cells #[.int .i64 a] 2)).alloc (.cells #[.int .i64 b] 2)).alloc (.cells #[.int .u8 0, .int .u8 0, .int .u8 0, .int .u8 0, .int .u8 0, .int .u8 0, .int .u8 0, .int .u8 0, .int .u8 0, .int .u8 0, .int .u8 0, .int .u8 0, .int .u8 0, .int .u8 0, .int .u8 0, .int .u8 0, .int .u8 0, .int .u8 0, .int .u8 0, .int .u8 0, .int .u8 0, .int .u8 0, .int .u8 0, .int .u8 0] 38)).alloc (.cells #[.int .i64 a, .int .i64 b] 2)) (w.heap.size + 1 + 1) (u8s zero24) 38 := (Blk.mk _ (u8s zero24) _ (by simp)).alloc _
  have W3 : Blk ((((w.alloc (.cells #[.int .i64 a] 2)).alloc (.cells #[.int .i64 b] 2)).alloc (.cells #[.int .u8 0, .int .u8 0, .int .u8 0, .int .u8 0, .int .u8 0, .int .u8 0, .int .u8 0, .int .u8 0, .int .u8 0, .int .u8 0, .int .u8 0, .int .u8 0, .int .u8 0, .int .u8 0, .int .u8 0, .int .u8 0, .int .u8 0, .int .u8 0, .int .u8 0, .int .u8 0, .int .u8 0, .int .u8 0, .int .u8 0, .int .u8 0] 38)).alloc (.cells #[.int .i64 a, .int .i64 b] 2)) (w.heap.size + 1 + 1 + 1) (i64s [a, b]) 2 := Blk.mk _ (i64s [a, b]) _ (by simp)
  have b0 : Below w.heap.size w ((((w.alloc (.cells #[.int .i64 a] 2)).alloc (.cells #[.int .i64 b] 2)).alloc (.cells #[.int .u8 0, .int .u8 0, .int .u8 0, .int .u8 0, .int .u8 0, .int .u8 0, .int .u8 0, .int .u8 0, .int .u8 0, .int .u8 0, .int .u8 0, .int .u8 0, .int .u8 0, .int .u8 0, .int .u8 0, .int .u8 0, .int .u8 0, .int .u8 0, .int .u8 0, .int .u8 0, .int .u8 0, .int .u8 0, .int .u8 0, .int .u8 0] 38)).alloc (.cells #[.int .i64 a, .int .i64 b] 2)) := bl_new (bl_new (bl_new (bl_new (Below.refl _ _) _) _) _) _
  have hl : (okF (aC [a, b]) (madeL 2 a b)).length = 24 := okF_length (madeL_length _ _ _)
  have key := pattern_any 62 #[.pointer (some ⟨w.heap.size, 0, none⟩), .pointer (some ⟨w.heap.size + 1, 0, none⟩)] (enters Try.func62 (by kernel_rfl) rfl) (madeF 2 a b) [a, b] (w.heap.size + 1 + 1 + 1) 0 2 _ (by simp) W3.range
    (fun h i _ => made_bd 2 a b h i) (fun _ W k hk hb => ChequersOf1_any a b w.heap.size (w.heap.size + 1) k hk W ((W1.kept hb).at 0) ((W0.kept hb).at 0))
  rw [show (List.range 24).map (madeF 2 a b) = madeL 2 a b from rfl] at key
  generalize ho : okF (aC [a, b]) (madeL 2 a b) = ys at *
  go_enter Try.func23, Try.ntmps23
  go_wp2_with (fail)
  refine (key).mono ?_; rintro e w1 ⟨rfl, hb1⟩
  have h2 := W2.kept hb1
  unfold fl
  go_wp2_with (refine store_blk rfl 38 _ _ rfl _ rfl rfl h2 info_fl (by rw [u8s_length]; exact hl) (by rw [u8s_length]; exact zero24_length) (u8s_one _) ?_)
  refine ret_blk_tmp rfl _ rfl (h2.setRow _) Try.underlying38 rfl info_fl (by rw [u8s_length]; exact hl) rfl ⟨rfl, bl_setRow (bl_call b0 hb1) (by omega) _⟩
end Go.Proofs.Ytjppoejkfpeicaa

/- Contracts: stripes: what the closure tells. -/
set_option linter.unusedVariables false
namespace Go.Proofs.Ytjppoejkfpeicaa
open Go.RowKit

/-- Cell k of a flag of stripes. -/
def stripeF (xs : List Int) (up : Bool) (k : Nat) : Int := nth xs ((if up then k % 6 else k / 6) * xs.length / (if up then 6 else 4))
def stripeL (xs : List Int) (up : Bool) : List Int := (List.range 24).map (stripeF xs up)
theorem stripeL_length (xs : List Int) (up : Bool) : (stripeL xs up).length = 24 := by simp [stripeL]
theorem stripe_at (q n m : Nat) (hq : q < m) (hn : 1 ≤ n) (hm : 0 < m) : q * n / m < n := by
  rw [Nat.div_lt_iff_lt_mul hm, Nat.mul_comm n m]
  exact Nat.mul_lt_mul_of_pos_right hq (by omega)

set_option maxHeartbeats 800000 in
theorem StripesOf1_any (xs : List Int) (up : Bool) (A : Option Addr) (c B0 B1 B2 k : Nat) (hk : k < 24) (w : World) (hs : Sl .i64 w A xs) (h1 : 1 ≤ xs.length) (h2 : xs.length ≤ if up then 6 else 4)
    (c0 : w.cell? ⟨B0, 0, none⟩ = some (.slice A xs.length c)) (c1 : w.cell? ⟨B1, 0, none⟩ = some (.bool up)) (c2 : w.cell? ⟨B2, 0, none⟩ = some (.int .i64 (if up then 6 else 4))) :
    Calls Try.prog 65 #[.int .i64 ((k : Int) % 6), .int .i64 ((k : Int) / 6), .pointer (some ⟨B1, 0, none⟩), .pointer (some ⟨B0, 0, none⟩), .pointer (some ⟨B2, 0, none⟩)] w fun e w' => e = .returned (.int .i64 (stripeF xs up k)) ∧ Below w.heap.size w w' := by
  obtain ⟨b, o, rfl, hr⟩ := hs.2 (by omega)
  unfold stripeF
  generalize hn : xs.length = n at *
  cases up
  · simp only [Bool.false_eq_true, if_false] at h2 c2 ⊢
    have hx : (k : Int) / 6 = ((k / 6 : Nat) : Int) := by omega
    have hx4 : k / 6 < 4 := by omega
    rw [hx]
    generalize k / 6 = x at *
    have hm1 : (x : Int) * (n : Int) = ((x * n : Nat) : Int) := by rw [Int.natCast_mul]
    have hm2 : x * n ≤ 3 * 4 := Nat.mul_le_mul (by omega) h2
    have hi := stripe_at x n 4 hx4 h1 (by omega)
    have ci := hr (x * n / 4) _ (i64s_get xs _ (by omega))
    generalize x * n = y at *
    have hy : (y : Int) / 4 = ((y / 4 : Nat) : Int) := by omega
    have hy2 : (y : Int) ≤ 12 := by omega
    clear hx
    generalize y / 4 = z at *
    have hz : (z : Int) < (n : Int) := by omega
    have hn2 : (n : Int) ≤ 4 := by omega
    go_enter Try.func65, Try.ntmps65
    go_wp2
    go_quiet (fail)
    go_wp2
    go_ret
    exact ⟨rfl, bl_drewN (Below.refl _ _) _⟩
  · simp only [if_true] at h2 c2 ⊢
    have hx : (k : Int) % 6 = ((k % 6 : Nat) : Int) := by omega
    have hx4 : k % 6 < 6 := by omega
    rw [hx]
    generalize k % 6 = x at *
    have hm1 : (x : Int) * (n : Int) = ((x * n : Nat) : Int) := by rw [Int.natCast_mul]
    have hm2 : x * n ≤ 5 * 6 := Nat.mul_le_mul (by omega) h2
    have hi := stripe_at x n 6 hx4 h1 (by omega)
    have ci := hr (x * n / 6) _ (i64s_get xs _ (by omega))
    generalize x * n = y at *
    have hy : (y : Int) / 6 = ((y / 6 : Nat) : Int) := by omega
    have hy2 : (y : Int) ≤ 30 := by omega
    clear hx
    generalize y / 6 = z at *
    have hz : (z : Int) < (n : Int) := by omega
    have hn2 : (n : Int) ≤ 6 := by omega
    go_enter Try.func65, Try.ntmps65
    go_wp2
    go_quiet (fail)
    go_wp2
    go_ret
    exact ⟨rfl, bl_drewN (Below.refl _ _) _⟩
end Go.Proofs.Ytjppoejkfpeicaa

/- Contracts: impl.StripesOf, impl.PlainFlag. -/
set_option linter.unusedVariables false
set_option linter.unusedSimpArgs false
namespace Go.Proofs.Ytjppoejkfpeicaa
open Go.RowKit

theorem size_any (A : Option Addr) (n c : Nat) (w : World) (hn : n ≤ 9223372036854775807) : Calls Try.prog 64 #[.slice A n c] w fun e w' => e = .returned (.int .i64 n) ∧ w = w' := by
  go_enter Try.func64, Try.ntmps64
  go_wp2
  go_ret
  exact ⟨rfl, rfl⟩

def stripesOk (xs : List Int) (up : Bool) : Bool := inR xs.length 1 (if up then 6 else 4) && aC xs
theorem stripe_bd (xs : List Int) (up : Bool) (h : stripesOk xs up = true) (k : Nat) (hk : k < 24) : 0 ≤ stripeF xs up k ∧ stripeF xs up k ≤ 255 := by
  simp only [stripesOk, Bool.and_eq_true, inR_iff] at h
  have ha := h.2
  unfold aC at ha
  rw [List.all_eq_true] at ha
  have hi : (if up then k % 6 else k / 6) * xs.length / (if up then 6 else 4) < xs.length := by
    cases up
    · exact stripe_at (k / 6) xs.length 4 (by omega) (by omega) (by omega)
    · exact stripe_at (k % 6) xs.length 6 (by omega) (by omega) (by omega)
  have := (inR_iff _ _ _).1 (ha _ (nth_mem xs _ hi))
  unfold stripeF
  omega
theorem Sl.below {k : IntKind} {w w' : World} {A : Option Addr} {xs : List Int} (h : Sl k w A xs) (hb : Below w.heap.size w w') : Sl k w' A xs := h.kept hb

set_option maxHeartbeats 800000 in
theorem StripesOf_any (xs : List Int) (up : Bool) (A : Option Addr) (c : Nat) (w : World) (hs : Sl .i64 w A xs) (hbig : xs.length ≤ 1048576) :
    Calls Try.prog 24 #[.slice A xs.length c, .bool up] w fun e w' => e = .returned (.tuple #[fl (okF (stripesOk xs up) (stripeL xs up)), .int .i64 (codeR (stripesOk xs up))]) ∧ Below w.heap.size w w' := by
  have hl : (okF (stripesOk xs up) (stripeL xs up)).length = 24 := okF_length (stripeL_length _ _)
  cases up
  · have V0 : Blk ((((w.alloc (.cells #[.slice A xs.length c] 24)).alloc (.cells #[.bool false] 4)).alloc (.cells #[.int .u8 0, .int .u8 0, .int .u8 0, .int .u8 0, .int .u8 0, .int .u8 0, .int .u8 0, .int .u8 0, .int .u8 0, .int .u8 0, .int .u8 0, .int .u8 0, .int .u8 0, .int .u8 0, .int .u8 0, .int .u8 0, .int .u8 0, .int .u8 0, .int .u8 0, .int .u8 0, .int .u8 0, .int .u8 0, .int .u8 0, .int .u8 0] 38)).alloc (.cells #[.int .i64 4] 3)) w.heap.size [.slice A xs.length c] 24 := (((Blk.mk _ [_] _ rfl).alloc _).alloc _).alloc _
    have V1 : Blk ((((w.alloc (.cells #[.slice A xs.length c] 24)).alloc (.cells #[.bool false] 4)).alloc (.cells #[.int .u8 0, .int .u8 0, .int .u8 0, .int .u8 0, .int .u8 0, .int .u8 0, .int .u8 0, .int .u8 0, .int .u8 0, .int .u8 0, .int .u8 0, .int .u8 0, .int .u8 0, .int .u8 0, .int .u8 0, .int .u8 0, .int .u8 0, .int .u8 0, .int .u8 0, .int .u8 0, .int .u8 0, .int .u8 0, .int .u8 0, .int .u8 0] 38)).alloc (.cells #[.int .i64 4] 3)) (w.heap.size + 1) [.bool false] 4 := ((Blk.mk _ [_] _ (by simp)).alloc _).alloc _
    have V2 : Blk ((((w.alloc (.cells #[.slice A xs.length c] 24)).alloc (.cells #[.bool false] 4)).alloc (.cells #[.int .u8 0, .int .u8 0, .int .u8 0, .int .u8 0, .int .u8 0, .int .u8 0, .int .u8 0, .int .u8 0, .int .u8 0, .int .u8 0, .int .u8 0, .int .u8 0, .int .u8 0, .int .u8 0, .int .u8 0, .int .u8 0, .int .u8 0, .int .u8 0, .int .u8 0, .int .u8 0, .int .u8 0, .int .u8 0, .int .u8 0, .int .u8 0] 38)).alloc (.cells #[.int .i64 4] 3)) (w.heap.size + 1 + 1) (u8s zero24) 38 := (Blk.mk _ (u8s zero24) _ (by simp)).alloc _
    have V3 : Blk ((((w.alloc (.cells #[.slice A xs.length c] 24)).alloc (.cells #[.bool false] 4)).alloc (.cells #[.int .u8 0, .int .u8 0, .int .u8 0, .int .u8 0, .int .u8 0, .int .u8 0, .int .u8 0, .int .u8 0, .int .u8 0, .int .u8 0, .int .u8 0, .int .u8 0, .int .u8 0, .int .u8 0, .int .u8 0, .int .u8 0, .int .u8 0, .int .u8 0, .int .u8 0, .int .u8 0, .int .u8 0, .int .u8 0, .int .u8 0, .int .u8 0] 38)).alloc (.cells #[.int .i64 4] 3)) (w.heap.size + 1 + 1 + 1) [.int .i64 4] 3 := Blk.mk _ [_] _ (by simp)
    have b0 : Below w.heap.size w ((((w.alloc (.cells #[.slice A xs.length c] 24)).alloc (.cells #[.bool false] 4)).alloc (.cells #[.int .u8 0, .int .u8 0, .int .u8 0, .int .u8 0, .int .u8 0, .int .u8 0, .int .u8 0, .int .u8 0, .int .u8 0, .int .u8 0, .int .u8 0, .int .u8 0, .int .u8 0, .int .u8 0, .int .u8 0, .int .u8 0, .int .u8 0, .int .u8 0, .int .u8 0, .int .u8 0, .int .u8 0, .int .u8 0, .int .u8 0, .int .u8 0] 38)).alloc (.cells #[.int .i64 4] 3)) := bl_new (bl_new (bl_new (bl_new (Below.refl _ _) _) _) _) _
    have hs' := hs.kept b0
    have d0 := V0.at 0
    have d3 := V3.at 0
    simp only [List.getElem?_cons_zero] at d0 d3
    cases h1 : inR xs.length 1 4
    · have hk : stripesOk xs false = false := by unfold stripesOk; simp only [Bool.false_eq_true, if_false, if_true]; rw [h1]; rfl
      rw [hk]
      go_enter Try.func24, Try.ntmps24
      go_wp2
      generalize (((w.alloc (.cells #[.slice A xs.length c] 24)).alloc (.cells #[.bool false] 4)).alloc (.cells #[.int .u8 0, .int .u8 0, .int .u8 0, .int .u8 0, .int .u8 0, .int .u8 0, .int .u8 0, .int .u8 0, .int .u8 0, .int .u8 0, .int .u8 0, .int .u8 0, .int .u8 0, .int .u8 0, .int .u8 0, .int .u8 0, .int .u8 0, .int .u8 0, .int .u8 0, .int .u8 0, .int .u8 0, .int .u8 0, .int .u8 0, .int .u8 0] 38)).alloc (.cells #[.int .i64 4] 3) = W at *
      have V2q := fun q => V2.drewN q
      go_quiet (first | (go_at_call 64; exact Calls.quiet_of_same ((size_any _ _ _ _ (by omega)).mono fun e w' h => ⟨h.1, h.2.symm⟩)) | (go_at_call 63; exact Calls.quiet_of_same ((within_any _ _ _ _).mono fun e w' h => ⟨h.1, h.2.symm⟩)))
      have V2q := V2.drewN nq
      have b0q := bl_drewN b0 nq
      generalize W.drewN nq = W1 at *
      go_wp2_with (refine store_blk rfl 38 _ _ rfl _ rfl (ds := u8s zero24) rfl V2q info_fl (by rfl) (by rfl) (u8s_one _) ?_)
      refine ret_blk_tmp rfl _ rfl (V2q.setRow _) Try.underlying38 rfl info_fl (by rfl) rfl ⟨rfl, bl_setRow b0q (by omega) _⟩
    · have hk : stripesOk xs false = aC xs := by unfold stripesOk; simp only [Bool.false_eq_true, if_false, if_true]; rw [h1]; rfl
      have hb := (inR_iff _ _ _).1 h1
      obtain ⟨b, o, rfl, hr⟩ := hs'.2 (by omega)
      have hsb := fun i => stripe_bd xs false (k := i)
      rw [hk] at hl hsb ⊢
      have key := fun q => pattern_any 65 #[.pointer (some ⟨w.heap.size + 1, 0, none⟩), .pointer (some ⟨w.heap.size, 0, none⟩), .pointer (some ⟨w.heap.size + 1 + 1 + 1, 0, none⟩)] (enters Try.func65 (by kernel_rfl) rfl) (stripeF xs false) xs b o c (World.drewN ((((w.alloc (.cells #[.slice (some ⟨b, o, none⟩) xs.length c] 24)).alloc (.cells #[.bool false] 4)).alloc (.cells #[.int .u8 0, .int .u8 0, .int .u8 0, .int .u8 0, .int .u8 0, .int .u8 0, .int .u8 0, .int .u8 0, .int .u8 0, .int .u8 0, .int .u8 0, .int .u8 0, .int .u8 0, .int .u8 0, .int .u8 0, .int .u8 0, .int .u8 0, .int .u8 0, .int .u8 0, .int .u8 0, .int .u8 0, .int .u8 0, .int .u8 0, .int .u8 0] 38)).alloc (.cells #[.int .i64 4] 3)) q) (by omega) hr
        (fun h i hi => hsb i h hi)
        (fun _ W' k hk hb' => StripesOf1_any xs false (some ⟨b, o, none⟩) c w.heap.size (w.heap.size + 1) (w.heap.size + 1 + 1 + 1) k hk W' ((hs'.kept (bl_drewN (Below.refl _ _) q)).kept hb') (by omega) (by simp only [Bool.false_eq_true, if_false, if_true]; omega) (((V0.drewN q).kept hb').at 0) (((V1.drewN q).kept hb').at 0) (((V3.drewN q).kept hb').at 0))
      rw [show (List.range 24).map (stripeF xs false) = stripeL xs false from rfl] at key
      clear hsb
      generalize okF (aC xs) (stripeL xs false) = ys at *
      go_enter Try.func24, Try.ntmps24
      go_wp2
      generalize (((w.alloc (.cells #[.slice (some ⟨b, o, none⟩) xs.length c] 24)).alloc (.cells #[.bool false] 4)).alloc (.cells #[.int .u8 0, .int .u8 0, .int .u8 0, .int .u8 0, .int .u8 0, .int .u8 0, .int .u8 0, .int .u8 0, .int .u8 0, .int .u8 0, .int .u8 0, .int .u8 0, .int .u8 0, .int .u8 0, .int .u8 0, .int .u8 0, .int .u8 0, .int .u8 0, .int .u8 0, .int .u8 0, .int .u8 0, .int .u8 0, .int .u8 0, .int .u8 0] 38)).alloc (.cells #[.int .i64 4] 3) = W at *
      have V2q := fun q => V2.drewN q
      go_quiet (first | (go_at_call 64; exact Calls.quiet_of_same ((size_any _ _ _ _ (by omega)).mono fun e w' h => ⟨h.1, h.2.symm⟩)) | (go_at_call 63; exact Calls.quiet_of_same ((within_any _ _ _ _).mono fun e w' h => ⟨h.1, h.2.symm⟩)))
      go_wp2_with (fail)
      refine (key _).mono ?_; rintro e w1 ⟨rfl, hb1⟩
      have g2 := (V2q _).kept hb1
      unfold fl
      go_wp2_with (refine store_blk rfl 38 _ _ rfl _ rfl rfl g2 info_fl (by rw [u8s_length]; exact hl) (by rw [u8s_length]; exact zero24_length) (u8s_one _) ?_)
      refine ret_blk_tmp rfl _ rfl (g2.setRow _) Try.underlying38 rfl info_fl (by rw [u8s_length]; exact hl) rfl ⟨rfl, bl_setRow (bl_call (bl_drewN b0 _) hb1) (by omega) _⟩
  · have V0 : Blk ((((w.alloc (.cells #[.slice A xs.length c] 24)).alloc (.cells #[.bool true] 4)).alloc (.cells #[.int .u8 0, .int .u8 0, .int .u8 0, .int .u8 0, .int .u8 0, .int .u8 0, .int .u8 0, .int .u8 0, .int .u8 0, .int .u8 0, .int .u8 0, .int .u8 0, .int .u8 0, .int .u8 0, .int .u8 0, .int .u8 0, .int .u8 0, .int .u8 0, .int .u8 0, .int .u8 0, .int .u8 0, .int .u8 0, .int .u8 0, .int .u8 0] 38)).alloc (.cells #[.int .i64 6] 3)) w.heap.size [.slice A xs.length c] 24 := (((Blk.mk _ [_] _ rfl).alloc _).alloc _).alloc _
    have V1 : Blk ((((w.alloc (.cells #[.slice A xs.length c] 24)).alloc (.cells #[.bool true] 4)).alloc (.cells #[.int .u8 0, .int .u8 0, .int .u8 0, .int .u8 0, .int .u8 0, .int .u8 0, .int .u8 0, .int .u8 0, .int .u8 0, .int .u8 0, .int .u8 0, .int .u8 0, .int .u8 0, .int .u8 0, .int .u8 0, .int .u8 0, .int .u8 0, .int .u8 0, .int .u8 0, .int .u8 0, .int .u8 0, .int .u8 0, .int .u8 0, .int .u8 0] 38)).alloc (.cells #[.int .i64 6] 3)) (w.heap.size + 1) [.bool true] 4 := ((Blk.mk _ [_] _ (by simp)).alloc _).alloc _
    have V2 : Blk ((((w.alloc (.cells #[.slice A xs.length c] 24)).alloc (.cells #[.bool true] 4)).alloc (.cells #[.int .u8 0, .int .u8 0, .int .u8 0, .int .u8 0, .int .u8 0, .int .u8 0, .int .u8 0, .int .u8 0, .int .u8 0, .int .u8 0, .int .u8 0, .int .u8 0, .int .u8 0, .int .u8 0, .int .u8 0, .int .u8 0, .int .u8 0, .int .u8 0, .int .u8 0, .int .u8 0, .int .u8 0, .int .u8 0, .int .u8 0, .int .u8 0] 38)).alloc (.cells #[.int .i64 6] 3)) (w.heap.size + 1 + 1) (u8s zero24) 38 := (Blk.mk _ (u8s zero24) _ (by simp)).alloc _
    have V3 : Blk ((((w.alloc (.cells #[.slice A xs.length c] 24)).alloc (.cells #[.bool true] 4)).alloc (.cells #[.int .u8 0, .int .u8 0, .int .u8 0, .int .u8 0, .int .u8 0, .int .u8 0, .int .u8 0, .int .u8 0, .int .u8 0, .int .u8 0, .int .u8 0, .int .u8 0, .int .u8 0, .int .u8 0, .int .u8 0, .int .u8 0, .int .u8 0, .int .u8 0, .int .u8 0, .int .u8 0, .int .u8 0, .int .u8 0, .int .u8 0, .int .u8 0] 38)).alloc (.cells #[.int .i64 6] 3)) (w.heap.size + 1 + 1 + 1) [.int .i64 6] 3 := Blk.mk _ [_] _ (by simp)
    have b0 : Below w.heap.size w ((((w.alloc (.cells #[.slice A xs.length c] 24)).alloc (.cells #[.bool true] 4)).alloc (.cells #[.int .u8 0, .int .u8 0, .int .u8 0, .int .u8 0, .int .u8 0, .int .u8 0, .int .u8 0, .int .u8 0, .int .u8 0, .int .u8 0, .int .u8 0, .int .u8 0, .int .u8 0, .int .u8 0, .int .u8 0, .int .u8 0, .int .u8 0, .int .u8 0, .int .u8 0, .int .u8 0, .int .u8 0, .int .u8 0, .int .u8 0, .int .u8 0] 38)).alloc (.cells #[.int .i64 6] 3)) := bl_new (bl_new (bl_new (bl_new (Below.refl _ _) _) _) _) _
    have hs' := hs.kept b0
    have d0 := V0.at 0
    have d3 := V3.at 0
    simp only [List.getElem?_cons_zero] at d0 d3
    cases h1 : inR xs.length 1 6
    · have hk : stripesOk xs true = false := by unfold stripesOk; simp only [Bool.false_eq_true, if_false, if_true]; rw [h1]; rfl
      rw [hk]
      go_enter Try.func24, Try.ntmps24
      go_wp2
      generalize (((w.alloc (.cells #[.slice A xs.length c] 24)).alloc (.cells #[.bool true] 4)).alloc (.cells #[.int .u8 0, .int .u8 0, .int .u8 0, .int .u8 0, .int .u8 0, .int .u8 0, .int .u8 0, .int .u8 0, .int .u8 0, .int .u8 0, .int .u8 0, .int .u8 0, .int .u8 0, .int .u8 0, .int .u8 0, .int .u8 0, .int .u8 0, .int .u8 0, .int .u8 0, .int .u8 0, .int .u8 0, .int .u8 0, .int .u8 0, .int .u8 0] 38)).alloc (.cells #[.int .i64 6] 3) = W at *
      have V2q := fun q => V2.drewN q
      go_quiet (first | (go_at_call 64; exact Calls.quiet_of_same ((size_any _ _ _ _ (by omega)).mono fun e w' h => ⟨h.1, h.2.symm⟩)) | (go_at_call 63; exact Calls.quiet_of_same ((within_any _ _ _ _).mono fun e w' h => ⟨h.1, h.2.symm⟩)))
      have V2q := V2.drewN nq
      have b0q := bl_drewN b0 nq
      generalize W.drewN nq = W1 at *
      go_wp2_with (refine store_blk rfl 38 _ _ rfl _ rfl (ds := u8s zero24) rfl V2q info_fl (by rfl) (by rfl) (u8s_one _) ?_)
      refine ret_blk_tmp rfl _ rfl (V2q.setRow _) Try.underlying38 rfl info_fl (by rfl) rfl ⟨rfl, bl_setRow b0q (by omega) _⟩
    · have hk : stripesOk xs true = aC xs := by unfold stripesOk; simp only [Bool.false_eq_true, if_false, if_true]; rw [h1]; rfl
      have hb := (inR_iff _ _ _).1 h1
      obtain ⟨b, o, rfl, hr⟩ := hs'.2 (by omega)
      have hsb := fun i => stripe_bd xs true (k := i)
      rw [hk] at hl hsb ⊢
      have key := fun q => pattern_any 65 #[.pointer (some ⟨w.heap.size + 1, 0, none⟩), .pointer (some ⟨w.heap.size, 0, none⟩), .pointer (some ⟨w.heap.size + 1 + 1 + 1, 0, none⟩)] (enters Try.func65 (by kernel_rfl) rfl) (stripeF xs true) xs b o c (World.drewN ((((w.alloc (.cells #[.slice (some ⟨b, o, none⟩) xs.length c] 24)).alloc (.cells #[.bool true] 4)).alloc (.cells #[.int .u8 0, .int .u8 0, .int .u8 0, .int .u8 0, .int .u8 0, .int .u8 0, .int .u8 0, .int .u8 0, .int .u8 0, .int .u8 0, .int .u8 0, .int .u8 0, .int .u8 0, .int .u8 0, .int .u8 0, .int .u8 0, .int .u8 0, .int .u8 0, .int .u8 0, .int .u8 0, .int .u8 0, .int .u8 0, .int .u8 0, .int .u8 0] 38)).alloc (.cells #[.int .i64 6] 3)) q) (by omega) hr
        (fun h i hi => hsb i h hi)
        (fun _ W' k hk hb' => StripesOf1_any xs true (some ⟨b, o, none⟩) c w.heap.size (w.heap.size + 1) (w.heap.size + 1 + 1 + 1) k hk W' ((hs'.kept (bl_drewN (Below.refl _ _) q)).kept hb') (by omega) (by simp only [Bool.false_eq_true, if_false, if_true]; omega) (((V0.drewN q).kept hb').at 0) (((V1.drewN q).kept hb').at 0) (((V3.drewN q).kept hb').at 0))
      rw [show (List.range 24).map (stripeF xs true) = stripeL xs true from rfl] at key
      clear hsb
      generalize okF (aC xs) (stripeL xs true) = ys at *
      go_enter Try.func24, Try.ntmps24
      go_wp2
      generalize (((w.alloc (.cells #[.slice (some ⟨b, o, none⟩) xs.length c] 24)).alloc (.cells #[.bool true] 4)).alloc (.cells #[.int .u8 0, .int .u8 0, .int .u8 0, .int .u8 0, .int .u8 0, .int .u8 0, .int .u8 0, .int .u8 0, .int .u8 0, .int .u8 0, .int .u8 0, .int .u8 0, .int .u8 0, .int .u8 0, .int .u8 0, .int .u8 0, .int .u8 0, .int .u8 0, .int .u8 0, .int .u8 0, .int .u8 0, .int .u8 0, .int .u8 0, .int .u8 0] 38)).alloc (.cells #[.int .i64 6] 3) = W at *
      have V2q := fun q => V2.drewN q
      go_quiet (first | (go_at_call 64; exact Calls.quiet_of_same ((size_any _ _ _ _ (by omega)).mono fun e w' h => ⟨h.1, h.2.symm⟩)) | (go_at_call 63; exact Calls.quiet_of_same ((within_any _ _ _ _).mono fun e w' h => ⟨h.1, h.2.symm⟩)))
      go_wp2_with (fail)
      refine (key _).mono ?_; rintro e w1 ⟨rfl, hb1⟩
      have g2 := (V2q _).kept hb1
      unfold fl
      go_wp2_with (refine store_blk rfl 38 _ _ rfl _ rfl rfl g2 info_fl (by rw [u8s_length]; exact hl) (by rw [u8s_length]; exact zero24_length) (u8s_one _) ?_)
      refine ret_blk_tmp rfl _ rfl (g2.setRow _) Try.underlying38 rfl info_fl (by rw [u8s_length]; exact hl) rfl ⟨rfl, bl_setRow (bl_call (bl_drewN b0 _) hb1) (by omega) _⟩

theorem stripe_one (a : Int) : stripeL [a] true = plainL a := by
  unfold stripeL plainL
  apply List.map_congr_left
  intro k _
  simp only [stripeF, if_true, List.length_singleton, Nat.mul_one]
  rw [Nat.div_eq_of_lt (by omega)]; rfl
theorem stripesOk_one (a : Int) : stripesOk [a] true = inR a 0 5 := by
  simp [stripesOk, aC, inR]
set_option maxHeartbeats 400000 in
theorem PlainFlag_any (a : Int) (w : World) :
    Calls Try.prog 20 #[.int .i64 a] w fun e w' => e = .returned (.tuple #[fl (okF (inR a 0 5) (plainL a)), .int .i64 (codeR (inR a 0 5))]) ∧ Below w.heap.size w w' := by
  rw [← stripe_one, ← stripesOk_one]
  have W2 : Blk ((w.alloc (.cells #[.int .u8 0, .int .u8 0, .int .u8 0, .int .u8 0, .int .u8 0, .int .u8 0, .int .u8 0, .int .u8 0, .int .u8 0, .int .u8 0, .int .u8 0, .int .u8 0, .int .u8 0, .int .u8 0, .int .u8 0, .int .u8 0, .int .u8 0, .int .u8 0, .int .u8 0, .int .u8 0, .int .u8 0, .int .u8 0, .int .u8 0, .int .u8 0] 38)).alloc (.cells #[.int .i64 a] 2)) w.heap.size (u8s zero24) 38 := (Blk.mk _ (u8s zero24) _ rfl).alloc _
  have W3 : Blk ((w.alloc (.cells #[.int .u8 0, .int .u8 0, .int .u8 0, .int .u8 0, .int .u8 0, .int .u8 0, .int .u8 0, .int .u8 0, .int .u8 0, .int .u8 0, .int .u8 0, .int .u8 0, .int .u8 0, .int .u8 0, .int .u8 0, .int .u8 0, .int .u8 0, .int .u8 0, .int .u8 0, .int .u8 0, .int .u8 0, .int .u8 0, .int .u8 0, .int .u8 0] 38)).alloc (.cells #[.int .i64 a] 2)) (w.heap.size + 1) (i64s [a]) 2 := Blk.mk _ (i64s [a]) _ (by simp)
  have b0 : Below w.heap.size w ((w.alloc (.cells #[.int .u8 0, .int .u8 0, .int .u8 0, .int .u8 0, .int .u8 0, .int .u8 0, .int .u8 0, .int .u8 0, .int .u8 0, .int .u8 0, .int .u8 0, .int .u8 0, .int .u8 0, .int .u8 0, .int .u8 0, .int .u8 0, .int .u8 0, .int .u8 0, .int .u8 0, .int .u8 0, .int .u8 0, .int .u8 0, .int .u8 0, .int .u8 0] 38)).alloc (.cells #[.int .i64 a] 2)) := bl_new (bl_new (Below.refl _ _) _) _
  have hl : (okF (stripesOk [a] true) (stripeL [a] true)).length = 24 := okF_length (stripeL_length _ _)
  have key := StripesOf_any [a] true (some ⟨w.heap.size + 1, 0, none⟩) 1 _ ⟨by simp, fun _ => ⟨_, _, rfl, W3.range⟩⟩ (by simp)
  generalize okF (stripesOk [a] true) (stripeL [a] true) = ys at *
  go_enter Try.func20, Try.ntmps20
  go_wp2_with (fail)
  refine (key).mono ?_; rintro e w1 ⟨rfl, hb1⟩
  have h2 := W2.kept hb1
  unfold fl
  go_wp2_with (refine store_blk rfl 38 _ _ rfl _ rfl rfl h2 info_fl (by rw [u8s_length]; exact hl) (by rw [u8s_length]; exact zero24_length) (u8s_one _) ?_)
  refine ret_blk_tmp rfl _ rfl (h2.setRow _) Try.underlying38 rfl info_fl (by rw [u8s_length]; exact hl) rfl ⟨rfl, bl_setRow (bl_call b0 hb1) (by omega) _⟩
end Go.Proofs.Ytjppoejkfpeicaa

/- Contracts: spec.StripesOf. -/
set_option linter.unusedVariables false
set_option linter.unusedSimpArgs false
namespace Go.Proofs.Ytjppoejkfpeicaa
open Go.RowKit

/-- The first k numbers are colours. -/
def aK (xs : List Int) (k : Nat) : Bool := aC (xs.take k)
theorem aK_full (xs : List Int) : aK xs xs.length = aC xs := by unfold aK; rw [List.take_length]
theorem aK_step (xs : List Int) (k : Nat) (h : k < xs.length) : aK xs (k + 1) = (aK xs k && inR (nth xs k) 0 5) := by
  unfold aK aC
  rw [List.take_add_one, List.all_append, nth_get? xs k h]; simp
theorem aK_false (xs : List Int) (k : Nat) (h : aK xs k = false) : aC xs = false := by
  unfold aK aC at *
  rw [List.all_eq_false] at *
  obtain ⟨x, hx, h⟩ := h
  exact ⟨x, List.mem_of_mem_take hx, h⟩

set_option maxHeartbeats 2000000 in
theorem sStripesOf_any (xs : List Int) (up : Bool) (A : Option Addr) (c : Nat) (w : World) (hs : Sl .i64 w A xs) (hbig : xs.length ≤ 1048576) :
    Calls Try.prog 25 #[.slice A xs.length c, .bool up] w fun e w' => e = .returned (.tuple #[fl (okF (stripesOk xs up) (stripeL xs up)), .int .i64 (codeR (stripesOk xs up))]) ∧ Below w.heap.size w w' := by
  have hl : (okF (stripesOk xs up) (stripeL xs up)).length = 24 := okF_length (stripeL_length _ _)
  have hsb := fun i => stripe_bd xs up (k := i)
  have B0 : Blk ((w.alloc (.cells #[.int .u8 0, .int .u8 0, .int .u8 0, .int .u8 0, .int .u8 0, .int .u8 0, .int .u8 0, .int .u8 0, .int .u8 0, .int .u8 0, .int .u8 0, .int .u8 0, .int .u8 0, .int .u8 0, .int .u8 0, .int .u8 0, .int .u8 0, .int .u8 0, .int .u8 0, .int .u8 0, .int .u8 0, .int .u8 0, .int .u8 0, .int .u8 0] 38)).alloc (.cells #[.int .u8 0, .int .u8 0, .int .u8 0, .int .u8 0, .int .u8 0, .int .u8 0, .int .u8 0, .int .u8 0, .int .u8 0, .int .u8 0, .int .u8 0, .int .u8 0, .int .u8 0, .int .u8 0, .int .u8 0, .int .u8 0, .int .u8 0, .int .u8 0, .int .u8 0, .int .u8 0, .int .u8 0, .int .u8 0, .int .u8 0, .int .u8 0] 38)) w.heap.size (u8s zero24) 38 := (Blk.mk _ (u8s zero24) _ rfl).alloc _
  have B1 : Blk ((w.alloc (.cells #[.int .u8 0, .int .u8 0, .int .u8 0, .int .u8 0, .int .u8 0, .int .u8 0, .int .u8 0, .int .u8 0, .int .u8 0, .int .u8 0, .int .u8 0, .int .u8 0, .int .u8 0, .int .u8 0, .int .u8 0, .int .u8 0, .int .u8 0, .int .u8 0, .int .u8 0, .int .u8 0, .int .u8 0, .int .u8 0, .int .u8 0, .int .u8 0] 38)).alloc (.cells #[.int .u8 0, .int .u8 0, .int .u8 0, .int .u8 0, .int .u8 0, .int .u8 0, .int .u8 0, .int .u8 0, .int .u8 0, .int .u8 0, .int .u8 0, .int .u8 0, .int .u8 0, .int .u8 0, .int .u8 0, .int .u8 0, .int .u8 0, .int .u8 0, .int .u8 0, .int .u8 0, .int .u8 0, .int .u8 0, .int .u8 0, .int .u8 0] 38)) (w.heap.size + 1) (u8s zero24) 38 := Blk.mk _ (u8s zero24) _ (by simp)
  have b0 : Below w.heap.size w ((w.alloc (.cells #[.int .u8 0, .int .u8 0, .int .u8 0, .int .u8 0, .int .u8 0, .int .u8 0, .int .u8 0, .int .u8 0, .int .u8 0, .int .u8 0, .int .u8 0, .int .u8 0, .int .u8 0, .int .u8 0, .int .u8 0, .int .u8 0, .int .u8 0, .int .u8 0, .int .u8 0, .int .u8 0, .int .u8 0, .int .u8 0, .int .u8 0, .int .u8 0] 38)).alloc (.cells #[.int .u8 0, .int .u8 0, .int .u8 0, .int .u8 0, .int .u8 0, .int .u8 0, .int .u8 0, .int .u8 0, .int .u8 0, .int .u8 0, .int .u8 0, .int .u8 0, .int .u8 0, .int .u8 0, .int .u8 0, .int .u8 0, .int .u8 0, .int .u8 0, .int .u8 0, .int .u8 0, .int .u8 0, .int .u8 0, .int .u8 0, .int .u8 0] 38)) := bl_new (bl_new (Below.refl _ _) _) _
  have C0 := B0.farRow (g := w.heap.size + 1) (by omega) (u8s zero24).toArray
  have C1 := B1.setRow (u8s zero24)
  have c0 := bl_setRow b0 (g := w.heap.size + 1) (by omega) (u8s zero24).toArray
  cases up
  · cases hin : inR xs.length 1 4
    · have hk : stripesOk xs false = false := by unfold stripesOk; simp only [Bool.false_eq_true, if_false, if_true]; rw [hin]; rfl
      rw [hk]
      clear hl hk hsb
      generalize hn : xs.length = n at *
      go_enter Try.func25, Try.ntmps25
      go_wp2_with (first | (refine store_blk rfl 38 _ _ rfl _ rfl (ds := u8s zero24) rfl B1 info_fl (by rfl) (by rfl) (u8s_one _) ?_) | (go_at_call 66; refine (l00In_any _ _ _ _).mono ?_; rintro e w' ⟨rfl, rfl⟩))
      go_loopw [9, 10] (fun ok i wr => ok = .bool false ∧ i = .int .i64 0 ∧ wr = (((w.alloc (.cells #[.int .u8 0, .int .u8 0, .int .u8 0, .int .u8 0, .int .u8 0, .int .u8 0, .int .u8 0, .int .u8 0, .int .u8 0, .int .u8 0, .int .u8 0, .int .u8 0, .int .u8 0, .int .u8 0, .int .u8 0, .int .u8 0, .int .u8 0, .int .u8 0, .int .u8 0, .int .u8 0, .int .u8 0, .int .u8 0, .int .u8 0, .int .u8 0] 38)).alloc (.cells #[.int .u8 0, .int .u8 0, .int .u8 0, .int .u8 0, .int .u8 0, .int .u8 0, .int .u8 0, .int .u8 0, .int .u8 0, .int .u8 0, .int .u8 0, .int .u8 0, .int .u8 0, .int .u8 0, .int .u8 0, .int .u8 0, .int .u8 0, .int .u8 0, .int .u8 0, .int .u8 0, .int .u8 0, .int .u8 0, .int .u8 0, .int .u8 0] 38)).setRow (w.heap.size + 1) (u8s zero24).toArray)) (fun _ i _ => 0)
      case atStart => exact ⟨rfl, rfl, rfl⟩
      case round =>
        obtain ⟨rfl, rfl, rfl⟩ := hrel
        go_wp2_with (first | (refine load_blk rfl 38 _ rfl _ rfl C1 Try.underlying38 rfl info_fl (by rw [u8s_length]; exact rfl) ?_) | (refine store_blk rfl 38 _ _ rfl _ rfl (ds := u8s zero24) rfl C0 info_fl (by rfl) (by rfl) (u8s_one _) ?_))
        all_goals refine ret_blk_tmp rfl _ rfl (C0.setRow _) Try.underlying38 rfl info_fl (by rfl) rfl ⟨rfl, bl_setRow c0 (by omega) _⟩
    · have hb1 := (inR_iff _ _ _).1 hin
      have hk : stripesOk xs false = aC xs := by unfold stripesOk; simp only [Bool.false_eq_true, if_false, if_true]; rw [hin]; rfl
      rw [hk] at hl hsb ⊢
      have hA := aK_full xs
      obtain ⟨b, o, rfl, hr⟩ := hs.2 (by omega)
      have hr' := range_kept hr c0
      have HN := As.mk (rfl : xs.length = xs.length)
      generalize hn : xs.length = n at *
      have HN' := As.mk hn
      have n1 : (1 : Int) ≤ (n : Int) := hb1.1
      have n2 : (n : Int) ≤ 4 := hb1.2
      have hlt0 : n ≤ 4 := by omega
      clear hn
      go_enter Try.func25, Try.ntmps25
      go_wp2_with (first | (refine store_blk rfl 38 _ _ rfl _ rfl (ds := u8s zero24) rfl B1 info_fl (by rfl) (by rfl) (u8s_one _) ?_) | (go_at_call 66; refine (l00In_any _ _ _ _).mono ?_; rintro e w' ⟨rfl, rfl⟩))
      generalize (((w.alloc (.cells #[.int .u8 0, .int .u8 0, .int .u8 0, .int .u8 0, .int .u8 0, .int .u8 0, .int .u8 0, .int .u8 0, .int .u8 0, .int .u8 0, .int .u8 0, .int .u8 0, .int .u8 0, .int .u8 0, .int .u8 0, .int .u8 0, .int .u8 0, .int .u8 0, .int .u8 0, .int .u8 0, .int .u8 0, .int .u8 0, .int .u8 0, .int .u8 0] 38)).alloc (.cells #[.int .u8 0, .int .u8 0, .int .u8 0, .int .u8 0, .int .u8 0, .int .u8 0, .int .u8 0, .int .u8 0, .int .u8 0, .int .u8 0, .int .u8 0, .int .u8 0, .int .u8 0, .int .u8 0, .int .u8 0, .int .u8 0, .int .u8 0, .int .u8 0, .int .u8 0, .int .u8 0, .int .u8 0, .int .u8 0, .int .u8 0, .int .u8 0] 38)).setRow (w.heap.size + 1) (u8s zero24).toArray) = W at *
      clear B0 B1 b0
      go_loopw [9, 10] (fun ok i wr => ∃ k : Nat, k ≤ n ∧ i = .int .i64 k ∧ ok = .bool (aK xs k) ∧ wr = W) (fun _ i _ => n - (intOf i).toNat)
      case atStart => exact ⟨0, by omega, rfl, rfl, rfl⟩
      case round =>
        obtain ⟨k, hk, rfl, rfl, rfl⟩ := hrel
        by_cases hlt : k < n
        · have hlt' : (k : Int) < (n : Int) := by omega
          have ck : wr.cell? ⟨b, o + k, none⟩ = some (.int .i64 (nth xs k)) := hr' k _ (i64s_get xs k (by rw [HN'.out]; omega))
          have hst := As.mk (aK_step xs k (by rw [HN'.out]; omega))
          cases ha : aK xs k
          · have hf : aC xs = false := aK_false xs k ha
            go_wp2_with (first | (refine load_blk rfl 38 _ rfl _ rfl C1 Try.underlying38 rfl info_fl (by rw [u8s_length]; exact rfl) ?_) | (refine store_blk rfl 38 _ _ rfl _ rfl (ds := u8s zero24) rfl C0 info_fl (by rfl) (by rfl) (u8s_one _) ?_))
            refine ret_blk_tmp rfl _ rfl (C0.setRow _) Try.underlying38 rfl info_fl (by rfl) rfl ⟨by rw [hf]; rfl, bl_setRow c0 (by omega) _⟩
          · go_wp2_with (go_at_call 67; refine (l01Colour_any _ _).mono ?_; rintro e w' ⟨rfl, rfl⟩)
            go_roundw
            case rel => exact ⟨k + 1, by omega, by go_num, by rw [hst.out, ha, Bool.true_and], by trivial⟩
            case measure => simp [intOf]; omega
        · obtain rfl : k = n := by omega
          rw [hA]
          cases ha : aC xs
          · go_wp2_with (first | (refine load_blk rfl 38 _ rfl _ rfl C1 Try.underlying38 rfl info_fl (by rw [u8s_length]; exact rfl) ?_) | (refine store_blk rfl 38 _ _ rfl _ rfl (ds := u8s zero24) rfl C0 info_fl (by rfl) (by rfl) (u8s_one _) ?_))
            refine ret_blk_tmp rfl _ rfl (C0.setRow _) Try.underlying38 rfl info_fl (by rfl) rfl ⟨by rw [ha]; rfl, bl_setRow c0 (by omega) _⟩
          · have HZ := As.mk (part_zero (stripeF xs false) 24)
            clear hk
            go_wp2
            go_loopw [11] (fun i wr => ∃ k : Nat, k ≤ 24 ∧ i = .int .i64 k ∧ Blk wr w.heap.size (u8s zero24) 38 ∧ Blk wr (w.heap.size + 1) (u8s (part (stripeF xs false) 24 k)) 38 ∧ Below w.heap.size w wr) (fun i _ => 24 - (intOf i).toNat)
            case atStart => exact ⟨0, by omega, rfl, C0, by rw [HZ.out]; exact C1, c0⟩
            case round =>
              obtain ⟨j, hj, rfl, g1, g2, hb⟩ := hrel
              clear C0 C1 c0 HZ
              by_cases hlt : j < 24
              · have hlt' : (j : Int) < 24 := by omega
                have hv := hsb j ha hlt
                have n3 := hv.1; have n4 := hv.2
                obtain ⟨v2, c2⟩ := g2.some j (by rw [u8s_length, part_length]; exact hlt)
                have f2 := g2.frozen j
                have e0 : stripeF xs false j = nth xs ((j / 6) * k / 4) := by unfold stripeF; rw [HN'.out]; rfl
                have e1 : (j : Int) / 6 = (((j / 6) : Nat) : Int) := by omega
                have hx4 : (j / 6) < 4 := by omega
                have hps := As.mk (part_set (stripeF xs false) 24 j)
                rw [e0] at hps n3 n4
                have hm1 : (((j / 6) : Nat) : Int) * (k : Int) = (((j / 6) * k : Nat) : Int) := by rw [Int.natCast_mul]
                have hm2 : (j / 6) * k ≤ 3 * 4 := Nat.mul_le_mul (by omega) hlt0
                have hi := stripe_at ((j / 6)) k 4 hx4 (by omega) (by omega)
                have ci := hr ((j / 6) * k / 4) _ (i64s_get xs _ (by rw [HN'.out]; exact hi))
                have ci' := (hb.cell (World.block_lt_of_cell? w _ ci)).trans ci
                clear ci hv e0
                generalize (j / 6) = q at *
                generalize q * k = y at *
                have hy : (y : Int) / 4 = ((y / 4 : Nat) : Int) := by omega
                have hy2 : (y : Int) ≤ 12 := by omega
                generalize y / 4 = z at *
                have hz : (z : Int) < (k : Int) := by omega
                go_wp2
                go_roundw
                case rel => exact ⟨j + 1, by omega, by go_num, g1.far (by simp) _, by have := g2.set j (.int .u8 (nth xs z)); rw [u8s_set, hps.out] at this; exact this, hb.setCell (by simp) _⟩
                case measure => simp [intOf]; omega
              · obtain rfl : j = 24 := by omega
                rw [part_full] at g2
                change Blk wr (w.heap.size + 1) (u8s (stripeL xs false)) _ at g2
                have hl' := stripeL_length xs false
                go_wp2_with (first | (refine load_blk rfl 38 _ rfl _ rfl g2 Try.underlying38 rfl info_fl (by rw [u8s_length]; exact hl') ?_) | (refine store_blk rfl 38 _ _ rfl _ rfl rfl g1 info_fl (by rw [u8s_length]; exact hl') (by rw [u8s_length]; exact zero24_length) (u8s_one _) ?_))
                refine ret_blk_tmp rfl _ rfl (g1.setRow _) Try.underlying38 rfl info_fl (by rw [u8s_length]; exact hl') rfl ⟨by rw [ha]; rfl, bl_setRow hb (by omega) _⟩
  · cases hin : inR xs.length 1 6
    · have hk : stripesOk xs true = false := by unfold stripesOk; simp only [Bool.false_eq_true, if_false, if_true]; rw [hin]; rfl
      rw [hk]
      clear hl hk hsb
      generalize hn : xs.length = n at *
      go_enter Try.func25, Try.ntmps25
      go_wp2_with (first | (refine store_blk rfl 38 _ _ rfl _ rfl (ds := u8s zero24) rfl B1 info_fl (by rfl) (by rfl) (u8s_one _) ?_) | (go_at_call 66; refine (l00In_any _ _ _ _).mono ?_; rintro e w' ⟨rfl, rfl⟩))
      go_loopw [9, 10] (fun ok i wr => ok = .bool false ∧ i = .int .i64 0 ∧ wr = (((w.alloc (.cells #[.int .u8 0, .int .u8 0, .int .u8 0, .int .u8 0, .int .u8 0, .int .u8 0, .int .u8 0, .int .u8 0, .int .u8 0, .int .u8 0, .int .u8 0, .int .u8 0, .int .u8 0, .int .u8 0, .int .u8 0, .int .u8 0, .int .u8 0, .int .u8 0, .int .u8 0, .int .u8 0, .int .u8 0, .int .u8 0, .int .u8 0, .int .u8 0] 38)).alloc (.cells #[.int .u8 0, .int .u8 0, .int .u8 0, .int .u8 0, .int .u8 0, .int .u8 0, .int .u8 0, .int .u8 0, .int .u8 0, .int .u8 0, .int .u8 0, .int .u8 0, .int .u8 0, .int .u8 0, .int .u8 0, .int .u8 0, .int .u8 0, .int .u8 0, .int .u8 0, .int .u8 0, .int .u8 0, .int .u8 0, .int .u8 0, .int .u8 0] 38)).setRow (w.heap.size + 1) (u8s zero24).toArray)) (fun _ i _ => 0)
      case atStart => exact ⟨rfl, rfl, rfl⟩
      case round =>
        obtain ⟨rfl, rfl, rfl⟩ := hrel
        go_wp2_with (first | (refine load_blk rfl 38 _ rfl _ rfl C1 Try.underlying38 rfl info_fl (by rw [u8s_length]; exact rfl) ?_) | (refine store_blk rfl 38 _ _ rfl _ rfl (ds := u8s zero24) rfl C0 info_fl (by rfl) (by rfl) (u8s_one _) ?_))
        all_goals refine ret_blk_tmp rfl _ rfl (C0.setRow _) Try.underlying38 rfl info_fl (by rfl) rfl ⟨rfl, bl_setRow c0 (by omega) _⟩
    · have hb1 := (inR_iff _ _ _).1 hin
      have hk : stripesOk xs true = aC xs := by unfold stripesOk; simp only [Bool.false_eq_true, if_false, if_true]; rw [hin]; rfl
      rw [hk] at hl hsb ⊢
      have hA := aK_full xs
      obtain ⟨b, o, rfl, hr⟩ := hs.2 (by omega)
      have hr' := range_kept hr c0
      have HN := As.mk (rfl : xs.length = xs.length)
      generalize hn : xs.length = n at *
      have HN' := As.mk hn
      have n1 : (1 : Int) ≤ (n : Int) := hb1.1
      have n2 : (n : Int) ≤ 6 := hb1.2
      have hlt0 : n ≤ 6 := by omega
      clear hn
      go_enter Try.func25, Try.ntmps25
      go_wp2_with (first | (refine store_blk rfl 38 _ _ rfl _ rfl (ds := u8s zero24) rfl B1 info_fl (by rfl) (by rfl) (u8s_one _) ?_) | (go_at_call 66; refine (l00In_any _ _ _ _).mono ?_; rintro e w' ⟨rfl, rfl⟩))
      generalize (((w.alloc (.cells #[.int .u8 0, .int .u8 0, .int .u8 0, .int .u8 0, .int .u8 0, .int .u8 0, .int .u8 0, .int .u8 0, .int .u8 0, .int .u8 0, .int .u8 0, .int .u8 0, .int .u8 0, .int .u8 0, .int .u8 0, .int .u8 0, .int .u8 0, .int .u8 0, .int .u8 0, .int .u8 0, .int .u8 0, .int .u8 0, .int .u8 0, .int .u8 0] 38)).alloc (.cells #[.int .u8 0, .int .u8 0, .int .u8 0, .int .u8 0, .int .u8 0, .int .u8 0, .int .u8 0, .int .u8 0, .int .u8 0, .int .u8 0, .int .u8 0, .int .u8 0, .int .u8 0, .int .u8 0, .int .u8 0, .int .u8 0, .int .u8 0, .int .u8 0, .int .u8 0, .int .u8 0, .int .u8 0, .int .u8 0, .int .u8 0, .int .u8 0] 38)).setRow (w.heap.size + 1) (u8s zero24).toArray) = W at *
      clear B0 B1 b0
      go_loopw [9, 10] (fun ok i wr => ∃ k : Nat, k ≤ n ∧ i = .int .i64 k ∧ ok = .bool (aK xs k) ∧ wr = W) (fun _ i _ => n - (intOf i).toNat)
      case atStart => exact ⟨0, by omega, rfl, rfl, rfl⟩
      case round =>
        obtain ⟨k, hk, rfl, rfl, rfl⟩ := hrel
        by_cases hlt : k < n
        · have hlt' : (k : Int) < (n : Int) := by omega
          have ck : wr.cell? ⟨b, o + k, none⟩ = some (.int .i64 (nth xs k)) := hr' k _ (i64s_get xs k (by rw [HN'.out]; omega))
          have hst := As.mk (aK_step xs k (by rw [HN'.out]; omega))
          cases ha : aK xs k
          · have hf : aC xs = false := aK_false xs k ha
            go_wp2_with (first | (refine load_blk rfl 38 _ rfl _ rfl C1 Try.underlying38 rfl info_fl (by rw [u8s_length]; exact rfl) ?_) | (refine store_blk rfl 38 _ _ rfl _ rfl (ds := u8s zero24) rfl C0 info_fl (by rfl) (by rfl) (u8s_one _) ?_))
            refine ret_blk_tmp rfl _ rfl (C0.setRow _) Try.underlying38 rfl info_fl (by rfl) rfl ⟨by rw [hf]; rfl, bl_setRow c0 (by omega) _⟩
          · go_wp2_with (go_at_call 67; refine (l01Colour_any _ _).mono ?_; rintro e w' ⟨rfl, rfl⟩)
            go_roundw
            case rel => exact ⟨k + 1, by omega, by go_num, by rw [hst.out, ha, Bool.true_and], by trivial⟩
            case measure => simp [intOf]; omega
        · obtain rfl : k = n := by omega
          rw [hA]
          cases ha : aC xs
          · go_wp2_with (first | (refine load_blk rfl 38 _ rfl _ rfl C1 Try.underlying38 rfl info_fl (by rw [u8s_length]; exact rfl) ?_) | (refine store_blk rfl 38 _ _ rfl _ rfl (ds := u8s zero24) rfl C0 info_fl (by rfl) (by rfl) (u8s_one _) ?_))
            refine ret_blk_tmp rfl _ rfl (C0.setRow _) Try.underlying38 rfl info_fl (by rfl) rfl ⟨by rw [ha]; rfl, bl_setRow c0 (by omega) _⟩
          · have HZ := As.mk (part_zero (stripeF xs true) 24)
            clear hk
            go_wp2
            go_loopw [11] (fun i wr => ∃ k : Nat, k ≤ 24 ∧ i = .int .i64 k ∧ Blk wr w.heap.size (u8s zero24) 38 ∧ Blk wr (w.heap.size + 1) (u8s (part (stripeF xs true) 24 k)) 38 ∧ Below w.heap.size w wr) (fun i _ => 24 - (intOf i).toNat)
            case atStart => exact ⟨0, by omega, rfl, C0, by rw [HZ.out]; exact C1, c0⟩
            case round =>
              obtain ⟨j, hj, rfl, g1, g2, hb⟩ := hrel
              clear C0 C1 c0 HZ
              by_cases hlt : j < 24
              · have hlt' : (j : Int) < 24 := by omega
                have hv := hsb j ha hlt
                have n3 := hv.1; have n4 := hv.2
                obtain ⟨v2, c2⟩ := g2.some j (by rw [u8s_length, part_length]; exact hlt)
                have f2 := g2.frozen j
                have e0 : stripeF xs true j = nth xs ((j % 6) * k / 6) := by unfold stripeF; rw [HN'.out]; rfl
                have e1 : (j : Int) % 6 = (((j % 6) : Nat) : Int) := by omega
                have hx4 : (j % 6) < 6 := by omega
                have hps := As.mk (part_set (stripeF xs true) 24 j)
                rw [e0] at hps n3 n4
                have hm1 : (((j % 6) : Nat) : Int) * (k : Int) = (((j % 6) * k : Nat) : Int) := by rw [Int.natCast_mul]
                have hm2 : (j % 6) * k ≤ 5 * 6 := Nat.mul_le_mul (by omega) hlt0
                have hi := stripe_at ((j % 6)) k 6 hx4 (by omega) (by omega)
                have ci := hr ((j % 6) * k / 6) _ (i64s_get xs _ (by rw [HN'.out]; exact hi))
                have ci' := (hb.cell (World.block_lt_of_cell? w _ ci)).trans ci
                clear ci hv e0
                generalize (j % 6) = q at *
                generalize q * k = y at *
                have hy : (y : Int) / 6 = ((y / 6 : Nat) : Int) := by omega
                have hy2 : (y : Int) ≤ 30 := by omega
                generalize y / 6 = z at *
                have hz : (z : Int) < (k : Int) := by omega
                go_wp2
                go_roundw
                case rel => exact ⟨j + 1, by omega, by go_num, g1.far (by simp) _, by have := g2.set j (.int .u8 (nth xs z)); rw [u8s_set, hps.out] at this; exact this, hb.setCell (by simp) _⟩
                case measure => simp [intOf]; omega
              · obtain rfl : j = 24 := by omega
                rw [part_full] at g2
                change Blk wr (w.heap.size + 1) (u8s (stripeL xs true)) _ at g2
                have hl' := stripeL_length xs true
                go_wp2_with (first | (refine load_blk rfl 38 _ rfl _ rfl g2 Try.underlying38 rfl info_fl (by rw [u8s_length]; exact hl') ?_) | (refine store_blk rfl 38 _ _ rfl _ rfl rfl g1 info_fl (by rw [u8s_length]; exact hl') (by rw [u8s_length]; exact zero24_length) (u8s_one _) ?_))
                refine ret_blk_tmp rfl _ rfl (g1.setRow _) Try.underlying38 rfl info_fl (by rw [u8s_length]; exact hl') rfl ⟨by rw [ha]; rfl, bl_setRow hb (by omega) _⟩
end Go.Proofs.Ytjppoejkfpeicaa
