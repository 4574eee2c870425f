/- Contracts: spec.l01Far, BlurFlag and BlurDistance, both sides; rows of six bytes compared. -/
import Derived.Test.YtjppoejkfpeicaaG15
import Derived.Test.YtjppoejkfpeicaaF5
set_option linter.unusedVariables false
set_option linter.unusedSimpArgs false
namespace Go.Proofs.Ytjppoejkfpeicaa
open Go.RowKit

set_option maxHeartbeats 1000000 in
theorem l01Far_any (xs ys : List Int) (hx : xs.length = 24) (hy : ys.length = 24) (rx : Bytes xs) (ry : Bytes ys) (vx : vf xs = true) (vy : vf ys = true) (b o b' o' : Nat) (w : World) (hr : w.rangeAt b o (u8s xs)) (hr' : w.rangeAt b' o' (u8s ys)) :
    Calls Try.prog 80 #[.pointer (some ⟨b, o, none⟩), .pointer (some ⟨b', o', none⟩)] w fun e w' => e = .returned (.int .i64 (diffs (blurL xs) (blurL ys) 6)) ∧ Below w.heap.size w w' := by
  have hlx := blurL_length xs
  have hly := blurL_length ys
  have kx := fun W h => l01Blur_any xs hx rx vx b o W h
  have ky := fun W h => l01Blur_any ys hy ry vy b' o' W h
  generalize blurL xs = us at *
  generalize blurL ys = vs at *
  go_enter Try.func80, Try.ntmps80
  go_wp2_with (fail)
  refine (kx _ hr).mono ?_; rintro e w1 ⟨rfl, hb1⟩
  have C1 : Blk (w1.alloc (.cells #[.int .u8 0, .int .u8 0, .int .u8 0, .int .u8 0, .int .u8 0, .int .u8 0] 94)) w1.heap.size (u8s zero6) 94 := Blk.mk _ (u8s zero6) _ rfl
  have C2 := C1.setRow (u8s us)
  have b1 := bl_setRow (bl_new hb1 (.cells #[.int .u8 0, .int .u8 0, .int .u8 0, .int .u8 0, .int .u8 0, .int .u8 0] 94)) hb1.size (u8s us).toArray
  have hr2 := range_kept hr' b1
  go_wp2_with (refine store_blk rfl 94 _ _ rfl _ rfl (ds := u8s us) rfl C1 info_b6 (by rw [u8s_length]; exact hlx) (by rw [u8s_length]; exact rfl) (u8s_one _) ?_)
  refine (ky _ hr2).mono ?_; rintro e w2 ⟨rfl, hb2⟩
  have b2 := bl_call b1 hb2
  have C3 := C2.kept hb2
  have D1 : Blk (w2.alloc (.cells #[.int .u8 0, .int .u8 0, .int .u8 0, .int .u8 0, .int .u8 0, .int .u8 0] 94)) w2.heap.size (u8s zero6) 94 := Blk.mk _ (u8s zero6) _ rfl
  have D2 := D1.setRow (u8s vs)
  have hne := Nat.ne_of_lt C3.lt
  have C4 := (C3.alloc (.cells #[.int .u8 0, .int .u8 0, .int .u8 0, .int .u8 0, .int .u8 0, .int .u8 0] 94)).farRow hne (u8s vs).toArray
  have b3 := bl_setRow (bl_new b2 (.cells #[.int .u8 0, .int .u8 0, .int .u8 0, .int .u8 0, .int .u8 0, .int .u8 0] 94)) b2.size (u8s vs).toArray
  clear hr hr' hr2 C1 C2 C3 b1 b2 hb1 hb2
  go_wp2_with (refine store_blk rfl 94 _ _ rfl _ rfl (ds := u8s vs) rfl D1 info_b6 (by rw [u8s_length]; exact hly) (by rw [u8s_length]; exact rfl) (u8s_one _) ?_)
  generalize (w2.alloc (.cells #[.int .u8 0, .int .u8 0, .int .u8 0, .int .u8 0, .int .u8 0, .int .u8 0] 94)).setRow w2.heap.size (u8s vs).toArray = W at *
  clear D1
  generalize w1.heap.size = B1 at *
  generalize w2.heap.size = B2 at *
  go_loopw [7, 8] (fun n i wr => ∃ k q : Nat, k ≤ 6 ∧ i = .int .i64 k ∧ n = .int .i64 (diffs us vs k) ∧ wr = W.drewN q) (fun _ i _ => 6 - (intOf i).toNat)
  case atStart => exact ⟨0, 0, by omega, rfl, rfl, rfl⟩
  case round =>
    obtain ⟨k, q, hk, rfl, rfl, rfl⟩ := hrel
    have hbd := diffs_bd us vs k
    by_cases hlt : k < 6
    · have hlt' : (k : Int) < 6 := by omega
      have c0 : W.cell? ⟨B1, k, none⟩ = some (.int .u8 (nth us k)) := by rw [C4.at, u8s_get us k (by omega)]
      have c1 : W.cell? ⟨B2, k, none⟩ = some (.int .u8 (nth vs k)) := by rw [D2.at, u8s_get vs k (by omega)]
      go_wp2
      go_quiet (fail)
      go_wp2
      all_goals
        go_roundw
        case rel => exact ⟨k + 1, _, by omega, by go_num, by first | rw [diffs_t (by assumption)] | rw [diffs_f (by assumption)], rfl⟩
        case measure => simp [intOf]; omega
    · obtain rfl : k = 6 := by omega
      go_wp2
      go_ret
      exact ⟨rfl, bl_drewN b3 _⟩

/-- What BlurDistance answers. -/
def farN (xs ys : List Int) : Int := if vf xs && vf ys then diffs (blurL xs) (blurL ys) 6 else 0
set_option maxHeartbeats 800000 in
theorem BlurDistance_any (xs ys : List Int) (hx : xs.length = 24) (hy : ys.length = 24) (rx : Bytes xs) (ry : Bytes ys) (w : World) :
    Calls Try.prog 41 #[fl xs, fl ys] w fun e w' => e = .returned (.tuple #[.int .i64 (farN xs ys), .int .i64 (codeV (vf xs && vf ys))]) ∧ Below w.heap.size w w' := by
  unfold fl
  have B0 : Blk ((w.alloc (.cells (u8s xs).toArray 38)).alloc (.cells (u8s ys).toArray 38)) w.heap.size (u8s xs) 38 := (Blk.new _ _ _).alloc _
  have B1 : Blk ((w.alloc (.cells (u8s xs).toArray 38)).alloc (.cells (u8s ys).toArray 38)) (w.heap.size + 1) (u8s ys) 38 := Blk.mk _ _ _ (by simp)
  have b0 := bl_new (bl_new (Below.refl _ w) (.cells (u8s xs).toArray 38)) (.cells (u8s ys).toArray 38)
  cases h1 : vf xs
  · have hN := As.mk (show farN xs ys = if vf xs && vf ys then diffs (blurL xs) (blurL ys) 6 else 0 from rfl)
    go_enter Try.func41, Try.ntmps41
    go_wp2_with (refine load_blk rfl 38 _ rfl _ rfl B0 Try.underlying38 rfl info_fl (by rw [u8s_length]; exact hx) ?_)
    refine (ValidFlag_any xs hx _).mono ?_; rintro e w1 ⟨rfl, hb1⟩
    go_wp2_with (fail)
    go_ret2
    exact ⟨ret_2 (by rw [hN.out, h1]; rfl) rfl, bl_call b0 hb1⟩
  · cases h2 : vf ys
    · have hN := As.mk (show farN xs ys = if vf xs && vf ys then diffs (blurL xs) (blurL ys) 6 else 0 from rfl)
      go_enter Try.func41, Try.ntmps41
      go_wp2_with (refine load_blk rfl 38 _ rfl _ rfl B0 Try.underlying38 rfl info_fl (by rw [u8s_length]; exact hx) ?_)
      refine (ValidFlag_any xs hx _).mono ?_; rintro e w1 ⟨rfl, hb1⟩
      have B1' := B1.kept hb1
      go_wp2_with (refine load_blk rfl 38 _ rfl _ rfl B1' Try.underlying38 rfl info_fl (by rw [u8s_length]; exact hy) ?_)
      refine (ValidFlag_any ys hy _).mono ?_; rintro e w2 ⟨rfl, hb2⟩
      go_wp2_with (fail)
      go_ret2
      exact ⟨ret_2 (by rw [hN.out, h1, h2]; rfl) rfl, bl_call (bl_call b0 hb1) hb2⟩
    · have hN := As.mk (show farN xs ys = if vf xs && vf ys then diffs (blurL xs) (blurL ys) 6 else 0 from rfl)
      go_enter Try.func41, Try.ntmps41
      go_wp2_with (refine load_blk rfl 38 _ rfl _ rfl B0 Try.underlying38 rfl info_fl (by rw [u8s_length]; exact hx) ?_)
      refine (ValidFlag_any xs hx _).mono ?_; rintro e w1 ⟨rfl, hb1⟩
      have B1' := B1.kept hb1
      go_wp2_with (refine load_blk rfl 38 _ rfl _ rfl B1' Try.underlying38 rfl info_fl (by rw [u8s_length]; exact hy) ?_)
      refine (ValidFlag_any ys hy _).mono ?_; rintro e w2 ⟨rfl, hb2⟩
      have R0 := (B0.kept hb1).kept hb2
      have R1 := B1'.kept hb2
      go_wp2_with (first | (refine load_blk rfl 38 _ rfl _ rfl R0 Try.underlying38 rfl info_fl (by rw [u8s_length]; exact hx) ?_) | (refine load_blk rfl 38 _ rfl _ rfl R1 Try.underlying38 rfl info_fl (by rw [u8s_length]; exact hy) ?_))
      refine (afar_any xs ys hx hy rx ry h1 h2 _).mono ?_; rintro e w3 ⟨rfl, hb3⟩
      go_wp2_with (fail)
      go_ret2
      exact ⟨ret_2 (by rw [hN.out, h1, h2]; rfl) rfl, bl_call (bl_call (bl_call b0 hb1) hb2) hb3⟩

end Go.Proofs.Ytjppoejkfpeicaa
