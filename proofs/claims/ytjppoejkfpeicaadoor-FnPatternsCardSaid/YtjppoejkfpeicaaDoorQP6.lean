/- Contracts and plain facts, several texts in one. -/
import Derived.Test.YtjppoejkfpeicaaDoorQP5
import Derived.Test.YtjppoejkfpeicaaDoorQP1
import Derived.Test.YtjppoejkfpeicaaDoorQP3
import Derived.Test.YtjppoejkfpeicaaDoorQP2
import Derived.Laws.StructEq
/- Contracts: spec.l01Far, BlurFlag and BlurDistance, both sides; rows of six bytes compared. -/
set_option linter.unusedVariables false
set_option linter.unusedSimpArgs false
namespace Go.Proofs.YtjppoejkfpeicaaDoor
open Go.RowKit

set_option maxHeartbeats 1000000 in
theorem l01Far_any (xs ys : List Int) (hx : xs.length = 24) (hy : ys.length = 24) (rx : Bytes xs) (ry : Bytes ys) (vx : vf xs = true) (vy : vf ys = true) (b o b' o' : Nat) (w : World) (hr : w.rangeAt b o (u8s xs)) (hr' : w.rangeAt b' o' (u8s ys)) :
    Calls Tryd.prog 46 #[.pointer (some ⟨b, o, none⟩), .pointer (some ⟨b', o', none⟩)] w fun e w' => e = .returned (.int .i64 (diffs (blurL xs) (blurL ys) 6)) ∧ Below w.heap.size w w' := by
  have hlx := blurL_length xs
  have hly := blurL_length ys
  have kx := fun W h => l01Blur_any xs hx rx vx b o W h
  have ky := fun W h => l01Blur_any ys hy ry vy b' o' W h
  generalize blurL xs = us at *
  generalize blurL ys = vs at *
  go_enter Tryd.func46, Tryd.ntmps46
  go_wp2_with (fail)
  refine (kx _ hr).mono ?_; rintro e w1 ⟨rfl, hb1⟩
  have C1 : Blk (w1.alloc (.cells #[.int .u8 0, .int .u8 0, .int .u8 0, .int .u8 0, .int .u8 0, .int .u8 0] 39)) w1.heap.size (u8s zero6) 39 := Blk.mk _ (u8s zero6) _ rfl
  have C2 := C1.setRow (u8s us)
  have b1 := bl_setRow (bl_new hb1 (.cells #[.int .u8 0, .int .u8 0, .int .u8 0, .int .u8 0, .int .u8 0, .int .u8 0] 39)) hb1.size (u8s us).toArray
  have hr2 := range_kept hr' b1
  go_wp2_with (refine store_blk rfl 39 _ _ rfl _ rfl (ds := u8s us) rfl C1 info_b6 (by rw [u8s_length]; exact hlx) (by rw [u8s_length]; exact rfl) (u8s_one _) ?_)
  refine (ky _ hr2).mono ?_; rintro e w2 ⟨rfl, hb2⟩
  have b2 := bl_call b1 hb2
  have C3 := C2.kept hb2
  have D1 : Blk (w2.alloc (.cells #[.int .u8 0, .int .u8 0, .int .u8 0, .int .u8 0, .int .u8 0, .int .u8 0] 39)) w2.heap.size (u8s zero6) 39 := Blk.mk _ (u8s zero6) _ rfl
  have D2 := D1.setRow (u8s vs)
  have hne := Nat.ne_of_lt C3.lt
  have C4 := (C3.alloc (.cells #[.int .u8 0, .int .u8 0, .int .u8 0, .int .u8 0, .int .u8 0, .int .u8 0] 39)).farRow hne (u8s vs).toArray
  have b3 := bl_setRow (bl_new b2 (.cells #[.int .u8 0, .int .u8 0, .int .u8 0, .int .u8 0, .int .u8 0, .int .u8 0] 39)) b2.size (u8s vs).toArray
  clear hr hr' hr2 C1 C2 C3 b1 b2 hb1 hb2
  go_wp2_with (refine store_blk rfl 39 _ _ rfl _ rfl (ds := u8s vs) rfl D1 info_b6 (by rw [u8s_length]; exact hly) (by rw [u8s_length]; exact rfl) (u8s_one _) ?_)
  generalize (w2.alloc (.cells #[.int .u8 0, .int .u8 0, .int .u8 0, .int .u8 0, .int .u8 0, .int .u8 0] 39)).setRow w2.heap.size (u8s vs).toArray = W at *
  clear D1
  generalize w1.heap.size = B1 at *
  generalize w2.heap.size = B2 at *
  go_loopw [7, 8] (fun n i wr => ∃ k q : Nat, k ≤ 6 ∧ i = .int .i64 k ∧ n = .int .i64 (diffs us vs k) ∧ wr = W.drewN q) (fun _ i _ => 6 - (intOf i).toNat)
  case atStart => exact ⟨0, 0, by omega, rfl, rfl, rfl⟩
  case round =>
    obtain ⟨k, q, hk, rfl, rfl, rfl⟩ := hrel
    have hbd := diffs_bd us vs k
    by_cases hlt : k < 6
    · have hlt' : (k : Int) < 6 := by omega
      have c0 : W.cell? ⟨B1, k, none⟩ = some (.int .u8 (nth us k)) := by rw [C4.at, u8s_get us k (by omega)]
      have c1 : W.cell? ⟨B2, k, none⟩ = some (.int .u8 (nth vs k)) := by rw [D2.at, u8s_get vs k (by omega)]
      go_wp2
      go_quiet (fail)
      go_wp2
      all_goals
        go_roundw
        case rel => exact ⟨k + 1, _, by omega, by go_num, by first | rw [diffs_t (by assumption)] | rw [diffs_f (by assumption)], rfl⟩
        case measure => simp [intOf]; omega
    · obtain rfl : k = 6 := by omega
      go_wp2
      go_ret
      exact ⟨rfl, bl_drewN b3 _⟩

set_option maxHeartbeats 800000 in
theorem sBlurFlag_any (xs : List Int) (hx : xs.length = 24) (rx : Bytes xs) (w : World) :
    Calls Tryd.prog 20 #[fl xs] w fun e w' => e = .returned (.tuple #[.agg (u8s (ok6 (vf xs) (blurL xs))).toArray, .int .i64 (codeV (vf xs))]) ∧ Below w.heap.size w w' := by
  unfold fl
  have B0 : Blk ((w.alloc (.cells (u8s xs).toArray 23)).alloc (.cells #[.int .u8 0, .int .u8 0, .int .u8 0, .int .u8 0, .int .u8 0, .int .u8 0] 39)) w.heap.size (u8s xs) 23 := (Blk.new _ _ _).alloc _
  have B1 : Blk ((w.alloc (.cells (u8s xs).toArray 23)).alloc (.cells #[.int .u8 0, .int .u8 0, .int .u8 0, .int .u8 0, .int .u8 0, .int .u8 0] 39)) (w.heap.size + 1) (u8s zero6) 39 := Blk.mk _ (u8s zero6) _ (by simp)
  have b0 : Below w.heap.size w ((w.alloc (.cells (u8s xs).toArray 23)).alloc (.cells #[.int .u8 0, .int .u8 0, .int .u8 0, .int .u8 0, .int .u8 0, .int .u8 0] 39)) := bl_new (bl_new (Below.refl _ _) _) _
  have hl := blurL_length xs
  cases h1 : vf xs
  · go_enter Tryd.func20, Tryd.ntmps20
    go_wp2_with (first | (go_at_call 35; refine (l01Ok_any xs hx _ 0 _ B0.range).mono ?_; rintro e w' ⟨rfl, rfl⟩) | (refine store_blk rfl 39 _ _ rfl _ rfl (ds := u8s zero6) rfl B1 info_b6 (by rw [u8s_length]; exact rfl) (by rw [u8s_length]; exact rfl) (u8s_one _) ?_))
    refine ret_blk_tmp rfl _ rfl (B1.setRow _) Tryd.underlying39 rfl info_b6 (by rfl) rfl ⟨rfl, bl_setRow b0 (by omega) _⟩
  · go_enter Tryd.func20, Tryd.ntmps20
    go_wp2_with (go_at_call 35; refine (l01Ok_any xs hx _ 0 _ B0.range).mono ?_; rintro e w' ⟨rfl, rfl⟩)
    refine (l01Blur_any xs hx rx h1 _ 0 _ B0.range).mono ?_; rintro e w1 ⟨rfl, hb1⟩
    have h2 := B1.kept hb1
    go_wp2_with (refine store_blk rfl 39 _ _ rfl _ rfl (ds := u8s (blurL xs)) rfl h2 info_b6 (by rw [u8s_length]; exact hl) (by rw [u8s_length]; exact rfl) (u8s_one _) ?_)
    refine ret_blk_tmp rfl _ rfl (h2.setRow _) Tryd.underlying39 rfl info_b6 (by rw [u8s_length]; exact hl) rfl ⟨rfl, bl_setRow (bl_call b0 hb1) (by omega) _⟩

set_option maxHeartbeats 800000 in
theorem BlurFlag_any (xs : List Int) (hx : xs.length = 24) (rx : Bytes xs) (w : World) :
    Calls Tryd.prog 19 #[fl xs] w fun e w' => e = .returned (.tuple #[.agg (u8s (ok6 (vf xs) (blurL xs))).toArray, .int .i64 (codeV (vf xs))]) ∧ Below w.heap.size w w' := by
  unfold fl
  have B0 : Blk ((w.alloc (.cells (u8s xs).toArray 23)).alloc (.cells #[.int .u8 0, .int .u8 0, .int .u8 0, .int .u8 0, .int .u8 0, .int .u8 0] 39)) w.heap.size (u8s xs) 23 := (Blk.new _ _ _).alloc _
  have B1 : Blk ((w.alloc (.cells (u8s xs).toArray 23)).alloc (.cells #[.int .u8 0, .int .u8 0, .int .u8 0, .int .u8 0, .int .u8 0, .int .u8 0] 39)) (w.heap.size + 1) (u8s zero6) 39 := Blk.mk _ (u8s zero6) _ (by simp)
  have b0 : Below w.heap.size w ((w.alloc (.cells (u8s xs).toArray 23)).alloc (.cells #[.int .u8 0, .int .u8 0, .int .u8 0, .int .u8 0, .int .u8 0, .int .u8 0] 39)) := bl_new (bl_new (Below.refl _ _) _) _
  have hl := blurL_length xs
  cases h1 : vf xs
  · go_enter Tryd.func19, Tryd.ntmps19
    go_wp2_with (refine load_blk rfl 23 _ rfl _ rfl B0 Tryd.underlying23 rfl info_fl (by rw [u8s_length]; exact hx) ?_)
    refine (ValidFlag_any xs hx _).mono ?_; rintro e w1 ⟨rfl, hb1⟩
    have h2 := B1.kept hb1
    go_wp2_with (refine store_blk rfl 39 _ _ rfl _ rfl (ds := u8s zero6) rfl h2 info_b6 (by rw [u8s_length]; exact rfl) (by rw [u8s_length]; exact rfl) (u8s_one _) ?_)
    refine ret_blk_tmp rfl _ rfl (h2.setRow _) Tryd.underlying39 rfl info_b6 (by rfl) rfl ⟨rfl, bl_setRow (bl_call b0 hb1) (by omega) _⟩
  · go_enter Tryd.func19, Tryd.ntmps19
    go_wp2_with (refine load_blk rfl 23 _ rfl _ rfl B0 Tryd.underlying23 rfl info_fl (by rw [u8s_length]; exact hx) ?_)
    refine (ValidFlag_any xs hx _).mono ?_; rintro e w1 ⟨rfl, hb1⟩
    have h0 := B0.kept hb1
    go_wp2_with (refine load_blk rfl 23 _ rfl _ rfl h0 Tryd.underlying23 rfl info_fl (by rw [u8s_length]; exact hx) ?_)
    refine (blur_any xs hx rx h1 _).mono ?_; rintro e w2 ⟨rfl, hb2⟩
    have h2 := (B1.kept hb1).kept hb2
    go_wp2_with (refine store_blk rfl 39 _ _ rfl _ rfl (ds := u8s (blurL xs)) rfl h2 info_b6 (by rw [u8s_length]; exact hl) (by rw [u8s_length]; exact rfl) (u8s_one _) ?_)
    refine ret_blk_tmp rfl _ rfl (h2.setRow _) Tryd.underlying39 rfl info_b6 (by rw [u8s_length]; exact hl) rfl ⟨rfl, bl_setRow (bl_call (bl_call b0 hb1) hb2) (by omega) _⟩

/-- What BlurDistance answers. -/
def farN (xs ys : List Int) : Int := if vf xs && vf ys then diffs (blurL xs) (blurL ys) 6 else 0
set_option maxHeartbeats 800000 in
theorem sBlurDistance_any (xs ys : List Int) (hx : xs.length = 24) (hy : ys.length = 24) (rx : Bytes xs) (ry : Bytes ys) (w : World) :
    Calls Tryd.prog 22 #[fl xs, fl ys] w fun e w' => e = .returned (.tuple #[.int .i64 (farN xs ys), .int .i64 (codeV (vf xs && vf ys))]) ∧ Below w.heap.size w w' := by
  unfold fl
  have B0 : Blk ((w.alloc (.cells (u8s xs).toArray 23)).alloc (.cells (u8s ys).toArray 23)) w.heap.size (u8s xs) 23 := (Blk.new _ _ _).alloc _
  have B1 : Blk ((w.alloc (.cells (u8s xs).toArray 23)).alloc (.cells (u8s ys).toArray 23)) (w.heap.size + 1) (u8s ys) 23 := Blk.mk _ _ _ (by simp)
  have b0 := bl_new (bl_new (Below.refl _ w) (.cells (u8s xs).toArray 23)) (.cells (u8s ys).toArray 23)
  have hN := As.mk (show farN xs ys = if vf xs && vf ys then diffs (blurL xs) (blurL ys) 6 else 0 from rfl)
  cases h1 : vf xs <;> cases h2 : vf ys
  iterate 3
    · go_enter Tryd.func22, Tryd.ntmps22
      go_wp2_with (first | (go_at_call_of 35 (Value.pointer (some ⟨w.heap.size, 0, none⟩)); refine (l01Ok_any xs hx _ 0 _ B0.range).mono ?_; rintro e w' ⟨rfl, rfl⟩) | (go_at_call 35; refine (l01Ok_any ys hy _ 0 _ B1.range).mono ?_; rintro e w' ⟨rfl, rfl⟩))
      go_ret2
      exact ⟨ret_2 (by rw [hN.out, h1, h2]; rfl) rfl, b0⟩
  · go_enter Tryd.func22, Tryd.ntmps22
    go_wp2_with (first | (go_at_call_of 35 (Value.pointer (some ⟨w.heap.size, 0, none⟩)); refine (l01Ok_any xs hx _ 0 _ B0.range).mono ?_; rintro e w' ⟨rfl, rfl⟩) | (go_at_call 35; refine (l01Ok_any ys hy _ 0 _ B1.range).mono ?_; rintro e w' ⟨rfl, rfl⟩) | (go_at_call 46; refine (l01Far_any xs ys hx hy rx ry h1 h2 _ 0 _ 0 _ B0.range B1.range).mono ?_; rintro e w' ⟨rfl, hb⟩))
    go_ret2
    exact ⟨ret_2 (by rw [hN.out, h1, h2]; rfl) rfl, bl_call b0 hb⟩

set_option maxHeartbeats 800000 in
theorem BlurDistance_any (xs ys : List Int) (hx : xs.length = 24) (hy : ys.length = 24) (rx : Bytes xs) (ry : Bytes ys) (w : World) :
    Calls Tryd.prog 21 #[fl xs, fl ys] w fun e w' => e = .returned (.tuple #[.int .i64 (farN xs ys), .int .i64 (codeV (vf xs && vf ys))]) ∧ Below w.heap.size w w' := by
  unfold fl
  have B0 : Blk ((w.alloc (.cells (u8s xs).toArray 23)).alloc (.cells (u8s ys).toArray 23)) w.heap.size (u8s xs) 23 := (Blk.new _ _ _).alloc _
  have B1 : Blk ((w.alloc (.cells (u8s xs).toArray 23)).alloc (.cells (u8s ys).toArray 23)) (w.heap.size + 1) (u8s ys) 23 := Blk.mk _ _ _ (by simp)
  have b0 := bl_new (bl_new (Below.refl _ w) (.cells (u8s xs).toArray 23)) (.cells (u8s ys).toArray 23)
  cases h1 : vf xs
  · have hN := As.mk (show farN xs ys = if vf xs && vf ys then diffs (blurL xs) (blurL ys) 6 else 0 from rfl)
    go_enter Tryd.func21, Tryd.ntmps21
    go_wp2_with (refine load_blk rfl 23 _ rfl _ rfl B0 Tryd.underlying23 rfl info_fl (by rw [u8s_length]; exact hx) ?_)
    refine (ValidFlag_any xs hx _).mono ?_; rintro e w1 ⟨rfl, hb1⟩
    go_wp2_with (fail)
    go_ret2
    exact ⟨ret_2 (by rw [hN.out, h1]; rfl) rfl, bl_call b0 hb1⟩
  · cases h2 : vf ys
    · have hN := As.mk (show farN xs ys = if vf xs && vf ys then diffs (blurL xs) (blurL ys) 6 else 0 from rfl)
      go_enter Tryd.func21, Tryd.ntmps21
      go_wp2_with (refine load_blk rfl 23 _ rfl _ rfl B0 Tryd.underlying23 rfl info_fl (by rw [u8s_length]; exact hx) ?_)
      refine (ValidFlag_any xs hx _).mono ?_; rintro e w1 ⟨rfl, hb1⟩
      have B1' := B1.kept hb1
      go_wp2_with (refine load_blk rfl 23 _ rfl _ rfl B1' Tryd.underlying23 rfl info_fl (by rw [u8s_length]; exact hy) ?_)
      refine (ValidFlag_any ys hy _).mono ?_; rintro e w2 ⟨rfl, hb2⟩
      go_wp2_with (fail)
      go_ret2
      exact ⟨ret_2 (by rw [hN.out, h1, h2]; rfl) rfl, bl_call (bl_call b0 hb1) hb2⟩
    · have hN := As.mk (show farN xs ys = if vf xs && vf ys then diffs (blurL xs) (blurL ys) 6 else 0 from rfl)
      go_enter Tryd.func21, Tryd.ntmps21
      go_wp2_with (refine load_blk rfl 23 _ rfl _ rfl B0 Tryd.underlying23 rfl info_fl (by rw [u8s_length]; exact hx) ?_)
      refine (ValidFlag_any xs hx _).mono ?_; rintro e w1 ⟨rfl, hb1⟩
      have B1' := B1.kept hb1
      go_wp2_with (refine load_blk rfl 23 _ rfl _ rfl B1' Tryd.underlying23 rfl info_fl (by rw [u8s_length]; exact hy) ?_)
      refine (ValidFlag_any ys hy _).mono ?_; rintro e w2 ⟨rfl, hb2⟩
      have R0 := (B0.kept hb1).kept hb2
      have R1 := B1'.kept hb2
      go_wp2_with (first | (refine load_blk rfl 23 _ rfl _ rfl R0 Tryd.underlying23 rfl info_fl (by rw [u8s_length]; exact hx) ?_) | (refine load_blk rfl 23 _ rfl _ rfl R1 Tryd.underlying23 rfl info_fl (by rw [u8s_length]; exact hy) ?_))
      refine (afar_any xs ys hx hy rx ry h1 h2 _).mono ?_; rintro e w3 ⟨rfl, hb3⟩
      go_wp2_with (fail)
      go_ret2
      exact ⟨ret_2 (by rw [hN.out, h1, h2]; rfl) rfl, bl_call (bl_call (bl_call b0 hb1) hb2) hb3⟩

end Go.Proofs.YtjppoejkfpeicaaDoor

/- Contracts: MirrorFlag: both sides. -/
set_option linter.unusedVariables false
namespace Go.Proofs.YtjppoejkfpeicaaDoor
open Go.RowKit

set_option maxRecDepth 20000 in
set_option maxHeartbeats 1000000 in
theorem l01Mirror_any (xs : List Int) (hx : xs.length = 24) (b o : Nat) (w : World) (hr : w.rangeAt b o (u8s xs)) :
    Calls Tryd.prog 36 #[.pointer (some ⟨b, o, none⟩)] w fun e w' => e = .returned (fl (mirrorL xs)) ∧ Below w.heap.size w w' := by
  have hz : part (mirF xs) 24 0 = zero24 := part_zero _ _
  have HZ := As.mk hz
  clear hz
  have BZ : Blk ((w.alloc (.cells #[.int .u8 0, .int .u8 0, .int .u8 0, .int .u8 0, .int .u8 0, .int .u8 0, .int .u8 0, .int .u8 0, .int .u8 0, .int .u8 0, .int .u8 0, .int .u8 0, .int .u8 0, .int .u8 0, .int .u8 0, .int .u8 0, .int .u8 0, .int .u8 0, .int .u8 0, .int .u8 0, .int .u8 0, .int .u8 0, .int .u8 0, .int .u8 0] 23)).alloc (.cells #[.int .u8 0, .int .u8 0, .int .u8 0, .int .u8 0, .int .u8 0, .int .u8 0, .int .u8 0, .int .u8 0, .int .u8 0, .int .u8 0, .int .u8 0, .int .u8 0, .int .u8 0, .int .u8 0, .int .u8 0, .int .u8 0, .int .u8 0, .int .u8 0, .int .u8 0, .int .u8 0, .int .u8 0, .int .u8 0, .int .u8 0, .int .u8 0] 23)) (w.heap.size + 1) (u8s zero24) 23 := Blk.mk _ (u8s zero24) _ (by simp)
  have BY : Blk ((w.alloc (.cells #[.int .u8 0, .int .u8 0, .int .u8 0, .int .u8 0, .int .u8 0, .int .u8 0, .int .u8 0, .int .u8 0, .int .u8 0, .int .u8 0, .int .u8 0, .int .u8 0, .int .u8 0, .int .u8 0, .int .u8 0, .int .u8 0, .int .u8 0, .int .u8 0, .int .u8 0, .int .u8 0, .int .u8 0, .int .u8 0, .int .u8 0, .int .u8 0] 23)).alloc (.cells #[.int .u8 0, .int .u8 0, .int .u8 0, .int .u8 0, .int .u8 0, .int .u8 0, .int .u8 0, .int .u8 0, .int .u8 0, .int .u8 0, .int .u8 0, .int .u8 0, .int .u8 0, .int .u8 0, .int .u8 0, .int .u8 0, .int .u8 0, .int .u8 0, .int .u8 0, .int .u8 0, .int .u8 0, .int .u8 0, .int .u8 0, .int .u8 0] 23)) w.heap.size (u8s zero24) 23 := (Blk.mk w (u8s zero24) _ rfl).alloc _
  have bZ : Below w.heap.size w ((w.alloc (.cells #[.int .u8 0, .int .u8 0, .int .u8 0, .int .u8 0, .int .u8 0, .int .u8 0, .int .u8 0, .int .u8 0, .int .u8 0, .int .u8 0, .int .u8 0, .int .u8 0, .int .u8 0, .int .u8 0, .int .u8 0, .int .u8 0, .int .u8 0, .int .u8 0, .int .u8 0, .int .u8 0, .int .u8 0, .int .u8 0, .int .u8 0, .int .u8 0] 23)).alloc (.cells #[.int .u8 0, .int .u8 0, .int .u8 0, .int .u8 0, .int .u8 0, .int .u8 0, .int .u8 0, .int .u8 0, .int .u8 0, .int .u8 0, .int .u8 0, .int .u8 0, .int .u8 0, .int .u8 0, .int .u8 0, .int .u8 0, .int .u8 0, .int .u8 0, .int .u8 0, .int .u8 0, .int .u8 0, .int .u8 0, .int .u8 0, .int .u8 0] 23)) := bl_new (bl_new (Below.refl _ _) _) _
  go_enter Tryd.func36, Tryd.ntmps36
  go_wp2_with (refine store_blk rfl 23 _ _ rfl _ rfl (ds := u8s zero24) rfl BZ info_fl (by rfl) (by rfl) (u8s_one _) ?_)
  go_loopw [4] (fun i wr => ∃ k : Nat, k ≤ 24 ∧ i = .int .i64 k ∧ Blk wr w.heap.size (u8s zero24) 23 ∧ Blk wr (w.heap.size + 1) (u8s (part (mirF xs) 24 k)) 23 ∧ Below w.heap.size w wr) (fun i _ => 24 - (intOf i).toNat)
  case atStart => exact ⟨0, by omega, rfl, BY.farRow (by omega) _, by rw [HZ.out]; exact BZ.setRow _, bl_setRow bZ (by omega) _⟩
  case round =>
    obtain ⟨k, hk, rfl, h1, h2, hb⟩ := hrel
    by_cases hlt : k < 24
    · have hlt' : (k : Int) < 24 := by omega
      have g1 : (0 : Int) ≤ (k : Int) % 6 := by omega
      have g2 : (k : Int) % 6 ≤ 5 := by omega
      have g3 : (0 : Int) ≤ (k : Int) / 6 := by omega
      have g4 : (k : Int) / 6 ≤ 3 := by omega
      have g5 : (0 : Int) ≤ 5 - (k : Int) % 6 + 6 * ((k : Int) / 6) := by omega
      have g6 : 5 - (k : Int) % 6 + 6 * ((k : Int) / 6) < 24 := by omega
      have c0 : wr.cell? ⟨b, o + (5 - k % 6 + 6 * (k / 6)), none⟩ = some (.int .u8 (mirF xs k)) := by
        have h0 := hr (5 - k % 6 + 6 * (k / 6)) _ (u8s_get xs _ (by omega))
        rw [hb.cell (World.block_lt_of_cell? w _ h0)]; exact h0
      obtain ⟨v2, c2⟩ := h2.some k (by rw [u8s_length, part_length]; exact hlt)
      have f2 := h2.frozen k
      go_wp2_with (fail)
      have e1 : ((k : Int)).tmod 6 = (k : Int) % 6 := Int.tmod_eq_emod_of_nonneg (by omega)
      have e2 : IntKind.i64.wrap (5 - (k : Int) % 6) = 5 - (k : Int) % 6 := IntWalk.i64_in _ (by omega)
      have e3 : IntKind.i64.wrap ((k : Int) / 6) = (k : Int) / 6 := IntWalk.i64_in _ (by omega)
      have e4 : (5 - (k : Int) % 6 + 6 * ((k : Int) / 6)).toNat = 5 - k % 6 + 6 * (k / 6) := by omega
      refine wp_region_still_tail 12 (by kernel_rfl) (by kernel_rfl) ?_
      simp only [List.take_succ_cons, List.take_zero, List.drop_succ_cons, List.drop_zero]
      repeat still_step
      still_call ((l01Index_any _ _ ⟨by omega, by omega⟩ ⟨g3, g4⟩ _).mono fun e w' h => ⟨h.1, h.2.symm⟩)
      repeat still_step
      refine wpStill_nil ?_
      clear e1 e2 e3 e4
      go_wp2
      go_roundw
      case rel => exact ⟨k + 1, by omega, by go_num, (h1.far (by simp) _).drew, by have := (h2.set k (.int .u8 (mirF xs k))).drew; rw [u8s_set, part_set (mirF xs)] at this; exact this, (hb.setCell (by simp) _).drew⟩
      case measure => simp [intOf]; omega
    · obtain rfl : k = 24 := by omega
      rw [part_full] at h2
      have hl : (mirrorL xs).length = 24 := mirrorL_length xs
      change Blk wr (w.heap.size + 1) (u8s (mirrorL xs)) _ at h2
      go_wp2_with (first | (refine load_blk rfl 23 _ rfl _ rfl h2 Tryd.underlying23 rfl info_fl (by rw [u8s_length]; exact hl) ?_) | (refine store_blk rfl 23 _ _ rfl _ rfl rfl h1 info_fl (by rw [u8s_length]; exact hl) (by rw [u8s_length]; exact zero24_length) (u8s_one _) ?_))
      refine ret_blk rfl _ rfl (h1.setRow _) Tryd.underlying23 rfl info_fl (by rw [u8s_length]; exact hl) rfl ⟨rfl, bl_setRow hb (by omega) _⟩
end Go.Proofs.YtjppoejkfpeicaaDoor

/- Contracts: LooksLike, both sides. -/
set_option linter.unusedVariables false
set_option linter.unusedSimpArgs false
namespace Go.Proofs.YtjppoejkfpeicaaDoor
open Go.RowKit

section
variable {P : Program} {ops : Array Oper} {Q : Exit → Act → World → Prop} {S : World → Prop} {listed : Array Bool} {ts : List Value} {ds : List Deferred} {w : World} {fuel : Nat}
/-- The one operation that may come up is not wanted. -/
theorem hSkip (i d : Nat) {oi : Oper} (hi : ops[i]? = some oi) (hd : oi.dst = some d) (hr : Region.ready .any ops listed = [i])
    (hw : Region.wanted oi (yielded ops ts.toArray) = false) (hS : S w)
    (h : wpAnyH P .any ops Q S fuel (listed.setIfInBounds i true) ⟨(ts.set d undef).toArray, ds⟩ w) : wpAnyH P .any ops Q S (fuel + 1) listed ⟨ts.toArray, ds⟩ w := by
  refine wpAnyH_ready (rs := [i]) hr (by simp) (AllReadyH.cons hi (fun K hK => ?_) AllReadyH.nil)
  rw [if_neg (by rw [hw]; simp)]
  refine hK.out _ _ hS (fun _ => ?_)
  rw [hd]
  simpa [Act.put] using h
end

theorem vf_mirror {xs : List Int} (hx : xs.length = 24) (h : vf xs = true) : vf (mirrorL xs) = true := by
  unfold vf; rw [List.all_eq_true]
  intro x hx'
  obtain ⟨i, hi, rfl⟩ := List.mem_map.1 hx'
  rw [List.mem_range] at hi
  rw [decide_eq_true_eq]
  show mirF xs i ≤ 5
  exact vf_nth h _ (by omega)
theorem bytes_mirror {xs : List Int} (h : Bytes xs) : Bytes (mirrorL xs) := by
  intro x hx'
  obtain ⟨i, hi, rfl⟩ := List.mem_map.1 hx'
  exact h.nth _

/-- In how many blocks two flags differ from afar. -/
def farD (xs ys : List Int) : Int := diffs (blurL xs) (blurL ys) 6
def looksB (xs ys : List Int) (bt : Bool) : Bool := (vf xs && vf ys) && (farD xs ys == 0 || bt && farD (mirrorL xs) ys == 0)
theorem ret_b2 {a b : Bool} {n m : Int} (h : a = b) (h' : n = m) : Ending.returned (.tuple #[.bool a, .int .i64 n]) = .returned (.tuple #[.bool b, .int .i64 m]) := by rw [h, h']

end Go.Proofs.YtjppoejkfpeicaaDoor

/- Contracts: impl.firstOf of two codes; PaintCell, both sides. -/
set_option linter.unusedVariables false
set_option linter.unusedSimpArgs false
namespace Go.Proofs.YtjppoejkfpeicaaDoor
open Go.RowKit

/-- The first code that is not 0. -/
def first2 (a b : Int) : Int := if a = 0 then b else a
theorem firstOf2_any (a b : Int) (B o c : Nat) (w : World) (hr : w.rangeAt B o (i64s [a, b])) :
    Calls Tryd.prog 48 #[.slice (some ⟨B, o, none⟩) 2 c] w fun e w' => e = .returned (.int .i64 (first2 a b)) ∧ w = w' := by
  have c0 : w.cell? ⟨B, o + 0, none⟩ = some (.int .i64 a) := hr 0 _ rfl
  have c1 : w.cell? ⟨B, o + 1, none⟩ = some (.int .i64 b) := hr 1 _ rfl
  rw [Nat.add_zero] at c0
  have hF := As.mk (show first2 a b = if a = 0 then b else a from rfl)
  go_enter Tryd.func48, Tryd.ntmps48
  go_wp2
  go_loop [7] (fun i => i = .int .i64 0 ∨ i = .int .i64 1 ∧ As (a = 0) ∨ i = .int .i64 2 ∧ As (a = 0) ∧ As (b = 0)) (fun i => 2 - (intOf i).toNat)
  case atStart => exact .inl rfl
  case round =>
    rcases hrel with rfl | ⟨rfl, h⟩ | ⟨rfl, h, h'⟩
    · by_cases ha : a = 0
      · have ha' : (a != 0) = false := by simp [ha]
        go_wp2
        go_round
        case rel => exact .inr (.inl ⟨rfl, ⟨ha⟩⟩)
        case measure => simp [intOf]
      · have ha' : (a != 0) = true := by simp [ha]
        go_wp2
        go_ret
        exact ⟨ret_n (by rw [hF.out, if_neg ha]), rfl⟩
    · by_cases hb : b = 0
      · have hb' : (b != 0) = false := by simp [hb]
        go_wp2
        go_round
        case rel => exact .inr (.inr ⟨rfl, h, ⟨hb⟩⟩)
        case measure => simp [intOf]
      · have hb' : (b != 0) = true := by simp [hb]
        go_wp2
        go_ret
        exact ⟨ret_n (by rw [hF.out, if_pos h.out]), rfl⟩
    · go_wp2
      go_ret
      exact ⟨ret_n (by rw [hF.out, if_pos h.out, h'.out]), rfl⟩

def paintOk (xs : List Int) (x y c : Int) : Bool := vf xs && ((inR x 0 5 && inR y 0 3) && inR c 0 5)
def paintL (xs : List Int) (x y c : Int) : List Int := okF (paintOk xs x y c) (xs.set (x + 6 * y).toNat c)
def paintC (xs : List Int) (x y c : Int) : Int := if vf xs then codeR ((inR x 0 5 && inR y 0 3) && inR c 0 5) else 1
theorem paintL_length (xs : List Int) (x y c : Int) (hx : xs.length = 24) : (paintL xs x y c).length = 24 := okF_length (by rw [List.length_set]; exact hx)
theorem first2_paint (xs : List Int) (x y c : Int) : first2 (cellC xs x y) (if inR c 0 5 then 0 else 2) = paintC xs x y c := by
  unfold first2 cellC paintC codeR
  cases vf xs <;> cases (inR x 0 5 && inR y 0 3) <;> cases inR c 0 5 <;> rfl

set_option maxHeartbeats 1000000 in
theorem PaintCell_any (xs : List Int) (hx : xs.length = 24) (rx : Bytes xs) (x y c : Int) (w : World) :
    Calls Tryd.prog 26 #[fl xs, .int .i64 x, .int .i64 y, .int .i64 c] w fun e w' => e = .returned (.tuple #[fl (paintL xs x y c), .int .i64 (paintC xs x y c)]) ∧ Below w.heap.size w w' := by
  have hP := first2_paint xs x y c
  have hC := As.mk (show paintC xs x y c = if vf xs then codeR ((inR x 0 5 && inR y 0 3) && inR c 0 5) else 1 from rfl)
  unfold fl paintL
  have B0 : Blk ((w.alloc (.cells (u8s xs).toArray 23)).alloc (.cells #[.int .u8 0, .int .u8 0, .int .u8 0, .int .u8 0, .int .u8 0, .int .u8 0, .int .u8 0, .int .u8 0, .int .u8 0, .int .u8 0, .int .u8 0, .int .u8 0, .int .u8 0, .int .u8 0, .int .u8 0, .int .u8 0, .int .u8 0, .int .u8 0, .int .u8 0, .int .u8 0, .int .u8 0, .int .u8 0, .int .u8 0, .int .u8 0] 23)) w.heap.size (u8s xs) 23 := (Blk.new _ _ _).alloc _
  have B1 : Blk ((w.alloc (.cells (u8s xs).toArray 23)).alloc (.cells #[.int .u8 0, .int .u8 0, .int .u8 0, .int .u8 0, .int .u8 0, .int .u8 0, .int .u8 0, .int .u8 0, .int .u8 0, .int .u8 0, .int .u8 0, .int .u8 0, .int .u8 0, .int .u8 0, .int .u8 0, .int .u8 0, .int .u8 0, .int .u8 0, .int .u8 0, .int .u8 0, .int .u8 0, .int .u8 0, .int .u8 0, .int .u8 0] 23)) (w.heap.size + 1) (u8s zero24) 23 := Blk.mk _ (u8s zero24) _ (by simp)
  have b0 : Below w.heap.size w ((w.alloc (.cells (u8s xs).toArray 23)).alloc (.cells #[.int .u8 0, .int .u8 0, .int .u8 0, .int .u8 0, .int .u8 0, .int .u8 0, .int .u8 0, .int .u8 0, .int .u8 0, .int .u8 0, .int .u8 0, .int .u8 0, .int .u8 0, .int .u8 0, .int .u8 0, .int .u8 0, .int .u8 0, .int .u8 0, .int .u8 0, .int .u8 0, .int .u8 0, .int .u8 0, .int .u8 0, .int .u8 0] 23)) := bl_new (bl_new (Below.refl _ _) _) _
  cases h1 : paintOk xs x y c
  · have hne : (paintC xs x y c != 0) = true := by
      rw [hC.out]
      unfold paintOk at h1
      cases h2 : vf xs
      · simp
      · rw [h2, Bool.true_and] at h1; rw [h1]; rfl
    generalize paintC xs x y c = P at *
    clear hC
    cases hc : inR c 0 5
    · rw [hc] at hP
      simp only [Bool.false_eq_true, if_false, if_true] at hP
      go_enter Tryd.func26, Tryd.ntmps26
      go_wp2_with (refine load_blk rfl 23 _ rfl _ rfl B0 Tryd.underlying23 rfl info_fl (by rw [u8s_length]; exact hx) ?_)
      refine (cellCode_any xs hx x y _).mono ?_; rintro e w1 ⟨rfl, hb1⟩
      have X1 := (B1.kept hb1).alloc (.cells #[.int .i64 (cellC xs x y), .int .i64 2] 2)
      have X2 := Blk.mk w1 (i64s [cellC xs x y, 2]) 2 rfl
      have c1 := bl_new (bl_call b0 hb1) (.cells #[.int .i64 (cellC xs x y), .int .i64 2] 2)
      clear B0 B1 b0 hb1
      have key := firstOf2_any (cellC xs x y) 2 w1.heap.size 0 2 _ X2.range
      rw [hP] at key
      generalize cellC xs x y = cc at *
      go_wp2_with (first | (go_at_call 51; refine (isColour_any _ _).mono ?_; rintro e w' ⟨rfl, rfl⟩) | (go_at_call 50; refine (unless_any _ _ _).mono ?_; rintro e w' ⟨rfl, rfl⟩) | (go_at_call 48; refine (key).mono ?_; rintro e w' ⟨rfl, rfl⟩) | (refine store_blk rfl 23 _ _ rfl _ rfl (ds := u8s zero24) rfl X1 info_fl (by rfl) (by rfl) (u8s_one _) ?_))
      refine ret_blk_tmp rfl _ rfl (X1.setRow _) Tryd.underlying23 rfl info_fl (by rfl) rfl ⟨rfl, bl_setRow c1 (by omega) _⟩
    · rw [hc] at hP
      simp only [Bool.false_eq_true, if_false, if_true] at hP
      go_enter Tryd.func26, Tryd.ntmps26
      go_wp2_with (refine load_blk rfl 23 _ rfl _ rfl B0 Tryd.underlying23 rfl info_fl (by rw [u8s_length]; exact hx) ?_)
      refine (cellCode_any xs hx x y _).mono ?_; rintro e w1 ⟨rfl, hb1⟩
      have X1 := (B1.kept hb1).alloc (.cells #[.int .i64 (cellC xs x y), .int .i64 0] 2)
      have X2 := Blk.mk w1 (i64s [cellC xs x y, 0]) 2 rfl
      have c1 := bl_new (bl_call b0 hb1) (.cells #[.int .i64 (cellC xs x y), .int .i64 0] 2)
      clear B0 B1 b0 hb1
      have key := firstOf2_any (cellC xs x y) 0 w1.heap.size 0 2 _ X2.range
      rw [hP] at key
      generalize cellC xs x y = cc at *
      go_wp2_with (first | (go_at_call 51; refine (isColour_any _ _).mono ?_; rintro e w' ⟨rfl, rfl⟩) | (go_at_call 50; refine (unless_any _ _ _).mono ?_; rintro e w' ⟨rfl, rfl⟩) | (go_at_call 48; refine (key).mono ?_; rintro e w' ⟨rfl, rfl⟩) | (refine store_blk rfl 23 _ _ rfl _ rfl (ds := u8s zero24) rfl X1 info_fl (by rfl) (by rfl) (u8s_one _) ?_))
      refine ret_blk_tmp rfl _ rfl (X1.setRow _) Tryd.underlying23 rfl info_fl (by rfl) rfl ⟨rfl, bl_setRow c1 (by omega) _⟩
  · have h2 : vf xs = true ∧ (inR x 0 5 && inR y 0 3) = true ∧ inR c 0 5 = true := by unfold paintOk at h1; simp only [Bool.and_eq_true] at h1 ⊢; exact ⟨h1.1, h1.2.1, h1.2.2⟩
    have hcc : cellC xs x y = 0 := by unfold cellC; rw [h2.1, h2.2.1]; rfl
    have hp0 : paintC xs x y c = 0 := by unfold paintC; rw [h2.1, h2.2.1, h2.2.2]; rfl
    have hc := h2.2.2
    have n3 := ((inR_iff _ _ _).1 hc).1; have n4 := ((inR_iff _ _ _).1 hc).2
    have h5 : 0 ≤ x ∧ x ≤ 5 ∧ 0 ≤ y ∧ y ≤ 3 := by
      have h6 := h2.2.1
      simp only [Bool.and_eq_true, inR_iff] at h6; omega
    have g1 := h5.1; have g2 := h5.2.1; have g3 := h5.2.2.1; have g4 := h5.2.2.2
    have hl : (xs.set (x + 6 * y).toNat c).length = 24 := by rw [List.length_set]; exact hx
    rw [hp0]
    clear h5 hP hC
    go_enter Tryd.func26, Tryd.ntmps26
    go_wp2_with (refine load_blk rfl 23 _ rfl _ rfl B0 Tryd.underlying23 rfl info_fl (by rw [u8s_length]; exact hx) ?_)
    refine (cellCode_any xs hx x y _).mono ?_; rintro e w1 ⟨rfl, hb1⟩
    have X0 := (B0.kept hb1).alloc (.cells #[.int .i64 0, .int .i64 0] 2)
    have X1 := (B1.kept hb1).alloc (.cells #[.int .i64 0, .int .i64 0] 2)
    have X2 := Blk.mk w1 (i64s [0, 0]) 2 rfl
    have c1 := bl_new (bl_call b0 hb1) (.cells #[.int .i64 0, .int .i64 0] 2)
    clear B0 B1 b0 hb1
    have key := firstOf2_any 0 0 w1.heap.size 0 2 (w1.alloc (.cells #[.int .i64 0, .int .i64 0] 2)) X2.range
    rw [hcc]
    obtain ⟨v2, c2⟩ := X0.some (x + 6 * y).toNat (by rw [u8s_length]; omega)
    have f2 := X0.frozen (x + 6 * y).toNat
    have D0 := X0.set (x + 6 * y).toNat (.int .u8 c)
    rw [u8s_set] at D0
    have D1 := X1.far (p := ⟨w.heap.size, (x + 6 * y).toNat, none⟩) (by simp) (.int .u8 c)
    have d0 := c1.setCell (p := ⟨w.heap.size, (x + 6 * y).toNat, none⟩) (by simp) (.int .u8 c)
    clear X2
    go_wp2_with (first | (go_at_call 51; refine (isColour_any _ _).mono ?_; rintro e w' ⟨rfl, rfl⟩) | (go_at_call 50; refine (unless_any _ _ _).mono ?_; rintro e w' ⟨rfl, rfl⟩))
    refine key.mono ?_; rintro e w' ⟨rfl, rfl⟩
    generalize w1.alloc (.cells #[.int .i64 0, .int .i64 0] 2) = W at *
    have hf2 : first2 0 0 = 0 := rfl
    rw [hf2]
    go_wp2_with (first | (refine load_blk rfl 23 _ rfl _ rfl D0 Tryd.underlying23 rfl info_fl (by rw [u8s_length]; exact hl) ?_) | (refine store_blk rfl 23 _ _ rfl _ rfl rfl D1 info_fl (by rw [u8s_length]; exact hl) (by rw [u8s_length]; exact zero24_length) (u8s_one _) ?_))
    refine ret_blk_tmp rfl _ rfl (D1.setRow _) Tryd.underlying23 rfl info_fl (by rw [u8s_length]; exact hl) rfl ⟨rfl, bl_setRow d0 (by omega) _⟩
end Go.Proofs.YtjppoejkfpeicaaDoor

/- Contracts: RecolourFlag, both sides. -/
set_option linter.unusedVariables false
namespace Go.Proofs.YtjppoejkfpeicaaDoor
open Go.RowKit

/-- A flag with one colour put for another. -/
def recF (xs : List Int) (p q : Int) (k i : Nat) : Int := if i < k ∧ nth xs i = p then q else nth xs i
def recK (xs : List Int) (p q : Int) (k : Nat) : List Int := (List.range 24).map (recF xs p q k)
theorem recK_length (xs : List Int) (p q : Int) (k : Nat) : (recK xs p q k).length = 24 := by simp [recK]
theorem recK_zero (xs : List Int) (p q : Int) (hx : xs.length = 24) : recK xs p q 0 = xs := by
  conv => rhs; rw [← range_nth xs 24 hx]
  apply List.map_congr_left
  intro i _
  unfold recF; rw [if_neg (by omega)]
theorem recK_nth (xs : List Int) (p q : Int) (k : Nat) (hk : k < 24) : nth (recK xs p q k) k = nth xs k := by
  unfold recK; rw [nth_map_range _ _ _ hk]; unfold recF; rw [if_neg (by omega)]
theorem recK_t (xs : List Int) (p q : Int) (k : Nat) (h : nth xs k = p) : (recK xs p q k).set k q = recK xs p q (k + 1) := by
  apply List.ext_getElem
  · simp [recK]
  · intro i h1 h2
    simp only [List.getElem_set, recK, List.getElem_map, List.getElem_range, recF]
    by_cases e : k = i
    · subst e; rw [if_pos rfl, if_pos ⟨by omega, h⟩]
    · rw [if_neg e]
      by_cases h3 : i < k
      · simp [h3, show i < k + 1 by omega]
      · simp [h3, show ¬ i < k + 1 by omega]
theorem recK_f (xs : List Int) (p q : Int) (k : Nat) (h : ¬ nth xs k = p) : recK xs p q k = recK xs p q (k + 1) := by
  apply List.map_congr_left
  intro i _
  unfold recF
  by_cases e : i = k
  · subst e; rw [if_neg (by omega), if_neg (by simp [h])]
  · by_cases h3 : i < k
    · simp [h3, show i < k + 1 by omega]
    · simp [h3, show ¬ i < k + 1 by omega]
def recC (xs : List Int) (p q : Int) : Int := if vf xs then codeR (aC [p, q]) else 1
def recL (xs : List Int) (p q : Int) : List Int := okF (vf xs && aC [p, q]) (recK xs p q 24)
theorem recL_length (xs : List Int) (p q : Int) : (recL xs p q).length = 24 := okF_length (recK_length _ _ _ _)

set_option maxHeartbeats 1000000 in
theorem RecolourFlag_any (xs : List Int) (hx : xs.length = 24) (rx : Bytes xs) (p q : Int) (w : World) :
    Calls Tryd.prog 28 #[fl xs, .int .i64 p, .int .i64 q] w fun e w' => e = .returned (.tuple #[fl (recL xs p q), .int .i64 (recC xs p q)]) ∧ Below w.heap.size w w' := by
  unfold fl recL recC
  have B0 : Blk ((w.alloc (.cells (u8s xs).toArray 23)).alloc (.cells #[.int .u8 0, .int .u8 0, .int .u8 0, .int .u8 0, .int .u8 0, .int .u8 0, .int .u8 0, .int .u8 0, .int .u8 0, .int .u8 0, .int .u8 0, .int .u8 0, .int .u8 0, .int .u8 0, .int .u8 0, .int .u8 0, .int .u8 0, .int .u8 0, .int .u8 0, .int .u8 0, .int .u8 0, .int .u8 0, .int .u8 0, .int .u8 0] 23)) w.heap.size (u8s xs) 23 := (Blk.new _ _ _).alloc _
  have B1 : Blk ((w.alloc (.cells (u8s xs).toArray 23)).alloc (.cells #[.int .u8 0, .int .u8 0, .int .u8 0, .int .u8 0, .int .u8 0, .int .u8 0, .int .u8 0, .int .u8 0, .int .u8 0, .int .u8 0, .int .u8 0, .int .u8 0, .int .u8 0, .int .u8 0, .int .u8 0, .int .u8 0, .int .u8 0, .int .u8 0, .int .u8 0, .int .u8 0, .int .u8 0, .int .u8 0, .int .u8 0, .int .u8 0] 23)) (w.heap.size + 1) (u8s zero24) 23 := Blk.mk _ (u8s zero24) _ (by simp)
  have b0 : Below w.heap.size w ((w.alloc (.cells (u8s xs).toArray 23)).alloc (.cells #[.int .u8 0, .int .u8 0, .int .u8 0, .int .u8 0, .int .u8 0, .int .u8 0, .int .u8 0, .int .u8 0, .int .u8 0, .int .u8 0, .int .u8 0, .int .u8 0, .int .u8 0, .int .u8 0, .int .u8 0, .int .u8 0, .int .u8 0, .int .u8 0, .int .u8 0, .int .u8 0, .int .u8 0, .int .u8 0, .int .u8 0, .int .u8 0] 23)) := bl_new (bl_new (Below.refl _ _) _) _
  cases h1 : vf xs
  · go_enter Tryd.func28, Tryd.ntmps28
    go_wp2_with (refine load_blk rfl 23 _ rfl _ rfl B0 Tryd.underlying23 rfl info_fl (by rw [u8s_length]; exact hx) ?_)
    refine (ValidFlag_any xs hx _).mono ?_; rintro e w1 ⟨rfl, hb1⟩
    have h2 := B1.kept hb1
    go_wp2_with (refine store_blk rfl 23 _ _ rfl _ rfl (ds := u8s zero24) rfl h2 info_fl (by rfl) (by rfl) (u8s_one _) ?_)
    refine ret_blk_tmp rfl _ rfl (h2.setRow _) Tryd.underlying23 rfl info_fl (by rfl) rfl ⟨rfl, bl_setRow (bl_call b0 hb1) (by omega) _⟩
  · cases h2 : aC [p, q]
    · go_enter Tryd.func28, Tryd.ntmps28
      go_wp2_with (refine load_blk rfl 23 _ rfl _ rfl B0 Tryd.underlying23 rfl info_fl (by rw [u8s_length]; exact hx) ?_)
      refine (ValidFlag_any xs hx _).mono ?_; rintro e w1 ⟨rfl, hb1⟩
      have X1 := (B1.kept hb1).alloc (.cells #[.int .i64 p, .int .i64 q] 2)
      have X2 := Blk.mk w1 (i64s [p, q]) 2 rfl
      have c1 := bl_new (bl_call b0 hb1) (.cells #[.int .i64 p, .int .i64 q] 2)
      go_wp2_with (fail)
      refine (areColours_any [p, q] _ _ _ _ (by simp) X2.range).mono ?_; rintro e w2 ⟨rfl, hb2⟩
      have Y1 := X1.kept hb2
      go_wp2_with (refine store_blk rfl 23 _ _ rfl _ rfl (ds := u8s zero24) rfl Y1 info_fl (by rfl) (by rfl) (u8s_one _) ?_)
      refine ret_blk_tmp rfl _ rfl (Y1.setRow _) Tryd.underlying23 rfl info_fl (by rfl) rfl ⟨rfl, bl_setRow (bl_call c1 hb2) (by omega) _⟩
    · have hq : inR q 0 5 = true := by rw [aC_two, Bool.and_eq_true] at h2; exact h2.2
      have n3 := ((inR_iff _ _ _).1 hq).1; have n4 := ((inR_iff _ _ _).1 hq).2
      go_enter Tryd.func28, Tryd.ntmps28
      go_wp2_with (refine load_blk rfl 23 _ rfl _ rfl B0 Tryd.underlying23 rfl info_fl (by rw [u8s_length]; exact hx) ?_)
      refine (ValidFlag_any xs hx _).mono ?_; rintro e w1 ⟨rfl, hb1⟩
      have X0 := (B0.kept hb1).alloc (.cells #[.int .i64 p, .int .i64 q] 2)
      have X1 := (B1.kept hb1).alloc (.cells #[.int .i64 p, .int .i64 q] 2)
      have X2 := Blk.mk w1 (i64s [p, q]) 2 rfl
      have c1 := bl_new (bl_call b0 hb1) (.cells #[.int .i64 p, .int .i64 q] 2)
      go_wp2_with (fail)
      refine (areColours_any [p, q] _ _ _ _ (by simp) X2.range).mono ?_; rintro e w2 ⟨rfl, hb2⟩
      have Y0 := X0.kept hb2
      have Y1 := X1.kept hb2
      have c2 := bl_call c1 hb2
      clear B0 B1 b0 X0 X1 X2 c1
      go_wp2_with (refine load_blk rfl 23 _ rfl _ rfl Y0 Tryd.underlying23 rfl info_fl (by rw [u8s_length]; exact hx) ?_)
      go_loopw [23] (fun i wr => ∃ k : Nat, k ≤ 24 ∧ i = .int .i64 k ∧ Blk wr w.heap.size (u8s (recK xs p q k)) 23 ∧ Blk wr (w.heap.size + 1) (u8s zero24) 23 ∧ Below w.heap.size w wr) (fun i _ => 24 - (intOf i).toNat)
      case atStart => exact ⟨0, by omega, rfl, by rw [recK_zero xs p q hx]; exact Y0, Y1, c2⟩
      case round =>
        obtain ⟨k, hk, rfl, g0, g1, hb⟩ := hrel
        clear Y0 Y1 c2
        by_cases hlt : k < 24
        · have hlt' : (k : Int) < 24 := by omega
          have n1 := (rx.nth k).1; have n2 := (rx.nth k).2
          have c0 : ∀ W, (Instr.index 23 (.agg (u8s xs).toArray) (.int .i64 (k : Int))).run Tryd.prog W = .ok (.int .u8 (nth xs k)) W := fun W => index_fl xs hx k hlt W
          obtain ⟨v2, c2⟩ := g0.some k (by rw [u8s_length, recK_length]; exact hlt)
          have f0 := g0.frozen k
          by_cases he : nth xs k = p
          · have hs := As.mk (recK_t xs p q k he)
            go_wp2
            go_roundw
            case rel => exact ⟨k + 1, by omega, by go_num, by have := g0.set k (.int .u8 q); rw [u8s_set, hs.out] at this; exact this, g1.far (by simp) _, hb.setCell (by simp) _⟩
            case measure => simp [intOf]; omega
          · have hs := As.mk (recK_f xs p q k he)
            go_wp2
            go_roundw
            case rel => exact ⟨k + 1, by omega, by go_num, by rw [← hs.out]; exact g0, g1, hb⟩
            case measure => simp [intOf]; omega
        · obtain rfl : k = 24 := by omega
          have hl := recK_length xs p q 24
          go_wp2_with (first | (refine load_blk rfl 23 _ rfl _ rfl g0 Tryd.underlying23 rfl info_fl (by rw [u8s_length]; exact hl) ?_) | (refine store_blk rfl 23 _ _ rfl _ rfl rfl g1 info_fl (by rw [u8s_length]; exact hl) (by rw [u8s_length]; exact zero24_length) (u8s_one _) ?_))
          refine ret_blk_tmp rfl _ rfl (g1.setRow _) Tryd.underlying23 rfl info_fl (by rw [u8s_length]; exact hl) rfl ⟨rfl, bl_setRow hb (by omega) _⟩
end Go.Proofs.YtjppoejkfpeicaaDoor

/- '==' between two arrays of bytes. -/
set_option linter.unusedVariables false
namespace Go.Proofs.YtjppoejkfpeicaaDoor
open Go.RowKit
theorem list_eq_nth (xs ys : List Int) (n : Nat) (hx : xs.length = n) (hy : ys.length = n) : ((List.range' 0 n).all fun i => nth xs i == nth ys i) = decide (xs = ys) := by
  rw [Bool.eq_iff_iff]
  simp only [List.all_eq_true, decide_eq_true_eq, beq_iff_eq, List.mem_range'_1]
  constructor
  · intro h
    apply List.ext_getElem (by rw [hx, hy])
    intro i h1 h2
    rw [nth_get xs i h1, nth_get ys i h2]
    exact h i ⟨by omega, by omega⟩
  · rintro rfl i _
    rfl
theorem run_equalIn_u8s {P : Program} (w : World) (d : Nat) (t e : TypeId) (n : Nat) (ht : P.underlying t = some (.array n e)) (he : P.underlying e = some (.int .u8)) (ha : (P.info? e).map (·.size) = some 1) (hag : ∀ w, (isAgg e).run P w = .ok false w)
    (xs ys : List Int) (hx : xs.length = n) (hy : ys.length = n) :
    (Op.equalIn (d + 2) t (.agg (u8s xs).toArray) (.agg (u8s ys).toArray)).run P w = .ok (decide (xs = ys)) w := by
  have hs : ∀ w, (sizeOf e).run P w = .ok 1 w := by
    intro w
    cases hq : P.info? e with
    | none => simp [hq] at ha
    | some i => simp [hq] at ha; simp [sizeOf, typeInfo, hq, ha]
  have hp : ∀ (zs : List Int) (i : Nat), i < zs.length → (Go.part e (u8s zs).toArray i).run P w = .ok (.int .u8 (nth zs i)) w := by
    intro zs i hi
    have := u8s_get zs i hi
    simp only [Go.part, Sem.run_bind, hag, Result.andThen_ok]
    simp [this]
  have key : ∀ (m s : Nat), s + m = n → (forIn (List.range' s m) (none, ()) fun i (__s : Option Bool × Unit) => do
            let __do_lift ← Go.part e (u8s xs).toArray (i * 1)
            let __do_lift_1 ← Go.part e (u8s ys).toArray (i * 1)
            let __do_lift ← Op.equalIn (d + 1) e __do_lift __do_lift_1
            if (!__do_lift) = true then pure (ForInStep.done (some false, ())) else pure (ForInStep.yield (none, ())) : Sem (Option Bool × Unit)).run P w
      = .ok (if (List.range' s m).all (fun i => nth xs i == nth ys i) then (none, ()) else (some false, ())) w := by
    intro m
    induction m with
    | zero => intro s _; simp [Sem.run_pure]
    | succ m ih =>
      intro s hsm
      rw [List.range'_succ, List.forIn_cons]
      simp only [Sem.run_bind, Nat.mul_one, hp xs s (by omega), hp ys s (by omega), Result.andThen_ok, run_equalIn_int w d e .u8 .u8 _ _ he]
      rw [List.all_cons]
      cases h : nth xs s == nth ys s
      · simp [Sem.run_pure]
      · simp only [Bool.not_true, Bool.false_eq_true, if_false, Sem.run_pure, Result.andThen_ok, Bool.true_and]
        have := ih (s + 1) (by omega)
        simpa [Nat.mul_one] using this
  rw [Op.equalIn]
  simp only [Sem.run_bind, run_underlying ht, Result.andThen_ok, hs, Std.Legacy.Range.forIn_eq_forIn_range']
  have hk := key n 0 (by omega)
  rw [list_eq_nth xs ys n hx hy] at hk
  simp only [Std.Legacy.Range.size, Nat.sub_zero, Nat.add_sub_cancel, Nat.div_one] at hk ⊢
  rw [hk]
  cases hd : decide (xs = ys) <;> simp [Sem.run_pure, Result.andThen]
/-- '==' as the walk meets it. -/
theorem run_eql_u8s {P : Program} (t e : TypeId) (n : Nat) (ht : P.underlying t = some (.array n e)) (he : P.underlying e = some (.int .u8)) (ha : (P.info? e).map (·.size) = some 1) (hag : ∀ w, (isAgg e).run P w = .ok false w)
    (xs ys : List Int) (hx : xs.length = n) (hy : ys.length = n) (w : World) :
    (binOp .eql t (.agg (u8s xs).toArray) (.agg (u8s ys).toArray)).run P w = .ok (.bool (decide (xs = ys))) w := by
  rw [run_eql_struct, run_equalIn_u8s w 9998 t e n ht he ha hag xs ys hx hy]
  rfl
theorem run_neq_u8s {P : Program} (t e : TypeId) (n : Nat) (ht : P.underlying t = some (.array n e)) (he : P.underlying e = some (.int .u8)) (ha : (P.info? e).map (·.size) = some 1) (hag : ∀ w, (isAgg e).run P w = .ok false w)
    (xs ys : List Int) (hx : xs.length = n) (hy : ys.length = n) (w : World) :
    (binOp .neq t (.agg (u8s xs).toArray) (.agg (u8s ys).toArray)).run P w = .ok (.bool (!decide (xs = ys))) w := by
  rw [run_neq_struct, run_equalIn_u8s w 9998 t e n ht he ha hag xs ys hx hy]
  rfl
end Go.Proofs.YtjppoejkfpeicaaDoor

/- Contracts: IsUpsideDown: both sides. -/
set_option linter.unusedVariables false
namespace Go.Proofs.YtjppoejkfpeicaaDoor
open Go.RowKit

theorem guard_fl : Tryd.prog.eqGuardType Tryd.prog.depth 23 = false := by kernel_rfl
theorem eql_fl (xs ys : List Int) (hx : xs.length = 24) (hy : ys.length = 24) (w : World) : (binOp .eql 23 (.agg (u8s xs).toArray) (.agg (u8s ys).toArray)).run Tryd.prog w = .ok (.bool (decide (xs = ys))) w :=
  run_eql_u8s 23 5 24 Tryd.underlying23 Tryd.underlying5 (by kernel_rfl) (fun w => Tryd.isAgg5 w) xs ys hx hy w
theorem neq_fl (xs ys : List Int) (hx : xs.length = 24) (hy : ys.length = 24) (w : World) : (binOp .neq 23 (.agg (u8s xs).toArray) (.agg (u8s ys).toArray)).run Tryd.prog w = .ok (.bool (!decide (xs = ys))) w :=
  run_neq_u8s 23 5 24 Tryd.underlying23 Tryd.underlying5 (by kernel_rfl) (fun w => Tryd.isAgg5 w) xs ys hx hy w

def downB (xs ys : List Int) : Bool := vf xs && vf ys && decide (turnL xs = ys)
theorem ret_bn {a b : Bool} {n m : Int} (h : a = b) (h' : n = m) : Ending.returned (.tuple #[.bool a, .int .i64 n]) = .returned (.tuple #[.bool b, .int .i64 m]) := by rw [h, h']

set_option maxRecDepth 100000 in
set_option maxHeartbeats 1000000 in
theorem IsUpsideDown_any (xs ys : List Int) (hx : xs.length = 24) (hy : ys.length = 24) (w : World) :
    Calls Tryd.prog 24 #[fl xs, fl ys] w fun e w' => e = .returned (.tuple #[.bool (downB xs ys), .int .i64 (codeV (vf xs && vf ys))]) ∧ Below w.heap.size w w' := by
  unfold fl
  have B0 : Blk ((w.alloc (.cells (u8s xs).toArray 23)).alloc (.cells (u8s ys).toArray 23)) w.heap.size (u8s xs) 23 := (Blk.new _ _ _).alloc _
  have B1 : Blk ((w.alloc (.cells (u8s xs).toArray 23)).alloc (.cells (u8s ys).toArray 23)) (w.heap.size + 1) (u8s ys) 23 := Blk.mk _ _ _ (by simp)
  have b0 := bl_new (bl_new (Below.refl _ w) (.cells (u8s xs).toArray 23)) (.cells (u8s ys).toArray 23)
  have hi1 : (Tryd.prog.info? 23).map (·.size) = some (u8s xs).length := by rw [u8s_length, hx]; exact info_fl
  have hi2 : (Tryd.prog.info? 23).map (·.size) = some (u8s ys).length := by rw [u8s_length, hy]; exact info_fl
  have hg := guard_fl
  have he := eql_fl (turnL xs) ys (turnL_length xs) hy
  have hD := As.mk (show downB xs ys = (vf xs && vf ys && decide (turnL xs = ys)) from rfl)
  cases h1 : vf xs
  · go_enter Tryd.func24, Tryd.ntmps24
    go_wp2_with (refine load_blk rfl 23 _ rfl _ rfl B0 Tryd.underlying23 rfl info_fl (by rw [u8s_length]; exact hx) ?_)
    refine (ValidFlag_any xs hx _).mono ?_; rintro e w1 ⟨rfl, hb1⟩
    go_wp2_with (fail)
    go_ret2
    exact ⟨ret_bn (by rw [hD.out, h1]; rfl) rfl, bl_call b0 hb1⟩
  · cases h2 : vf ys
    · go_enter Tryd.func24, Tryd.ntmps24
      go_wp2_with (refine load_blk rfl 23 _ rfl _ rfl B0 Tryd.underlying23 rfl info_fl (by rw [u8s_length]; exact hx) ?_)
      refine (ValidFlag_any xs hx _).mono ?_; rintro e w1 ⟨rfl, hb1⟩
      have B1' := B1.kept hb1
      go_wp2_with (refine load_blk rfl 23 _ rfl _ rfl B1' Tryd.underlying23 rfl info_fl (by rw [u8s_length]; exact hy) ?_)
      refine (ValidFlag_any ys hy _).mono ?_; rintro e w2 ⟨rfl, hb2⟩
      go_wp2_with (fail)
      go_ret2
      exact ⟨ret_bn (by rw [hD.out, h1, h2]; rfl) rfl, bl_call (bl_call b0 hb1) hb2⟩
    · go_enter Tryd.func24, Tryd.ntmps24
      go_wp2_with (refine load_blk rfl 23 _ rfl _ rfl B0 Tryd.underlying23 rfl info_fl (by rw [u8s_length]; exact hx) ?_)
      refine (ValidFlag_any xs hx _).mono ?_; rintro e w1 ⟨rfl, hb1⟩
      have B1' := B1.kept hb1
      go_wp2_with (refine load_blk rfl 23 _ rfl _ rfl B1' Tryd.underlying23 rfl info_fl (by rw [u8s_length]; exact hy) ?_)
      refine (ValidFlag_any ys hy _).mono ?_; rintro e w2 ⟨rfl, hb2⟩
      have S2 : Below w.heap.size w w2 ∧ w2.rangeAt w.heap.size 0 (u8s xs) ∧ w2.rangeAt (w.heap.size + 1) 0 (u8s ys) := ⟨bl_call (bl_call b0 hb1) hb2, ((B0.kept hb1).kept hb2).range, (B1'.kept hb2).range⟩
      go_wp2_with (fail)
      refine wp_region_held_drew (S := (fun W => Below w.heap.size w W ∧ W.rangeAt w.heap.size 0 (u8s xs) ∧ W.rangeAt (w.heap.size + 1) 0 (u8s ys))) (by kernel_rfl) (drew2 S2) (fun hHeld => ?_)
      (refine hTake 0 14 rfl rfl (by kernel_rfl) (by kernel_rfl) (by kernel_rfl) (fun _ _ _ h => h) (yieldsIf_load_mid (by rfl) _ _ rfl _ _ rfl (u8s xs) _ (fun W h => h.2.1) Tryd.underlying23 rfl hi1) hHeld ?_; simp only [List.set_cons_zero, List.set_cons_succ])
      (refine hTake 2 16 rfl rfl (by kernel_rfl) (by kernel_rfl) (by kernel_rfl) (fun _ _ _ h => h) (yieldsIf_load_mid (by rfl) _ _ rfl _ _ rfl (u8s ys) _ (fun W h => h.2.2) Tryd.underlying23 rfl hi2) hHeld ?_; simp only [List.set_cons_zero, List.set_cons_succ])
      (refine hCall 1 15 37 rfl rfl (by kernel_rfl) (args := #[.agg (u8s xs).toArray]) (by rfl) (by go_simp) (.agg (u8s (turnL xs)).toArray) (turned_any xs hx _) (fun wq hb => ⟨keep2 hHeld hb, ?_⟩); simp only [List.set_cons_zero, List.set_cons_succ]; replace hHeld := keep2 hHeld hb; clear hb)
      (refine hTake 3 17 (v := .bool (decide (turnL xs = ys))) rfl rfl (by kernel_rfl) (by kernel_rfl) (by kernel_rfl) (fun _ _ _ h => h) (Or.inl ⟨by rfl, fun W _ => by go_simp⟩) hHeld ?_; simp only [List.set_cons_zero, List.set_cons_succ])
      (refine hTake 4 4 (v := .bool (decide (turnL xs = ys))) rfl rfl (by kernel_rfl) (by kernel_rfl) (by kernel_rfl) (fun _ _ _ h => h) (Or.inl ⟨by rfl, fun W _ => rfl⟩) hHeld ?_; simp only [List.set_cons_zero, List.set_cons_succ])
      (refine hTake 5 5 (v := .int .i64 0) rfl rfl (by kernel_rfl) (by kernel_rfl) (by kernel_rfl) (fun _ _ _ h => h) (Or.inl ⟨by rfl, fun W _ => rfl⟩) hHeld ?_; simp only [List.set_cons_zero, List.set_cons_succ])
      refine wpAnyH_done (by kernel_rfl) ?_ _
      go_wp2_with (fail)
      go_ret2
      exact ⟨ret_bn (by rw [hD.out, h1, h2]; rfl) rfl, hHeld.1⟩
end Go.Proofs.YtjppoejkfpeicaaDoor

/- Contracts: FlagText: both sides. -/
set_option linter.unusedVariables false
namespace Go.Proofs.YtjppoejkfpeicaaDoor
open Go.RowKit

/-- What FlagText answers. -/
def flagText (xs : List Int) : ByteArray := if vf xs then strOfNums (textL xs 24) else ⟨#[]⟩

set_option maxHeartbeats 1000000 in
theorem FlagText_any (xs : List Int) (hx : xs.length = 24) (rx : Bytes xs) (w : World) :
    Calls Tryd.prog 10 #[fl xs] w fun e w' => e = .returned (.string (flagText xs)) ∧ Below w.heap.size w w' := by
  unfold fl
  have B0 := Blk.new w (u8s xs) 23
  have b0 := bl_new (Below.refl _ w) (.cells (u8s xs).toArray 23)
  have hT := As.mk (show flagText xs = if vf xs then strOfNums (textL xs 24) else ⟨#[]⟩ from rfl)
  cases h1 : vf xs
  · go_enter Tryd.func10, Tryd.ntmps10
    go_wp2_with (refine load_blk rfl 23 _ rfl _ rfl B0 Tryd.underlying23 rfl info_fl (by rw [u8s_length]; exact hx) ?_)
    refine (ValidFlag_any xs hx _).mono ?_; rintro e w1 ⟨rfl, hb1⟩
    go_wp2_with (fail)
    go_ret
    exact ⟨ret_s (by rw [hT.out, h1]; rfl), bl_call b0 hb1⟩
  · have HV := As.mk h1
    go_enter Tryd.func10, Tryd.ntmps10
    go_wp2_with (refine load_blk rfl 23 _ rfl _ rfl B0 Tryd.underlying23 rfl info_fl (by rw [u8s_length]; exact hx) ?_)
    refine (ValidFlag_any xs hx _).mono ?_; rintro e w1 ⟨rfl, hb1⟩
    have B1 := B0.kept hb1
    have b1 := bl_call b0 hb1
    have B2 := B1.alloc (.cells #[] 5)
    clear B0 b0 hb1
    go_wp2_with (refine load_blk rfl 23 _ rfl _ rfl B2 Tryd.underlying23 rfl info_fl (by rw [u8s_length]; exact hx) ?_)
    go_loopw [3, 11] (fun v i wr => ∃ k : Nat, k ≤ 24 ∧ i = .int .i64 k ∧ Own wr w1.heap.size 5 v (u8s (textL xs k)) ∧ Below w1.heap.size w1 wr) (fun _ i _ => 24 - (intOf i).toNat)
    case atStart => exact ⟨0, by omega, rfl, Own.lit w1 w1.heap.size 5 [] (Nat.le_refl _) (by simp), bl_new (Below.refl _ _) _⟩
    case round =>
      obtain ⟨k, hk, rfl, hO, hb⟩ := hrel
      by_cases hlt : k < 24
      · have hlt' : (k : Int) < 24 := by omega
        have n1 := (rx.nth k).1
        have n2 : nth xs k ≤ 5 := vf_nth HV.out k (by omega)
        have hi := index_letters (nth xs k) n1 n2
        have hi2 := index_fl xs hx k hlt
        have hlen := textL_length xs k
        have ht := As.mk (show textL xs (k + 1) = (if 0 < k ∧ k % 6 = 0 then textL xs k ++ [47] else textL xs k) ++ [letter (nth xs k)] from rfl)
        by_cases hs : 0 < k ∧ k % 6 = 0
        · have h1 : (0 : Int) < k := by omega
          have h2 : ((k : Int) % 6 == 0) = true := by rw [beq_iff_eq]; omega
          have hs' := As.mk hs
          clear hs
          go_wp2_with (at_builtin; refine app1 (w0 := w1) (w1.heap.size) rfl (.tmp 22) (.tmp 23) 28 5 (.int .u8 0) 1 rfl Tryd.underlying28 info_u8 rfl (by omega) (u3) (u8s (textL xs k)) (.int .u8 47) rfl rfl rfl hO hb hb.size (by rw [u8s_length]; omega) ?_)
          intro v2 w2 hO1 hb1 _ _
          rw [u8s_snoc] at hO1
          go_wp2_with (at_builtin; refine app1 (w0 := w1) (w1.heap.size) rfl (.tmp 25) (.tmp 28) 28 5 (.int .u8 0) 1 rfl Tryd.underlying28 info_u8 rfl (by omega) (v2) (u8s (textL xs k ++ [47])) (.int .u8 (letter (nth xs k))) rfl rfl rfl hO1 hb1 hb1.size (by rw [u8s_length, List.length_append]; simp; omega) ?_)
          intro v3 w3 hO2 hb2 _ _
          rw [u8s_snoc] at hO2
          go_wp2_with (fail)
          go_roundw
          case rel => exact ⟨k + 1, by omega, by go_num, by rw [ht.out, if_pos hs'.out]; exact hO2, hb2⟩
          case measure => simp [intOf]; omega
        · have hs' := As.mk hs
          by_cases h0 : k = 0
          · have h1 : decide (0 < k) = false := by simp; omega
            clear hs h0
            go_wp2_with (at_builtin; refine app1 (w0 := w1) (w1.heap.size) rfl (.tmp 25) (.tmp 28) 28 5 (.int .u8 0) 1 rfl Tryd.underlying28 info_u8 rfl (by omega) (u3) (u8s (textL xs k)) (.int .u8 (letter (nth xs k))) rfl rfl rfl hO hb hb.size (by rw [u8s_length]; omega) ?_)
            intro v3 w3 hO2 hb2 _ _
            rw [u8s_snoc] at hO2
            go_wp2_with (fail)
            go_roundw
            case rel => exact ⟨k + 1, by omega, by go_num, by rw [ht.out, if_neg hs'.out]; exact hO2, hb2⟩
            case measure => simp [intOf]; omega
          · have h1 : (0 : Int) < k := by omega
            have h2 : ((k : Int) % 6 == 0) = false := by rw [beq_eq_false_iff_ne]; omega
            clear hs h0
            go_wp2_with (at_builtin; refine app1 (w0 := w1) (w1.heap.size) rfl (.tmp 25) (.tmp 28) 28 5 (.int .u8 0) 1 rfl Tryd.underlying28 info_u8 rfl (by omega) (u3) (u8s (textL xs k)) (.int .u8 (letter (nth xs k))) rfl rfl rfl hO hb hb.size (by rw [u8s_length]; omega) ?_)
            intro v3 w3 hO2 hb2 _ _
            rw [u8s_snoc] at hO2
            go_wp2_with (fail)
            go_roundw
            case rel => exact ⟨k + 1, by omega, by go_num, by rw [ht.out, if_neg hs'.out]; exact hO2, hb2⟩
            case measure => simp [intOf]; omega
      · obtain rfl : k = 24 := by omega
        have hcv := own_string (P := Tryd.prog) Tryd.underlying28 Tryd.underlying5 Tryd.underlying9 hO
        go_wp2
        go_ret
        exact ⟨ret_s (by rw [hT.out, HV.out]; rfl), bl_call b1 hb⟩

end Go.Proofs.YtjppoejkfpeicaaDoor
