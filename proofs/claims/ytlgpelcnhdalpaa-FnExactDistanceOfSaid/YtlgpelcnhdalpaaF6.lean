/- Contracts: impl.DistanceOf. -/
import Derived.Test.YtlgpelcnhdalpaaF5
set_option linter.unusedVariables false
namespace Go.Proofs.Ytlgpelcnhdalpaa
open Go.RowKit

set_option maxHeartbeats 800000 in
theorem DistanceOf_any (xs ys : List Int) (hx : xs.length = 24) (hy : ys.length = 24) (w : World) :
    Calls Try.prog 30 #[fl xs, fl ys] w fun e w' => e = .returned (.tuple #[.int .i64 (distN xs ys), .int .i64 (codeV (vf xs && vf ys))]) ∧ Below w.heap.size w w' := by
  unfold fl
  have B0 : Blk ((w.alloc (.cells (u8s xs).toArray 27)).alloc (.cells (u8s ys).toArray 27)) w.heap.size (u8s xs) 27 := (Blk.new _ _ _).alloc _
  have B1 : Blk ((w.alloc (.cells (u8s xs).toArray 27)).alloc (.cells (u8s ys).toArray 27)) (w.heap.size + 1) (u8s ys) 27 := Blk.mk _ _ _ (by simp)
  have b0 := bl_new (bl_new (Below.refl _ w) (.cells (u8s xs).toArray 27)) (.cells (u8s ys).toArray 27)
  have hU := fun (W : World) (c c' : Nat) h h' => unlike_any xs ys (by rw [hx, hy]) (by omega) w.heap.size 0 c (w.heap.size + 1) 0 c' W h h'
  rw [hx] at hU
  cases h1 : vf xs
  · have hN := As.mk (show distN xs ys = if vf xs && vf ys then diffs xs ys 24 else 0 from rfl)
    go_enter Try.func30, Try.ntmps30
    go_wp2_with (refine load_blk rfl 27 _ rfl _ rfl B0 Try.underlying27 rfl info_fl (by rw [u8s_length]; exact hx) ?_)
    refine (ValidFlag_any xs hx _).mono ?_; rintro e w1 ⟨rfl, hb1⟩
    go_wp2_with (fail)
    go_ret2
    exact ⟨ret_2 (by rw [hN.out, h1]; rfl) rfl, bl_call b0 hb1⟩
  · cases h2 : vf ys
    · have hN := As.mk (show distN xs ys = if vf xs && vf ys then diffs xs ys 24 else 0 from rfl)
      go_enter Try.func30, Try.ntmps30
      go_wp2_with (refine load_blk rfl 27 _ rfl _ rfl B0 Try.underlying27 rfl info_fl (by rw [u8s_length]; exact hx) ?_)
      refine (ValidFlag_any xs hx _).mono ?_; rintro e w1 ⟨rfl, hb1⟩
      have B1' := B1.kept hb1
      go_wp2_with (refine load_blk rfl 27 _ rfl _ rfl B1' Try.underlying27 rfl info_fl (by rw [u8s_length]; exact hy) ?_)
      refine (ValidFlag_any ys hy _).mono ?_; rintro e w2 ⟨rfl, hb2⟩
      go_wp2_with (fail)
      go_ret2
      exact ⟨ret_2 (by rw [hN.out, h1, h2]; rfl) rfl, bl_call (bl_call b0 hb1) hb2⟩
    · have hN := As.mk (show distN xs ys = if vf xs && vf ys then diffs xs ys 24 else 0 from rfl)
      go_enter Try.func30, Try.ntmps30
      go_wp2_with (refine load_blk rfl 27 _ rfl _ rfl B0 Try.underlying27 rfl info_fl (by rw [u8s_length]; exact hx) ?_)
      refine (ValidFlag_any xs hx _).mono ?_; rintro e w1 ⟨rfl, hb1⟩
      have B1' := B1.kept hb1
      go_wp2_with (refine load_blk rfl 27 _ rfl _ rfl B1' Try.underlying27 rfl info_fl (by rw [u8s_length]; exact hy) ?_)
      refine (ValidFlag_any ys hy _).mono ?_; rintro e w2 ⟨rfl, hb2⟩
      have R0 := ((B0.kept hb1).kept hb2).range
      have R1 := (B1'.kept hb2).range
      go_wp2_with (fail)
      go_quiet ((go_at_call 53; exact Calls.quiet_of_same (hU _ _ _ R0 R1)))
      go_wp2
      go_ret2
      exact ⟨ret_2 (by rw [hN.out, h1, h2]; rfl) rfl, bl_drewN (bl_call (bl_call b0 hb1) hb2) _⟩
end Go.Proofs.Ytlgpelcnhdalpaa
