/- Contracts: DistanceOf: both sides. -/
import Derived.Test.YtjppoejkfpeicaaDoorF4
set_option linter.unusedVariables false
namespace Go.Proofs.YtjppoejkfpeicaaDoor
open Go.RowKit

/-- The code of valid flags: 0, or 1. -/
def codeV (b : Bool) : Int := if b then 0 else 1
/-- What DistanceOf answers. -/
def distN (xs ys : List Int) : Int := if vf xs && vf ys then diffs xs ys 24 else 0
def ret2 (a b : Value) : Value := .tuple #[a, b]
theorem ret_2 {k k' : IntKind} {a b a' b' : Int} (h : a = a') (h' : b = b') : Ending.returned (.tuple #[.int k a, .int k' b]) = .returned (.tuple #[.int k a', .int k' b']) := by rw [h, h']

set_option maxHeartbeats 800000 in
theorem sDistanceOf_any (xs ys : List Int) (hx : xs.length = 24) (hy : ys.length = 24) (w : World) :
    Calls Tryd.prog 18 #[fl xs, fl ys] w fun e w' => e = .returned (.tuple #[.int .i64 (distN xs ys), .int .i64 (codeV (vf xs && vf ys))]) ∧ Below w.heap.size w w' := by
  unfold fl
  have B0 : Blk ((w.alloc (.cells (u8s xs).toArray 23)).alloc (.cells (u8s ys).toArray 23)) w.heap.size (u8s xs) 23 := (Blk.new _ _ _).alloc _
  have B1 : Blk ((w.alloc (.cells (u8s xs).toArray 23)).alloc (.cells (u8s ys).toArray 23)) (w.heap.size + 1) (u8s ys) 23 := Blk.mk _ _ _ (by simp)
  have b0 := bl_new (bl_new (Below.refl _ w) (.cells (u8s xs).toArray 23)) (.cells (u8s ys).toArray 23)
  cases h1 : vf xs <;> cases h2 : vf ys
  all_goals
    have hN := As.mk (show distN xs ys = if vf xs && vf ys then diffs xs ys 24 else 0 from rfl)
    go_enter Tryd.func18, Tryd.ntmps18
    go_wp2_with (first | (go_at_call_of 35 (Value.pointer (some ⟨w.heap.size, 0, none⟩)); refine (l01Ok_any xs hx _ 0 _ B0.range).mono ?_; rintro e w' ⟨rfl, rfl⟩) | (go_at_call 35; refine (l01Ok_any ys hy _ 0 _ B1.range).mono ?_; rintro e w' ⟨rfl, rfl⟩) | (go_at_call 42; refine (l01Distance_any xs ys hx hy _ 0 _ 0 _ B0.range B1.range).mono ?_; rintro e w' ⟨rfl, hb⟩))
    go_ret2
    exact ⟨ret_2 (by rw [hN.out, h1, h2]; rfl) rfl, by first | exact b0 | exact bl_call b0 hb⟩
end Go.Proofs.YtjppoejkfpeicaaDoor
