/- Contracts: CellOf and what it calls: both sides. -/
import Derived.Test.YtjppoejkfpeicaaDoorF5
set_option linter.unusedVariables false
namespace Go.Proofs.YtjppoejkfpeicaaDoor
open Go.RowKit

def Bytes (xs : List Int) : Prop := ∀ x ∈ xs, 0 ≤ x ∧ x ≤ 255
theorem Bytes.nth {xs : List Int} (h : Bytes xs) (i : Nat) : 0 ≤ nth xs i ∧ nth xs i ≤ 255 := by
  rcases Nat.lt_or_ge i xs.length with hi | hi
  · exact h _ (nth_mem xs i hi)
  · rw [nth_out xs i hi]; omega

theorem unless_any (b : Bool) (c : Int) (w : World) : Calls Tryd.prog 50 #[.bool b, .int .i64 c] w fun e w' => e = .returned (.int .i64 (if b then 0 else c)) ∧ w = w' := by
  cases b
  all_goals
    go_enter Tryd.func50, Tryd.ntmps50
    go_wp2
    go_ret
    exact ⟨rfl, rfl⟩

/-- The code of a flag and a cell. -/
def cellC (xs : List Int) (x y : Int) : Int := if vf xs then (if inR x 0 5 && inR y 0 3 then 0 else 2) else 1
def cellN (xs : List Int) (x y : Int) : Int := if vf xs && (inR x 0 5 && inR y 0 3) then nth xs (x + 6 * y).toNat else 0

set_option maxHeartbeats 800000 in
theorem cellCode_any (xs : List Int) (hx : xs.length = 24) (x y : Int) (w : World) :
    Calls Tryd.prog 49 #[fl xs, .int .i64 x, .int .i64 y] w fun e w' => e = .returned (.int .i64 (cellC xs x y)) ∧ Below w.heap.size w w' := by
  unfold fl
  have B0 := Blk.new w (u8s xs) 23
  have b0 := bl_new (Below.refl _ w) (.cells (u8s xs).toArray 23)
  have hN := As.mk (show cellC xs x y = if vf xs then (if inR x 0 5 && inR y 0 3 then 0 else 2) else 1 from rfl)
  cases h1 : vf xs
  · go_enter Tryd.func49, Tryd.ntmps49
    go_wp2_with (refine load_blk rfl 23 _ rfl _ rfl B0 Tryd.underlying23 rfl info_fl (by rw [u8s_length]; exact hx) ?_)
    refine (ValidFlag_any xs hx _).mono ?_; rintro e w1 ⟨rfl, hb1⟩
    go_wp2_with (fail)
    go_ret
    exact ⟨ret_n (by rw [hN.out, h1]; rfl), bl_call b0 hb1⟩
  · cases h2 : inR x 0 5
    · go_enter Tryd.func49, Tryd.ntmps49
      go_wp2_with (refine load_blk rfl 23 _ rfl _ rfl B0 Tryd.underlying23 rfl info_fl (by rw [u8s_length]; exact hx) ?_)
      refine (ValidFlag_any xs hx _).mono ?_; rintro e w1 ⟨rfl, hb1⟩
      go_wp2_with (first | (go_at_call 67; refine (within_any _ _ _ _).mono ?_; rintro e w' ⟨rfl, rfl⟩) | (go_at_call 50; refine (unless_any _ _ _).mono ?_; rintro e w' ⟨rfl, rfl⟩))
      go_ret
      exact ⟨ret_n (by rw [hN.out, h1, h2]; rfl), bl_call b0 hb1⟩
    · cases h3 : inR y 0 3
      all_goals
        go_enter Tryd.func49, Tryd.ntmps49
        go_wp2_with (refine load_blk rfl 23 _ rfl _ rfl B0 Tryd.underlying23 rfl info_fl (by rw [u8s_length]; exact hx) ?_)
        refine (ValidFlag_any xs hx _).mono ?_; rintro e w1 ⟨rfl, hb1⟩
        go_wp2_with (first | (go_at_call 67; refine (within_any _ _ _ _).mono ?_; rintro e w' ⟨rfl, rfl⟩) | (go_at_call 50; refine (unless_any _ _ _).mono ?_; rintro e w' ⟨rfl, rfl⟩))
        go_ret
        exact ⟨ret_n (by rw [hN.out, h1, h2, h3]; rfl), bl_call b0 hb1⟩

theorem l01Index_any (x y : Int) (hx : 0 ≤ x ∧ x ≤ 5) (hy : 0 ≤ y ∧ y ≤ 3) (w : World) : Calls Tryd.prog 61 #[.int .i64 x, .int .i64 y] w fun e w' => e = .returned (.int .i64 (x + 6 * y)) ∧ w = w' := by
  have h1 := hx.1; have h2 := hx.2; have h3 := hy.1; have h4 := hy.2
  go_enter Tryd.func61, Tryd.ntmps61
  go_wp2
  go_ret
  exact ⟨rfl, rfl⟩

set_option maxHeartbeats 800000 in
theorem CellOf_any (xs : List Int) (hx : xs.length = 24) (rx : Bytes xs) (x y : Int) (w : World) :
    Calls Tryd.prog 27 #[fl xs, .int .i64 x, .int .i64 y] w fun e w' => e = .returned (.tuple #[.int .i64 (cellN xs x y), .int .i64 (cellC xs x y)]) ∧ Below w.heap.size w w' := by
  unfold fl
  have B0 := Blk.new w (u8s xs) 23
  have b0 := bl_new (Below.refl _ w) (.cells (u8s xs).toArray 23)
  have hN := As.mk (show cellC xs x y = if vf xs then (if inR x 0 5 && inR y 0 3 then 0 else 2) else 1 from rfl)
  have hM := As.mk (show cellN xs x y = if vf xs && (inR x 0 5 && inR y 0 3) then nth xs (x + 6 * y).toNat else 0 from rfl)
  cases h1 : vf xs && (inR x 0 5 && inR y 0 3)
  · have hc : (cellC xs x y != 0) = true := by
      rw [hN.out]
      cases h2 : vf xs
      · rfl
      · rw [h2, Bool.true_and] at h1; rw [h1]; rfl
    go_enter Tryd.func27, Tryd.ntmps27
    go_wp2_with (refine load_blk rfl 23 _ rfl _ rfl B0 Tryd.underlying23 rfl info_fl (by rw [u8s_length]; exact hx) ?_)
    refine (cellCode_any xs hx x y _).mono ?_; rintro e w1 ⟨rfl, hb1⟩
    go_wp2_with (fail)
    go_ret2
    exact ⟨ret_2 (by rw [hM.out, h1]; rfl) rfl, bl_call b0 hb1⟩
  · have h2 := (Bool.and_eq_true_iff.1 h1).1
    have h2' := (Bool.and_eq_true_iff.1 h1).2
    have h3 : 0 ≤ x ∧ x ≤ 5 ∧ 0 ≤ y ∧ y ≤ 3 := by
      simp only [Bool.and_eq_true, inR_iff] at h2'; omega
    have g1 := h3.1; have g2 := h3.2.1; have g3 := h3.2.2.1; have g4 := h3.2.2.2
    have hc : cellC xs x y = 0 := by rw [hN.out, h2, h2']; rfl
    have n1 := (rx.nth (x + 6 * y).toNat).1
    have n2 := (rx.nth (x + 6 * y).toNat).2
    clear h3 h2 h2'
    go_enter Tryd.func27, Tryd.ntmps27
    go_wp2_with (refine load_blk rfl 23 _ rfl _ rfl B0 Tryd.underlying23 rfl info_fl (by rw [u8s_length]; exact hx) ?_)
    refine (cellCode_any xs hx x y _).mono ?_; rintro e w1 ⟨rfl, hb1⟩
    have c0 : w1.cell? ⟨w.heap.size, (x + 6 * y).toNat, none⟩ = some (.int .u8 (nth xs (x + 6 * y).toNat)) := by rw [(B0.kept hb1).at, u8s_get xs _ (by omega)]
    go_wp2_with (fail)
    go_ret2
    exact ⟨ret_2 (by rw [hM.out, h1]; rfl) (by rw [hc]), bl_call b0 hb1⟩
end Go.Proofs.YtjppoejkfpeicaaDoor
