/- Contracts: impl.CountColours; two rows of counts compared. -/
import Derived.Test.YtjppoejkfpeicaaDoorF14
import Derived.Test.YtjppoejkfpeicaaDoorF2
import Derived.Test.YtjppoejkfpeicaaDoorIdx
set_option linter.unusedVariables false
namespace Go.Proofs.YtjppoejkfpeicaaDoor
open Go.RowKit

set_option maxHeartbeats 1000000 in
theorem CountColours_any (xs : List Int) (hx : xs.length = 24) (rx : Bytes xs) (w : World) :
    Calls Tryd.prog 15 #[fl xs] w fun e w' => e = .returned (.tuple #[.agg (i64s (ok6 (vf xs) (countL xs 24))).toArray, .int .i64 (codeV (vf xs))]) ∧ Below w.heap.size w w' := by
  unfold fl
  have W0 : Blk (((w.alloc (.cells (u8s xs).toArray 23)).alloc (.cells #[.int .i64 0, .int .i64 0, .int .i64 0, .int .i64 0, .int .i64 0, .int .i64 0] 33)).alloc (.cells #[.int .i64 0, .int .i64 0, .int .i64 0, .int .i64 0, .int .i64 0, .int .i64 0] 33)) w.heap.size (u8s xs) 23 := ((Blk.new _ _ _).alloc _).alloc _
  have W1 : Blk (((w.alloc (.cells (u8s xs).toArray 23)).alloc (.cells #[.int .i64 0, .int .i64 0, .int .i64 0, .int .i64 0, .int .i64 0, .int .i64 0] 33)).alloc (.cells #[.int .i64 0, .int .i64 0, .int .i64 0, .int .i64 0, .int .i64 0, .int .i64 0] 33)) (w.heap.size + 1) (i64s zero6) 33 := (Blk.mk _ (i64s zero6) _ (by simp)).alloc _
  have W2 : Blk (((w.alloc (.cells (u8s xs).toArray 23)).alloc (.cells #[.int .i64 0, .int .i64 0, .int .i64 0, .int .i64 0, .int .i64 0, .int .i64 0] 33)).alloc (.cells #[.int .i64 0, .int .i64 0, .int .i64 0, .int .i64 0, .int .i64 0, .int .i64 0] 33)) (w.heap.size + 1 + 1) (i64s zero6) 33 := Blk.mk _ (i64s zero6) _ (by simp)
  have b0 : Below w.heap.size w (((w.alloc (.cells (u8s xs).toArray 23)).alloc (.cells #[.int .i64 0, .int .i64 0, .int .i64 0, .int .i64 0, .int .i64 0, .int .i64 0] 33)).alloc (.cells #[.int .i64 0, .int .i64 0, .int .i64 0, .int .i64 0, .int .i64 0, .int .i64 0] 33)) := bl_new (bl_new (bl_new (Below.refl _ _) _) _) _
  have V0 := W0.farRow (g := w.heap.size + 1 + 1) (by omega) (i64s zero6).toArray
  have V1 := W1.farRow (g := w.heap.size + 1 + 1) (by omega) (i64s zero6).toArray
  have V2 := W2.setRow (i64s zero6)
  have d0 := bl_setRow b0 (g := w.heap.size + 1 + 1) (by omega) (i64s zero6).toArray
  cases h1 : vf xs
  · go_enter Tryd.func15, Tryd.ntmps15
    go_wp2_with (first | (refine store_blk rfl 33 _ _ rfl _ rfl (ds := i64s zero6) rfl W2 info_6 (by rw [i64s_length]; exact rfl) (by rw [i64s_length]; exact rfl) (i64s_one _) ?_) | (refine load_blk rfl 23 _ rfl _ rfl V0 Tryd.underlying23 rfl info_fl (by rw [u8s_length]; exact hx) ?_))
    refine (ValidFlag_any xs hx _).mono ?_; rintro e w1 ⟨rfl, hb1⟩
    have Y1 := V1.kept hb1
    have Y2 := V2.kept hb1
    go_wp2_with (first | (refine load_blk rfl 33 _ rfl _ rfl Y2 Tryd.underlying33 rfl info_6 (by rw [i64s_length]; exact rfl) ?_) | (refine store_blk rfl 33 _ _ rfl _ rfl (ds := i64s zero6) rfl Y1 info_6 (by rw [i64s_length]; exact rfl) (by rw [i64s_length]; exact rfl) (i64s_one _) ?_))
    refine ret_blk_tmp rfl _ rfl (Y1.setRow _) Tryd.underlying33 rfl info_6 (by rfl) rfl ⟨rfl, bl_setRow (bl_call d0 hb1) (by omega) _⟩
  · go_enter Tryd.func15, Tryd.ntmps15
    go_wp2_with (first | (refine store_blk rfl 33 _ _ rfl _ rfl (ds := i64s zero6) rfl W2 info_6 (by rw [i64s_length]; exact rfl) (by rw [i64s_length]; exact rfl) (i64s_one _) ?_) | (refine load_blk rfl 23 _ rfl _ rfl V0 Tryd.underlying23 rfl info_fl (by rw [u8s_length]; exact hx) ?_))
    refine (ValidFlag_any xs hx _).mono ?_; rintro e w1 ⟨rfl, hb1⟩
    have Y0 := V0.kept hb1
    have Y1 := V1.kept hb1
    have Y2 := V2.kept hb1
    have e0 := bl_call d0 hb1
    go_wp2_with (refine load_blk rfl 23 _ rfl _ rfl Y0 Tryd.underlying23 rfl info_fl (by rw [u8s_length]; exact hx) ?_)
    go_loopw [13] (fun i wr => ∃ k : Nat, k ≤ 24 ∧ i = .int .i64 k ∧ Blk wr w.heap.size (u8s xs) 23 ∧ Blk wr (w.heap.size + 1) (i64s zero6) 33 ∧ Blk wr (w.heap.size + 1 + 1) (i64s (countL xs k)) 33 ∧ Below w.heap.size w wr) (fun i _ => 24 - (intOf i).toNat)
    case atStart => exact ⟨0, by omega, rfl, Y0, Y1, Y2, e0⟩
    case round =>
      obtain ⟨k, hk, rfl, X0, X1, X2, hb⟩ := hrel
      by_cases hlt : k < 24
      · have hlt' : (k : Int) < 24 := by omega
        have n1 := (rx.nth k).1
        have n2 : nth xs k ≤ 5 := vf_nth h1 k (by omega)
        obtain ⟨c, hc⟩ := Int.eq_ofNat_of_zero_le n1
        have hc6 : c < 6 := by omega
        have hbd := cnt_bd xs k c
        have hst := As.mk (countL_step xs k c hc)
        have c0 : ∀ W, (Instr.index 23 (.agg (u8s xs).toArray) (.int .i64 (k : Int))).run Tryd.prog W = .ok (.int .u8 c) W := fun W => by rw [index_fl xs hx k hlt W, hc]
        have c2 : wr.cell? ⟨w.heap.size + 1 + 1, c, none⟩ = some (.int .i64 (cnt xs k c)) := by rw [X2.at, i64s_get _ c (by rw [countL_length]; exact hc6), countL_nth xs k c hc6]
        have f2 := X2.frozen c
        have hc6' : (c : Int) < 6 := by omega
        clear n1 n2 hc
        go_wp2
        go_roundw
        case rel => exact ⟨k + 1, by omega, by go_num, X0.far (by simp; omega) _, X1.far (by simp) _, by have := X2.set c (.int .i64 (cnt xs k c + 1)); rw [i64s_set, hst.out] at this; exact this, hb.setCell (by simp; omega) _⟩
        case measure => simp [intOf]; omega
      · obtain rfl : k = 24 := by omega
        have hl := countL_length xs 24
        go_wp2_with (first | (refine load_blk rfl 33 _ rfl _ rfl X2 Tryd.underlying33 rfl info_6 (by rw [i64s_length]; exact hl) ?_) | (refine store_blk rfl 33 _ _ rfl _ rfl (ds := i64s (countL xs 24)) rfl X1 info_6 (by rw [i64s_length]; exact hl) (by rw [i64s_length]; exact rfl) (i64s_one _) ?_))
        refine ret_blk_tmp rfl _ rfl (X1.setRow _) Tryd.underlying33 rfl info_6 (by rw [i64s_length]; exact hl) rfl ⟨rfl, bl_setRow hb (by omega) _⟩

end Go.Proofs.YtjppoejkfpeicaaDoor
