/- Walk: the law of ReadFlag. -/
import Derived.Test.YtjppoejkfpeicaaDoorRi
import Derived.Test.YtjppoejkfpeicaaDoorF8
set_option linter.unusedVariables false
set_option linter.unusedSimpArgs false
namespace Go.Proofs.YtjppoejkfpeicaaDoor
open Go.RowKit

theorem rdL_length (L : List UInt8) : (rdL L).length = 24 := by
  unfold rdL
  cases h : readF L with
  | none => rfl
  | some xs => exact ((readF_iff L xs).1 h).2.1

set_option maxHeartbeats 2000000 in
theorem walk_FnExactReadFlag (s : ByteArray) (ws : s.size ≤ maxLen) (w : World) (m : Int) (hm : w.cell? ⟨0, 0, none⟩ = some (.int .i64 m)) :
    Calls Tryd.prog 3 #[.string s] w fun e w' => e = .returned (.bool true) ∧ Below w.heap.size w w' := by
  by_cases h1 : s.size ≤ 1048576
  · have h1' : ¬ ((1048576 : Int) < ((s.size : Nat) : Int)) := by omega
    have hl := rdL_length s.data.toList
    have k1 := fun W => sReadFlag_any s h1 W
    have k2 := fun W h => ReadFlag_any s h1 W m h
    generalize rdL s.data.toList = ys at *
    generalize rdC s.data.toList = cc at *
    go_enter Tryd.func3, Tryd.ntmps3
    go_wp2_with (fail)
    refine (k1 _).mono ?_; rintro e w1 ⟨rfl, hb1⟩
    have C1 : Blk (w1.alloc (.cells #[.int .u8 0, .int .u8 0, .int .u8 0, .int .u8 0, .int .u8 0, .int .u8 0, .int .u8 0, .int .u8 0, .int .u8 0, .int .u8 0, .int .u8 0, .int .u8 0, .int .u8 0, .int .u8 0, .int .u8 0, .int .u8 0, .int .u8 0, .int .u8 0, .int .u8 0, .int .u8 0, .int .u8 0, .int .u8 0, .int .u8 0, .int .u8 0] 23)) w1.heap.size (u8s zero24) 23 := Blk.mk _ (u8s zero24) _ rfl
    have C2 := C1.setRow (u8s ys)
    have b1 := bl_setRow (bl_new hb1 (.cells #[.int .u8 0, .int .u8 0, .int .u8 0, .int .u8 0, .int .u8 0, .int .u8 0, .int .u8 0, .int .u8 0, .int .u8 0, .int .u8 0, .int .u8 0, .int .u8 0, .int .u8 0, .int .u8 0, .int .u8 0, .int .u8 0, .int .u8 0, .int .u8 0, .int .u8 0, .int .u8 0, .int .u8 0, .int .u8 0, .int .u8 0, .int .u8 0] 23)) hb1.size (u8s ys).toArray
    have hm2 := (b1.cell (World.block_lt_of_cell? w _ hm)).trans hm
    clear hb1
    unfold fl
    go_wp2_with (refine store_blk rfl 23 _ _ rfl _ rfl rfl C1 info_fl (by rw [u8s_length]; exact hl) (by rw [u8s_length]; exact zero24_length) (u8s_one _) ?_)
    refine (k2 _ hm2).mono ?_; rintro e w2 ⟨rfl, hb2⟩
    have C3 := C2.kept hb2
    have b2 := bl_call b1 hb2
    have D1 : Blk (w2.alloc (.cells #[.int .u8 0, .int .u8 0, .int .u8 0, .int .u8 0, .int .u8 0, .int .u8 0, .int .u8 0, .int .u8 0, .int .u8 0, .int .u8 0, .int .u8 0, .int .u8 0, .int .u8 0, .int .u8 0, .int .u8 0, .int .u8 0, .int .u8 0, .int .u8 0, .int .u8 0, .int .u8 0, .int .u8 0, .int .u8 0, .int .u8 0, .int .u8 0] 23)) w2.heap.size (u8s zero24) 23 := Blk.mk _ (u8s zero24) _ rfl
    have D2 := D1.setRow (u8s ys)
    have A2 : Blk ((w2.alloc (.cells #[.int .u8 0, .int .u8 0, .int .u8 0, .int .u8 0, .int .u8 0, .int .u8 0, .int .u8 0, .int .u8 0, .int .u8 0, .int .u8 0, .int .u8 0, .int .u8 0, .int .u8 0, .int .u8 0, .int .u8 0, .int .u8 0, .int .u8 0, .int .u8 0, .int .u8 0, .int .u8 0, .int .u8 0, .int .u8 0, .int .u8 0, .int .u8 0] 23)).setRow w2.heap.size (u8s ys).toArray) w1.heap.size (u8s ys) 23 := (C3.alloc _).farRow (Nat.ne_of_lt C3.lt) _
    have b3 := bl_setRow (bl_new b2 (.cells #[.int .u8 0, .int .u8 0, .int .u8 0, .int .u8 0, .int .u8 0, .int .u8 0, .int .u8 0, .int .u8 0, .int .u8 0, .int .u8 0, .int .u8 0, .int .u8 0, .int .u8 0, .int .u8 0, .int .u8 0, .int .u8 0, .int .u8 0, .int .u8 0, .int .u8 0, .int .u8 0, .int .u8 0, .int .u8 0, .int .u8 0, .int .u8 0] 23)) b2.size (u8s ys).toArray
    clear hb2 b1 C1 C2 hm2
    unfold fl
    go_wp2_with (first | (refine store_blk rfl 23 _ _ rfl _ rfl rfl D1 info_fl (by rw [u8s_length]; exact hl) (by rw [u8s_length]; exact zero24_length) (u8s_one _) ?_) | (refine load_blk rfl 23 _ rfl _ rfl D2 Tryd.underlying23 rfl info_fl (by rw [u8s_length]; exact hl) ?_) | (refine load_blk rfl 23 _ rfl _ rfl A2 Tryd.underlying23 rfl info_fl (by rw [u8s_length]; exact hl) ?_))
    refine (eqFlag_same _ hl _).mono ?_; rintro e w3 ⟨rfl, hb3⟩
    go_wp2_with (fail)
    go_ret
    exact ⟨rfl, bl_call b3 hb3⟩
  · have h1' : (1048576 : Int) < ((s.size : Nat) : Int) := by omega
    go_enter Tryd.func3, Tryd.ntmps3
    go_wp2
    go_ret
    exact ⟨rfl, Below.refl _ _⟩
end Go.Proofs.YtjppoejkfpeicaaDoor
