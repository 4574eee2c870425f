/- Contracts: impl.CountColours; two rows of counts compared. -/
import Derived.Test.YtlgpelcnhdalpaaF14
import Derived.Test.YtlgpelcnhdalpaaF2
set_option linter.unusedVariables false
namespace Go.Proofs.Ytlgpelcnhdalpaa
open Go.RowKit

/-- An array of one-cell elements, by value, at an index that is in it. -/
theorem run_index_in {P : Program} {t e : TypeId} {n : Nat} {cs : List Value} (h : P.underlying t = some (.array n e)) (ha : (P.info? e).map (·.size) = some 1) (hag : ∀ w, (isAgg e).run P w = .ok false w) (hn : cs.length = n)
    (k : Nat) (hk : k < n) (kd : IntKind) (w : World) : (Instr.index t (.agg cs.toArray) (.int kd (k : Int))).run P w = .ok (cs.getD k undef) w := by
  have h1 : (0 : Int) ≤ (k : Int) ∧ (k : Int) < (n : Int) := by omega
  have hs : (sizeOf e).run P w = .ok 1 w := by
    cases hq : P.info? e with
    | none => simp [hq] at ha
    | some i => simp [hq] at ha; simp [sizeOf, typeInfo, hq, ha]
  simp only [Instr.index, asIntOf, Sem.run_bind, Sem.run_pure, Result.andThen_ok, run_underlying h, if_pos h1, hs]
  have hl : k < cs.length := by omega
  simp [Go.part, hag, List.getD_eq_getElem?_getD, List.getElem?_eq_getElem hl]

theorem index_fl (xs : List Int) (hx : xs.length = 24) (k : Nat) (hk : k < 24) (w : World) : (Instr.index 27 (.agg (u8s xs).toArray) (.int .i64 (k : Int))).run Try.prog w = .ok (.int .u8 (nth xs k)) w := by
  rw [run_index_in Try.underlying27 (by kernel_rfl) (fun w => Try.isAgg5 w) (by rw [u8s_length]; exact hx) k hk]
  rw [List.getD_eq_getElem?_getD, u8s_get xs k (by omega)]; rfl
set_option maxHeartbeats 1000000 in
theorem CountColours_any (xs : List Int) (hx : xs.length = 24) (rx : Bytes xs) (w : World) :
    Calls Try.prog 27 #[fl xs] w fun e w' => e = .returned (.tuple #[.agg (i64s (ok6 (vf xs) (countL xs 24))).toArray, .int .i64 (codeV (vf xs))]) ∧ Below w.heap.size w w' := by
  unfold fl
  have W0 : Blk (((w.alloc (.cells (u8s xs).toArray 27)).alloc (.cells #[.int .i64 0, .int .i64 0, .int .i64 0, .int .i64 0, .int .i64 0, .int .i64 0] 35)).alloc (.cells #[.int .i64 0, .int .i64 0, .int .i64 0, .int .i64 0, .int .i64 0, .int .i64 0] 35)) w.heap.size (u8s xs) 27 := ((Blk.new _ _ _).alloc _).alloc _
  have W1 : Blk (((w.alloc (.cells (u8s xs).toArray 27)).alloc (.cells #[.int .i64 0, .int .i64 0, .int .i64 0, .int .i64 0, .int .i64 0, .int .i64 0] 35)).alloc (.cells #[.int .i64 0, .int .i64 0, .int .i64 0, .int .i64 0, .int .i64 0, .int .i64 0] 35)) (w.heap.size + 1) (i64s zero6) 35 := (Blk.mk _ (i64s zero6) _ (by simp)).alloc _
  have W2 : Blk (((w.alloc (.cells (u8s xs).toArray 27)).alloc (.cells #[.int .i64 0, .int .i64 0, .int .i64 0, .int .i64 0, .int .i64 0, .int .i64 0] 35)).alloc (.cells #[.int .i64 0, .int .i64 0, .int .i64 0, .int .i64 0, .int .i64 0, .int .i64 0] 35)) (w.heap.size + 1 + 1) (i64s zero6) 35 := Blk.mk _ (i64s zero6) _ (by simp)
  have b0 : Below w.heap.size w (((w.alloc (.cells (u8s xs).toArray 27)).alloc (.cells #[.int .i64 0, .int .i64 0, .int .i64 0, .int .i64 0, .int .i64 0, .int .i64 0] 35)).alloc (.cells #[.int .i64 0, .int .i64 0, .int .i64 0, .int .i64 0, .int .i64 0, .int .i64 0] 35)) := bl_new (bl_new (bl_new (Below.refl _ _) _) _) _
  have V0 := W0.farRow (g := w.heap.size + 1 + 1) (by omega) (i64s zero6).toArray
  have V1 := W1.farRow (g := w.heap.size + 1 + 1) (by omega) (i64s zero6).toArray
  have V2 := W2.setRow (i64s zero6)
  have d0 := bl_setRow b0 (g := w.heap.size + 1 + 1) (by omega) (i64s zero6).toArray
  cases h1 : vf xs
  · go_enter Try.func27, Try.ntmps27
    go_wp2_with (first | (refine store_blk rfl 35 _ _ rfl _ rfl (ds := i64s zero6) rfl W2 info_6 (by rw [i64s_length]; exact rfl) (by rw [i64s_length]; exact rfl) (i64s_one _) ?_) | (refine load_blk rfl 27 _ rfl _ rfl V0 Try.underlying27 rfl info_fl (by rw [u8s_length]; exact hx) ?_))
    refine (ValidFlag_any xs hx _).mono ?_; rintro e w1 ⟨rfl, hb1⟩
    have Y1 := V1.kept hb1
    have Y2 := V2.kept hb1
    go_wp2_with (first | (refine load_blk rfl 35 _ rfl _ rfl Y2 Try.underlying35 rfl info_6 (by rw [i64s_length]; exact rfl) ?_) | (refine store_blk rfl 35 _ _ rfl _ rfl (ds := i64s zero6) rfl Y1 info_6 (by rw [i64s_length]; exact rfl) (by rw [i64s_length]; exact rfl) (i64s_one _) ?_))
    refine ret_blk_tmp rfl _ rfl (Y1.setRow _) Try.underlying35 rfl info_6 (by rfl) rfl ⟨rfl, bl_setRow (bl_call d0 hb1) (by omega) _⟩
  · go_enter Try.func27, Try.ntmps27
    go_wp2_with (first | (refine store_blk rfl 35 _ _ rfl _ rfl (ds := i64s zero6) rfl W2 info_6 (by rw [i64s_length]; exact rfl) (by rw [i64s_length]; exact rfl) (i64s_one _) ?_) | (refine load_blk rfl 27 _ rfl _ rfl V0 Try.underlying27 rfl info_fl (by rw [u8s_length]; exact hx) ?_))
    refine (ValidFlag_any xs hx _).mono ?_; rintro e w1 ⟨rfl, hb1⟩
    have Y0 := V0.kept hb1
    have Y1 := V1.kept hb1
    have Y2 := V2.kept hb1
    have e0 := bl_call d0 hb1
    go_wp2_with (refine load_blk rfl 27 _ rfl _ rfl Y0 Try.underlying27 rfl info_fl (by rw [u8s_length]; exact hx) ?_)
    go_loopw [13] (fun i wr => ∃ k : Nat, k ≤ 24 ∧ i = .int .i64 k ∧ Blk wr w.heap.size (u8s xs) 27 ∧ Blk wr (w.heap.size + 1) (i64s zero6) 35 ∧ Blk wr (w.heap.size + 1 + 1) (i64s (countL xs k)) 35 ∧ Below w.heap.size w wr) (fun i _ => 24 - (intOf i).toNat)
    case atStart => exact ⟨0, by omega, rfl, Y0, Y1, Y2, e0⟩
    case round =>
      obtain ⟨k, hk, rfl, X0, X1, X2, hb⟩ := hrel
      by_cases hlt : k < 24
      · have hlt' : (k : Int) < 24 := by omega
        have n1 := (rx.nth k).1
        have n2 : nth xs k ≤ 5 := vf_nth h1 k (by omega)
        obtain ⟨c, hc⟩ := Int.eq_ofNat_of_zero_le n1
        have hc6 : c < 6 := by omega
        have hbd := cnt_bd xs k c
        have hst := As.mk (countL_step xs k c hc)
        have c0 : ∀ W, (Instr.index 27 (.agg (u8s xs).toArray) (.int .i64 (k : Int))).run Try.prog W = .ok (.int .u8 c) W := fun W => by rw [index_fl xs hx k hlt W, hc]
        have c2 : wr.cell? ⟨w.heap.size + 1 + 1, c, none⟩ = some (.int .i64 (cnt xs k c)) := by rw [X2.at, i64s_get _ c (by rw [countL_length]; exact hc6), countL_nth xs k c hc6]
        have f2 := X2.frozen c
        have hc6' : (c : Int) < 6 := by omega
        clear n1 n2 hc
        go_wp2
        go_roundw
        case rel => exact ⟨k + 1, by omega, by go_num, X0.far (by simp; omega) _, X1.far (by simp) _, by have := X2.set c (.int .i64 (cnt xs k c + 1)); rw [i64s_set, hst.out] at this; exact this, hb.setCell (by simp; omega) _⟩
        case measure => simp [intOf]; omega
      · obtain rfl : k = 24 := by omega
        have hl := countL_length xs 24
        go_wp2_with (first | (refine load_blk rfl 35 _ rfl _ rfl X2 Try.underlying35 rfl info_6 (by rw [i64s_length]; exact hl) ?_) | (refine store_blk rfl 35 _ _ rfl _ rfl (ds := i64s (countL xs 24)) rfl X1 info_6 (by rw [i64s_length]; exact hl) (by rw [i64s_length]; exact rfl) (i64s_one _) ?_))
        refine ret_blk_tmp rfl _ rfl (X1.setRow _) Try.underlying35 rfl info_6 (by rw [i64s_length]; exact hl) rfl ⟨rfl, bl_setRow hb (by omega) _⟩

set_option maxHeartbeats 400000 in
theorem eqInt64A6_same (xs : List Int) (hx : xs.length = 6) (w : World) :
    Calls Try.prog 28 #[.agg (i64s xs).toArray, .agg (i64s xs).toArray] w fun e w' => e = .returned (.bool true) ∧ Below w.heap.size w w' := by
  go_enter Try.func28, Try.ntmps28
  go_wp2
  go_loopw [5] (fun i wr => ∃ k q : Nat, k ≤ 6 ∧ i = .int .i64 k ∧ wr = ((w.alloc (.cells (i64s xs).toArray 35)).alloc (.cells (i64s xs).toArray 35)).drewN q) (fun i _ => 6 - (intOf i).toNat)
  case atStart => exact ⟨0, 0, by omega, rfl, rfl⟩
  case round =>
    obtain ⟨k, q, hk, rfl, rfl⟩ := hrel
    have B0 : Blk ((w.alloc (.cells (i64s xs).toArray 35)).alloc (.cells (i64s xs).toArray 35)) w.heap.size (i64s xs) 35 := (Blk.new _ _ _).alloc _
    have B1 : Blk ((w.alloc (.cells (i64s xs).toArray 35)).alloc (.cells (i64s xs).toArray 35)) (w.heap.size + 1) (i64s xs) 35 := Blk.mk _ _ _ (by simp)
    have b0 := bl_new (bl_new (Below.refl _ w) (.cells (i64s xs).toArray 35)) (.cells (i64s xs).toArray 35)
    generalize (w.alloc (.cells (i64s xs).toArray 35)).alloc (.cells (i64s xs).toArray 35) = W at *
    by_cases hlt : k < 6
    · have hlt' : (k : Int) < 6 := by omega
      have c0 : W.cell? ⟨w.heap.size, k, none⟩ = some (.int .i64 (nth xs k)) := by rw [B0.at, i64s_get xs k (by omega)]
      have c1 : W.cell? ⟨w.heap.size + 1, k, none⟩ = some (.int .i64 (nth xs k)) := by rw [B1.at, i64s_get xs k (by omega)]
      go_wp2
      go_quiet (fail)
      go_wp2
      go_roundw
      case rel => exact ⟨k + 1, _, by omega, by go_num, rfl⟩
      case measure => simp [intOf]; omega
    · obtain rfl : k = 6 := by omega
      go_wp2
      go_ret
      exact ⟨rfl, bl_drewN b0 _⟩
end Go.Proofs.Ytlgpelcnhdalpaa
