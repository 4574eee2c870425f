/- Contracts: CountColours: both sides. -/
import Derived.Test.YtlgpelcnhdalpaaF8
import Derived.Test.YtlgpelcnhdalpaaF7
set_option linter.unusedVariables false
namespace Go.Proofs.Ytlgpelcnhdalpaa
open Go.RowKit

theorem info_6 : (Try.prog.info? 35).map (·.size) = some 6 := by kernel_rfl
def zero6 : List Int := List.replicate 6 0
/-- How many of the first k cells are of colour c. -/
def cnt (xs : List Int) (k c : Nat) : Int := ((List.range k).countP fun i => nth xs i == (c : Int) : Nat)
def countL (xs : List Int) (k : Nat) : List Int := (List.range 6).map (cnt xs k)
theorem countL_length (xs : List Int) (k : Nat) : (countL xs k).length = 6 := by simp [countL]
theorem countL_zero (xs : List Int) : countL xs 0 = zero6 := rfl
theorem cnt_bd (xs : List Int) (k c : Nat) : 0 ≤ cnt xs k c ∧ cnt xs k c ≤ k := by
  unfold cnt
  have := List.countP_le_length (p := fun i => nth xs i == (c : Int)) (l := List.range k)
  rw [List.length_range] at this
  omega
theorem cnt_succ (xs : List Int) (k c : Nat) : cnt xs (k + 1) c = cnt xs k c + if nth xs k == (c : Int) then 1 else 0 := by
  unfold cnt
  rw [List.range_succ, List.countP_append, List.countP_singleton]
  split <;> simp
theorem countL_nth (xs : List Int) (k c : Nat) (h : c < 6) : nth (countL xs k) c = cnt xs k c := nth_map_range _ _ _ h
theorem countL_step (xs : List Int) (k c : Nat) (h : nth xs k = (c : Int)) : (countL xs k).set c (cnt xs k c + 1) = countL xs (k + 1) := by
  apply List.ext_getElem
  · simp [countL]
  · intro i h1 h2
    simp only [List.getElem_set, countL, List.getElem_map, List.getElem_range, cnt_succ, h]
    by_cases e : c = i
    · subst e; simp
    · rw [if_neg e, if_neg (by simp; omega)]; simp
theorem vf_nth {xs : List Int} (h : vf xs = true) (k : Nat) (hk : k < xs.length) : nth xs k ≤ 5 := by
  unfold vf at h; rw [List.all_eq_true] at h
  simpa using h _ (nth_mem xs k hk)

/-- What CountColours hands back. -/
def ok6 (b : Bool) (ys : List Int) : List Int := if b then ys else zero6
theorem ok6_length {b : Bool} {ys : List Int} (h : ys.length = 6) : (ok6 b ys).length = 6 := by cases b; rfl; exact h

set_option maxHeartbeats 1000000 in
theorem sCountColours_any (xs : List Int) (hx : xs.length = 24) (rx : Bytes xs) (w : World) :
    Calls Try.prog 26 #[fl xs] w fun e w' => e = .returned (.tuple #[.agg (i64s (ok6 (vf xs) (countL xs 24))).toArray, .int .i64 (codeV (vf xs))]) ∧ Below w.heap.size w w' := by
  unfold fl
  have W0 : Blk (((w.alloc (.cells (u8s xs).toArray 27)).alloc (.cells #[.int .i64 0, .int .i64 0, .int .i64 0, .int .i64 0, .int .i64 0, .int .i64 0] 35)).alloc (.cells #[.int .i64 0, .int .i64 0, .int .i64 0, .int .i64 0, .int .i64 0, .int .i64 0] 35)) w.heap.size (u8s xs) 27 := ((Blk.new _ _ _).alloc _).alloc _
  have W1 : Blk (((w.alloc (.cells (u8s xs).toArray 27)).alloc (.cells #[.int .i64 0, .int .i64 0, .int .i64 0, .int .i64 0, .int .i64 0, .int .i64 0] 35)).alloc (.cells #[.int .i64 0, .int .i64 0, .int .i64 0, .int .i64 0, .int .i64 0, .int .i64 0] 35)) (w.heap.size + 1) (i64s zero6) 35 := (Blk.mk _ (i64s zero6) _ (by simp)).alloc _
  have W2 : Blk (((w.alloc (.cells (u8s xs).toArray 27)).alloc (.cells #[.int .i64 0, .int .i64 0, .int .i64 0, .int .i64 0, .int .i64 0, .int .i64 0] 35)).alloc (.cells #[.int .i64 0, .int .i64 0, .int .i64 0, .int .i64 0, .int .i64 0, .int .i64 0] 35)) (w.heap.size + 1 + 1) (i64s zero6) 35 := Blk.mk _ (i64s zero6) _ (by simp)
  have b0 : Below w.heap.size w (((w.alloc (.cells (u8s xs).toArray 27)).alloc (.cells #[.int .i64 0, .int .i64 0, .int .i64 0, .int .i64 0, .int .i64 0, .int .i64 0] 35)).alloc (.cells #[.int .i64 0, .int .i64 0, .int .i64 0, .int .i64 0, .int .i64 0, .int .i64 0] 35)) := bl_new (bl_new (bl_new (Below.refl _ _) _) _) _
  have V0 := W0.farRow (g := w.heap.size + 1 + 1) (by omega) (i64s zero6).toArray
  have V1 := W1.farRow (g := w.heap.size + 1 + 1) (by omega) (i64s zero6).toArray
  have V2 := W2.setRow (i64s zero6)
  have d0 := bl_setRow b0 (g := w.heap.size + 1 + 1) (by omega) (i64s zero6).toArray
  cases h1 : vf xs
  · go_enter Try.func26, Try.ntmps26
    go_wp2_with (first | (refine store_blk rfl 35 _ _ rfl _ rfl (ds := i64s zero6) rfl W2 info_6 (by rw [i64s_length]; exact rfl) (by rw [i64s_length]; exact rfl) (i64s_one _) ?_) | (go_at_call 47; refine (l01Ok_any xs hx _ 0 _ V0.range).mono ?_; rintro e w' ⟨rfl, rfl⟩) | (refine load_blk rfl 35 _ rfl _ rfl V2 Try.underlying35 rfl info_6 (by rw [i64s_length]; exact rfl) ?_) | (refine store_blk rfl 35 _ _ rfl _ rfl (ds := i64s zero6) rfl V1 info_6 (by rw [i64s_length]; exact rfl) (by rw [i64s_length]; exact rfl) (i64s_one _) ?_))
    refine ret_blk_tmp rfl _ rfl (V1.setRow _) Try.underlying35 rfl info_6 (by rfl) rfl ⟨rfl, bl_setRow d0 (by omega) _⟩
  · go_enter Try.func26, Try.ntmps26
    go_wp2_with (first | (refine store_blk rfl 35 _ _ rfl _ rfl (ds := i64s zero6) rfl W2 info_6 (by rw [i64s_length]; exact rfl) (by rw [i64s_length]; exact rfl) (i64s_one _) ?_) | (go_at_call 47; refine (l01Ok_any xs hx _ 0 _ V0.range).mono ?_; rintro e w' ⟨rfl, rfl⟩))
    go_loopw [5] (fun i wr => ∃ k : Nat, k ≤ 24 ∧ i = .int .i64 k ∧ Blk wr w.heap.size (u8s xs) 27 ∧ Blk wr (w.heap.size + 1) (i64s zero6) 35 ∧ Blk wr (w.heap.size + 1 + 1) (i64s (countL xs k)) 35 ∧ Below w.heap.size w wr) (fun i _ => 24 - (intOf i).toNat)
    case atStart => exact ⟨0, by omega, rfl, V0, V1, V2, d0⟩
    case round =>
      obtain ⟨k, hk, rfl, X0, X1, X2, hb⟩ := hrel
      by_cases hlt : k < 24
      · have hlt' : (k : Int) < 24 := by omega
        have n1 := (rx.nth k).1
        have n2 : nth xs k ≤ 5 := vf_nth h1 k (by omega)
        obtain ⟨c, hc⟩ := Int.eq_ofNat_of_zero_le n1
        have hc6 : c < 6 := by omega
        have hbd := cnt_bd xs k c
        have hst := As.mk (countL_step xs k c hc)
        have c0 : wr.cell? ⟨w.heap.size, k, none⟩ = some (.int .u8 c) := by rw [X0.at, u8s_get xs k (by omega), hc]
        have c2 : wr.cell? ⟨w.heap.size + 1 + 1, c, none⟩ = some (.int .i64 (cnt xs k c)) := by rw [X2.at, i64s_get _ c (by rw [countL_length]; exact hc6), countL_nth xs k c hc6]
        have f2 := X2.frozen c
        have hc6' : (c : Int) < 6 := by omega
        clear n1 n2 hc
        go_wp2
        go_roundw
        case rel => exact ⟨k + 1, by omega, by go_num, X0.far (by simp; omega) _, X1.far (by simp) _, by have := X2.set c (.int .i64 (cnt xs k c + 1)); rw [i64s_set, hst.out] at this; exact this, hb.setCell (by simp; omega) _⟩
        case measure => simp [intOf]; omega
      · obtain rfl : k = 24 := by omega
        have hl := countL_length xs 24
        go_wp2_with (first | (refine load_blk rfl 35 _ rfl _ rfl X2 Try.underlying35 rfl info_6 (by rw [i64s_length]; exact hl) ?_) | (refine store_blk rfl 35 _ _ rfl _ rfl (ds := i64s (countL xs 24)) rfl X1 info_6 (by rw [i64s_length]; exact hl) (by rw [i64s_length]; exact rfl) (i64s_one _) ?_))
        refine ret_blk_tmp rfl _ rfl (X1.setRow _) Try.underlying35 rfl info_6 (by rw [i64s_length]; exact hl) rfl ⟨rfl, bl_setRow hb (by omega) _⟩
end Go.Proofs.Ytlgpelcnhdalpaa
