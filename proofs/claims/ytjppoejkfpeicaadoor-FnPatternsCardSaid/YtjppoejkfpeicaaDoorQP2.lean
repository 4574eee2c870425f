/- Contracts and plain facts, several texts in one. -/
import Derived.Test.YtjppoejkfpeicaaDoorQP1
/- Contracts: flags turned, both sides; two flags compared. -/
set_option linter.unusedVariables false
namespace Go.Proofs.YtjppoejkfpeicaaDoor
open Go.RowKit

set_option maxHeartbeats 400000 in
theorem eqFlag_same (xs : List Int) (hx : xs.length = 24) (w : World) :
    Calls Tryd.prog 7 #[fl xs, fl xs] w fun e w' => e = .returned (.bool true) ∧ Below w.heap.size w w' := by
  unfold fl
  go_enter Tryd.func7, Tryd.ntmps7
  go_wp2
  go_loopw [5] (fun i wr => ∃ k q : Nat, k ≤ 24 ∧ i = .int .i64 k ∧ wr = ((w.alloc (.cells (u8s xs).toArray 23)).alloc (.cells (u8s xs).toArray 23)).drewN q) (fun i _ => 24 - (intOf i).toNat)
  case atStart => exact ⟨0, 0, by omega, rfl, rfl⟩
  case round =>
    obtain ⟨k, q, hk, rfl, rfl⟩ := hrel
    have B0 : Blk ((w.alloc (.cells (u8s xs).toArray 23)).alloc (.cells (u8s xs).toArray 23)) w.heap.size (u8s xs) 23 := (Blk.new _ _ _).alloc _
    have B1 : Blk ((w.alloc (.cells (u8s xs).toArray 23)).alloc (.cells (u8s xs).toArray 23)) (w.heap.size + 1) (u8s xs) 23 := Blk.mk _ _ _ (by simp)
    have b0 := bl_new (bl_new (Below.refl _ w) (.cells (u8s xs).toArray 23)) (.cells (u8s xs).toArray 23)
    generalize (w.alloc (.cells (u8s xs).toArray 23)).alloc (.cells (u8s xs).toArray 23) = W at *
    by_cases hlt : k < 24
    · have hlt' : (k : Int) < 24 := by omega
      have c0 : W.cell? ⟨w.heap.size, k, none⟩ = some (.int .u8 (nth xs k)) := by rw [B0.at, u8s_get xs k (by omega)]
      have c1 : W.cell? ⟨w.heap.size + 1, k, none⟩ = some (.int .u8 (nth xs k)) := by rw [B1.at, u8s_get xs k (by omega)]
      go_wp2
      go_quiet (fail)
      go_wp2
      go_roundw
      case rel => exact ⟨k + 1, _, by omega, by go_num, rfl⟩
      case measure => simp [intOf]; omega
    · obtain rfl : k = 24 := by omega
      go_wp2
      go_ret
      exact ⟨rfl, bl_drewN b0 _⟩

/-- A flag upside down. -/
def turnL (xs : List Int) : List Int := (List.range 24).map fun i => nth xs (23 - i)
theorem turnL_length (xs : List Int) : (turnL xs).length = 24 := by simp [turnL]

set_option maxHeartbeats 400000 in
theorem l01Turn_any (xs : List Int) (hx : xs.length = 24) (b o : Nat) (w : World) (hr : w.rangeAt b o (u8s xs)) :
    Calls Tryd.prog 38 #[.pointer (some ⟨b, o, none⟩)] w fun e w' => e = .returned (fl (turnL xs)) ∧ Below w.heap.size w w' := by
  have hz : part (fun i => nth xs (23 - i)) 24 0 = List.replicate 24 0 := part_zero _ _
  have HZ := As.mk hz
  clear hz
  have BZ : Blk ((w.alloc (.cells #[.int .u8 0, .int .u8 0, .int .u8 0, .int .u8 0, .int .u8 0, .int .u8 0, .int .u8 0, .int .u8 0, .int .u8 0, .int .u8 0, .int .u8 0, .int .u8 0, .int .u8 0, .int .u8 0, .int .u8 0, .int .u8 0, .int .u8 0, .int .u8 0, .int .u8 0, .int .u8 0, .int .u8 0, .int .u8 0, .int .u8 0, .int .u8 0] 23)).alloc (.cells #[.int .u8 0, .int .u8 0, .int .u8 0, .int .u8 0, .int .u8 0, .int .u8 0, .int .u8 0, .int .u8 0, .int .u8 0, .int .u8 0, .int .u8 0, .int .u8 0, .int .u8 0, .int .u8 0, .int .u8 0, .int .u8 0, .int .u8 0, .int .u8 0, .int .u8 0, .int .u8 0, .int .u8 0, .int .u8 0, .int .u8 0, .int .u8 0] 23)) (w.heap.size + 1) (u8s (List.replicate 24 0)) 23 := Blk.mk _ (u8s (List.replicate 24 0)) _ (by simp)
  have BY : Blk ((w.alloc (.cells #[.int .u8 0, .int .u8 0, .int .u8 0, .int .u8 0, .int .u8 0, .int .u8 0, .int .u8 0, .int .u8 0, .int .u8 0, .int .u8 0, .int .u8 0, .int .u8 0, .int .u8 0, .int .u8 0, .int .u8 0, .int .u8 0, .int .u8 0, .int .u8 0, .int .u8 0, .int .u8 0, .int .u8 0, .int .u8 0, .int .u8 0, .int .u8 0] 23)).alloc (.cells #[.int .u8 0, .int .u8 0, .int .u8 0, .int .u8 0, .int .u8 0, .int .u8 0, .int .u8 0, .int .u8 0, .int .u8 0, .int .u8 0, .int .u8 0, .int .u8 0, .int .u8 0, .int .u8 0, .int .u8 0, .int .u8 0, .int .u8 0, .int .u8 0, .int .u8 0, .int .u8 0, .int .u8 0, .int .u8 0, .int .u8 0, .int .u8 0] 23)) w.heap.size (u8s (List.replicate 24 0)) 23 := (Blk.mk w (u8s (List.replicate 24 0)) _ rfl).alloc _
  have bZ : Below w.heap.size w ((w.alloc (.cells #[.int .u8 0, .int .u8 0, .int .u8 0, .int .u8 0, .int .u8 0, .int .u8 0, .int .u8 0, .int .u8 0, .int .u8 0, .int .u8 0, .int .u8 0, .int .u8 0, .int .u8 0, .int .u8 0, .int .u8 0, .int .u8 0, .int .u8 0, .int .u8 0, .int .u8 0, .int .u8 0, .int .u8 0, .int .u8 0, .int .u8 0, .int .u8 0] 23)).alloc (.cells #[.int .u8 0, .int .u8 0, .int .u8 0, .int .u8 0, .int .u8 0, .int .u8 0, .int .u8 0, .int .u8 0, .int .u8 0, .int .u8 0, .int .u8 0, .int .u8 0, .int .u8 0, .int .u8 0, .int .u8 0, .int .u8 0, .int .u8 0, .int .u8 0, .int .u8 0, .int .u8 0, .int .u8 0, .int .u8 0, .int .u8 0, .int .u8 0] 23)) := bl_new (bl_new (Below.refl _ _) _) _
  go_enter Tryd.func38, Tryd.ntmps38
  go_wp2_with (refine store_blk rfl 23 _ _ rfl _ rfl (ds := u8s (List.replicate 24 0)) rfl BZ info_fl (by rfl) (by rfl) (u8s_one _) ?_)
  go_loopw [4] (fun i wr => ∃ k : Nat, k ≤ 24 ∧ i = .int .i64 k ∧ Blk wr w.heap.size (u8s (List.replicate 24 0)) 23 ∧ Blk wr (w.heap.size + 1) (u8s (part (fun i => nth xs (23 - i)) 24 k)) 23 ∧ Below w.heap.size w wr) (fun i _ => 24 - (intOf i).toNat)
  case atStart => exact ⟨0, by omega, rfl, BY.farRow (by omega) _, by rw [HZ.out]; exact BZ.setRow _, bl_setRow bZ (by omega) _⟩
  case round =>
    obtain ⟨k, hk, rfl, h1, h2, hb⟩ := hrel
    by_cases hlt : k < 24
    · have hlt' : (k : Int) < 24 := by omega
      have e1 : (23 - (k : Int)) = ((23 - k : Nat) : Int) := by omega
      have c0 : wr.cell? ⟨b, o + (23 - k), none⟩ = some (.int .u8 (nth xs (23 - k))) := by
        have h0 := hr (23 - k) _ (by rw [u8s_get xs (23 - k) (by omega)])
        rw [hb.cell (World.block_lt_of_cell? w _ h0)]; exact h0
      obtain ⟨v2, c2⟩ := h2.some k (by rw [u8s_length, part_length]; exact hlt)
      have f2 := h2.frozen k
      have E1 := As.mk e1
      clear e1
      go_wp2
      go_roundw
      case rel => exact ⟨k + 1, by omega, by go_num, h1.far (by simp) _, by have := h2.set k (.int .u8 (nth xs (23 - k))); rw [u8s_set, part_set (fun i => nth xs (23 - i))] at this; exact this, hb.setCell (by simp) _⟩
      case measure => simp [intOf]; omega
    · obtain rfl : k = 24 := by omega
      rw [part_full] at h2
      have hl : (turnL xs).length = 24 := turnL_length xs
      change Blk wr (w.heap.size + 1) (u8s (turnL xs)) _ at h2
      go_wp2_with (first | (refine load_blk rfl 23 _ rfl _ rfl h2 Tryd.underlying23 rfl info_fl (by rw [u8s_length]; exact hl) ?_) | (refine store_blk rfl 23 _ _ rfl _ rfl rfl h1 info_fl (by rw [u8s_length]; exact hl) (by rw [u8s_length]; simp) (u8s_one _) ?_))
      refine ret_blk rfl _ rfl (h1.setRow _) Tryd.underlying23 rfl info_fl (by rw [u8s_length]; exact hl) rfl ⟨rfl, bl_setRow hb (by omega) _⟩
end Go.Proofs.YtjppoejkfpeicaaDoor

/- Contracts: CellOf and what it calls: both sides. -/
set_option linter.unusedVariables false
namespace Go.Proofs.YtjppoejkfpeicaaDoor
open Go.RowKit

def Bytes (xs : List Int) : Prop := ∀ x ∈ xs, 0 ≤ x ∧ x ≤ 255
theorem Bytes.nth {xs : List Int} (h : Bytes xs) (i : Nat) : 0 ≤ nth xs i ∧ nth xs i ≤ 255 := by
  rcases Nat.lt_or_ge i xs.length with hi | hi
  · exact h _ (nth_mem xs i hi)
  · rw [nth_out xs i hi]; omega

theorem unless_any (b : Bool) (c : Int) (w : World) : Calls Tryd.prog 50 #[.bool b, .int .i64 c] w fun e w' => e = .returned (.int .i64 (if b then 0 else c)) ∧ w = w' := by
  cases b
  all_goals
    go_enter Tryd.func50, Tryd.ntmps50
    go_wp2
    go_ret
    exact ⟨rfl, rfl⟩

/-- The code of a flag and a cell. -/
def cellC (xs : List Int) (x y : Int) : Int := if vf xs then (if inR x 0 5 && inR y 0 3 then 0 else 2) else 1
def cellN (xs : List Int) (x y : Int) : Int := if vf xs && (inR x 0 5 && inR y 0 3) then nth xs (x + 6 * y).toNat else 0

set_option maxHeartbeats 800000 in
theorem cellCode_any (xs : List Int) (hx : xs.length = 24) (x y : Int) (w : World) :
    Calls Tryd.prog 49 #[fl xs, .int .i64 x, .int .i64 y] w fun e w' => e = .returned (.int .i64 (cellC xs x y)) ∧ Below w.heap.size w w' := by
  unfold fl
  have B0 := Blk.new w (u8s xs) 23
  have b0 := bl_new (Below.refl _ w) (.cells (u8s xs).toArray 23)
  have hN := As.mk (show cellC xs x y = if vf xs then (if inR x 0 5 && inR y 0 3 then 0 else 2) else 1 from rfl)
  cases h1 : vf xs
  · go_enter Tryd.func49, Tryd.ntmps49
    go_wp2_with (refine load_blk rfl 23 _ rfl _ rfl B0 Tryd.underlying23 rfl info_fl (by rw [u8s_length]; exact hx) ?_)
    refine (ValidFlag_any xs hx _).mono ?_; rintro e w1 ⟨rfl, hb1⟩
    go_wp2_with (fail)
    go_ret
    exact ⟨ret_n (by rw [hN.out, h1]; rfl), bl_call b0 hb1⟩
  · cases h2 : inR x 0 5
    · go_enter Tryd.func49, Tryd.ntmps49
      go_wp2_with (refine load_blk rfl 23 _ rfl _ rfl B0 Tryd.underlying23 rfl info_fl (by rw [u8s_length]; exact hx) ?_)
      refine (ValidFlag_any xs hx _).mono ?_; rintro e w1 ⟨rfl, hb1⟩
      go_wp2_with (first | (go_at_call 67; refine (within_any _ _ _ _).mono ?_; rintro e w' ⟨rfl, rfl⟩) | (go_at_call 50; refine (unless_any _ _ _).mono ?_; rintro e w' ⟨rfl, rfl⟩))
      go_ret
      exact ⟨ret_n (by rw [hN.out, h1, h2]; rfl), bl_call b0 hb1⟩
    · cases h3 : inR y 0 3
      all_goals
        go_enter Tryd.func49, Tryd.ntmps49
        go_wp2_with (refine load_blk rfl 23 _ rfl _ rfl B0 Tryd.underlying23 rfl info_fl (by rw [u8s_length]; exact hx) ?_)
        refine (ValidFlag_any xs hx _).mono ?_; rintro e w1 ⟨rfl, hb1⟩
        go_wp2_with (first | (go_at_call 67; refine (within_any _ _ _ _).mono ?_; rintro e w' ⟨rfl, rfl⟩) | (go_at_call 50; refine (unless_any _ _ _).mono ?_; rintro e w' ⟨rfl, rfl⟩))
        go_ret
        exact ⟨ret_n (by rw [hN.out, h1, h2, h3]; rfl), bl_call b0 hb1⟩

theorem l01Index_any (x y : Int) (hx : 0 ≤ x ∧ x ≤ 5) (hy : 0 ≤ y ∧ y ≤ 3) (w : World) : Calls Tryd.prog 61 #[.int .i64 x, .int .i64 y] w fun e w' => e = .returned (.int .i64 (x + 6 * y)) ∧ w = w' := by
  have h1 := hx.1; have h2 := hx.2; have h3 := hy.1; have h4 := hy.2
  go_enter Tryd.func61, Tryd.ntmps61
  go_wp2
  go_ret
  exact ⟨rfl, rfl⟩

set_option maxHeartbeats 800000 in
theorem CellOf_any (xs : List Int) (hx : xs.length = 24) (rx : Bytes xs) (x y : Int) (w : World) :
    Calls Tryd.prog 27 #[fl xs, .int .i64 x, .int .i64 y] w fun e w' => e = .returned (.tuple #[.int .i64 (cellN xs x y), .int .i64 (cellC xs x y)]) ∧ Below w.heap.size w w' := by
  unfold fl
  have B0 := Blk.new w (u8s xs) 23
  have b0 := bl_new (Below.refl _ w) (.cells (u8s xs).toArray 23)
  have hN := As.mk (show cellC xs x y = if vf xs then (if inR x 0 5 && inR y 0 3 then 0 else 2) else 1 from rfl)
  have hM := As.mk (show cellN xs x y = if vf xs && (inR x 0 5 && inR y 0 3) then nth xs (x + 6 * y).toNat else 0 from rfl)
  cases h1 : vf xs && (inR x 0 5 && inR y 0 3)
  · have hc : (cellC xs x y != 0) = true := by
      rw [hN.out]
      cases h2 : vf xs
      · rfl
      · rw [h2, Bool.true_and] at h1; rw [h1]; rfl
    go_enter Tryd.func27, Tryd.ntmps27
    go_wp2_with (refine load_blk rfl 23 _ rfl _ rfl B0 Tryd.underlying23 rfl info_fl (by rw [u8s_length]; exact hx) ?_)
    refine (cellCode_any xs hx x y _).mono ?_; rintro e w1 ⟨rfl, hb1⟩
    go_wp2_with (fail)
    go_ret2
    exact ⟨ret_2 (by rw [hM.out, h1]; rfl) rfl, bl_call b0 hb1⟩
  · have h2 := (Bool.and_eq_true_iff.1 h1).1
    have h2' := (Bool.and_eq_true_iff.1 h1).2
    have h3 : 0 ≤ x ∧ x ≤ 5 ∧ 0 ≤ y ∧ y ≤ 3 := by
      simp only [Bool.and_eq_true, inR_iff] at h2'; omega
    have g1 := h3.1; have g2 := h3.2.1; have g3 := h3.2.2.1; have g4 := h3.2.2.2
    have hc : cellC xs x y = 0 := by rw [hN.out, h2, h2']; rfl
    have n1 := (rx.nth (x + 6 * y).toNat).1
    have n2 := (rx.nth (x + 6 * y).toNat).2
    clear h3 h2 h2'
    go_enter Tryd.func27, Tryd.ntmps27
    go_wp2_with (refine load_blk rfl 23 _ rfl _ rfl B0 Tryd.underlying23 rfl info_fl (by rw [u8s_length]; exact hx) ?_)
    refine (cellCode_any xs hx x y _).mono ?_; rintro e w1 ⟨rfl, hb1⟩
    have c0 : w1.cell? ⟨w.heap.size, (x + 6 * y).toNat, none⟩ = some (.int .u8 (nth xs (x + 6 * y).toNat)) := by rw [(B0.kept hb1).at, u8s_get xs _ (by omega)]
    go_wp2_with (fail)
    go_ret2
    exact ⟨ret_2 (by rw [hM.out, h1]; rfl) (by rw [hc]), bl_call b0 hb1⟩
end Go.Proofs.YtjppoejkfpeicaaDoor

/- Contracts: CountColours: both sides. -/
set_option linter.unusedVariables false
namespace Go.Proofs.YtjppoejkfpeicaaDoor
open Go.RowKit

theorem info_6 : (Tryd.prog.info? 33).map (·.size) = some 6 := by kernel_rfl
def zero6 : List Int := List.replicate 6 0
/-- How many of the first k cells are of colour c. -/
def cnt (xs : List Int) (k c : Nat) : Int := ((List.range k).countP fun i => nth xs i == (c : Int) : Nat)
def countL (xs : List Int) (k : Nat) : List Int := (List.range 6).map (cnt xs k)
theorem countL_length (xs : List Int) (k : Nat) : (countL xs k).length = 6 := by simp [countL]
theorem countL_zero (xs : List Int) : countL xs 0 = zero6 := rfl
theorem cnt_bd (xs : List Int) (k c : Nat) : 0 ≤ cnt xs k c ∧ cnt xs k c ≤ k := by
  unfold cnt
  have := List.countP_le_length (p := fun i => nth xs i == (c : Int)) (l := List.range k)
  rw [List.length_range] at this
  omega
theorem cnt_succ (xs : List Int) (k c : Nat) : cnt xs (k + 1) c = cnt xs k c + if nth xs k == (c : Int) then 1 else 0 := by
  unfold cnt
  rw [List.range_succ, List.countP_append, List.countP_singleton]
  split <;> simp
theorem countL_nth (xs : List Int) (k c : Nat) (h : c < 6) : nth (countL xs k) c = cnt xs k c := nth_map_range _ _ _ h
theorem countL_step (xs : List Int) (k c : Nat) (h : nth xs k = (c : Int)) : (countL xs k).set c (cnt xs k c + 1) = countL xs (k + 1) := by
  apply List.ext_getElem
  · simp [countL]
  · intro i h1 h2
    simp only [List.getElem_set, countL, List.getElem_map, List.getElem_range, cnt_succ, h]
    by_cases e : c = i
    · subst e; simp
    · rw [if_neg e, if_neg (by simp; omega)]; simp
theorem vf_nth {xs : List Int} (h : vf xs = true) (k : Nat) (hk : k < xs.length) : nth xs k ≤ 5 := by
  unfold vf at h; rw [List.all_eq_true] at h
  simpa using h _ (nth_mem xs k hk)

/-- What CountColours hands back. -/
def ok6 (b : Bool) (ys : List Int) : List Int := if b then ys else zero6
theorem ok6_length {b : Bool} {ys : List Int} (h : ys.length = 6) : (ok6 b ys).length = 6 := by cases b; rfl; exact h

end Go.Proofs.YtjppoejkfpeicaaDoor

/- An array by value, at an index that is in it. -/
set_option linter.unusedVariables false
namespace Go.Proofs.YtjppoejkfpeicaaDoor
open Go.RowKit

/-- An array of one-cell elements, by value, at an index that is in it. -/
theorem run_index_in {P : Program} {t e : TypeId} {n : Nat} {cs : List Value} (h : P.underlying t = some (.array n e)) (ha : (P.info? e).map (·.size) = some 1) (hag : ∀ w, (isAgg e).run P w = .ok false w) (hn : cs.length = n)
    (k : Nat) (hk : k < n) (kd : IntKind) (w : World) : (Instr.index t (.agg cs.toArray) (.int kd (k : Int))).run P w = .ok (cs.getD k undef) w := by
  have h1 : (0 : Int) ≤ (k : Int) ∧ (k : Int) < (n : Int) := by omega
  have hs : (sizeOf e).run P w = .ok 1 w := by
    cases hq : P.info? e with
    | none => simp [hq] at ha
    | some i => simp [hq] at ha; simp [sizeOf, typeInfo, hq, ha]
  simp only [Instr.index, asIntOf, Sem.run_bind, Sem.run_pure, Result.andThen_ok, run_underlying h, if_pos h1, hs]
  have hl : k < cs.length := by omega
  simp [Go.part, hag, List.getD_eq_getElem?_getD, List.getElem?_eq_getElem hl]

theorem index_fl (xs : List Int) (hx : xs.length = 24) (k : Nat) (hk : k < 24) (w : World) : (Instr.index 23 (.agg (u8s xs).toArray) (.int .i64 (k : Int))).run Tryd.prog w = .ok (.int .u8 (nth xs k)) w := by
  rw [run_index_in Tryd.underlying23 (by kernel_rfl) (fun w => Tryd.isAgg5 w) (by rw [u8s_length]; exact hx) k hk]
  rw [List.getD_eq_getElem?_getD, u8s_get xs k (by omega)]; rfl
end Go.Proofs.YtjppoejkfpeicaaDoor

/- Contracts: impl.CountColours; two rows of counts compared. -/
set_option linter.unusedVariables false
namespace Go.Proofs.YtjppoejkfpeicaaDoor
open Go.RowKit

set_option maxHeartbeats 1000000 in
theorem CountColours_any (xs : List Int) (hx : xs.length = 24) (rx : Bytes xs) (w : World) :
    Calls Tryd.prog 15 #[fl xs] w fun e w' => e = .returned (.tuple #[.agg (i64s (ok6 (vf xs) (countL xs 24))).toArray, .int .i64 (codeV (vf xs))]) ∧ Below w.heap.size w w' := by
  unfold fl
  have W0 : Blk (((w.alloc (.cells (u8s xs).toArray 23)).alloc (.cells #[.int .i64 0, .int .i64 0, .int .i64 0, .int .i64 0, .int .i64 0, .int .i64 0] 33)).alloc (.cells #[.int .i64 0, .int .i64 0, .int .i64 0, .int .i64 0, .int .i64 0, .int .i64 0] 33)) w.heap.size (u8s xs) 23 := ((Blk.new _ _ _).alloc _).alloc _
  have W1 : Blk (((w.alloc (.cells (u8s xs).toArray 23)).alloc (.cells #[.int .i64 0, .int .i64 0, .int .i64 0, .int .i64 0, .int .i64 0, .int .i64 0] 33)).alloc (.cells #[.int .i64 0, .int .i64 0, .int .i64 0, .int .i64 0, .int .i64 0, .int .i64 0] 33)) (w.heap.size + 1) (i64s zero6) 33 := (Blk.mk _ (i64s zero6) _ (by simp)).alloc _
  have W2 : Blk (((w.alloc (.cells (u8s xs).toArray 23)).alloc (.cells #[.int .i64 0, .int .i64 0, .int .i64 0, .int .i64 0, .int .i64 0, .int .i64 0] 33)).alloc (.cells #[.int .i64 0, .int .i64 0, .int .i64 0, .int .i64 0, .int .i64 0, .int .i64 0] 33)) (w.heap.size + 1 + 1) (i64s zero6) 33 := Blk.mk _ (i64s zero6) _ (by simp)
  have b0 : Below w.heap.size w (((w.alloc (.cells (u8s xs).toArray 23)).alloc (.cells #[.int .i64 0, .int .i64 0, .int .i64 0, .int .i64 0, .int .i64 0, .int .i64 0] 33)).alloc (.cells #[.int .i64 0, .int .i64 0, .int .i64 0, .int .i64 0, .int .i64 0, .int .i64 0] 33)) := bl_new (bl_new (bl_new (Below.refl _ _) _) _) _
  have V0 := W0.farRow (g := w.heap.size + 1 + 1) (by omega) (i64s zero6).toArray
  have V1 := W1.farRow (g := w.heap.size + 1 + 1) (by omega) (i64s zero6).toArray
  have V2 := W2.setRow (i64s zero6)
  have d0 := bl_setRow b0 (g := w.heap.size + 1 + 1) (by omega) (i64s zero6).toArray
  cases h1 : vf xs
  · go_enter Tryd.func15, Tryd.ntmps15
    go_wp2_with (first | (refine store_blk rfl 33 _ _ rfl _ rfl (ds := i64s zero6) rfl W2 info_6 (by rw [i64s_length]; exact rfl) (by rw [i64s_length]; exact rfl) (i64s_one _) ?_) | (refine load_blk rfl 23 _ rfl _ rfl V0 Tryd.underlying23 rfl info_fl (by rw [u8s_length]; exact hx) ?_))
    refine (ValidFlag_any xs hx _).mono ?_; rintro e w1 ⟨rfl, hb1⟩
    have Y1 := V1.kept hb1
    have Y2 := V2.kept hb1
    go_wp2_with (first | (refine load_blk rfl 33 _ rfl _ rfl Y2 Tryd.underlying33 rfl info_6 (by rw [i64s_length]; exact rfl) ?_) | (refine store_blk rfl 33 _ _ rfl _ rfl (ds := i64s zero6) rfl Y1 info_6 (by rw [i64s_length]; exact rfl) (by rw [i64s_length]; exact rfl) (i64s_one _) ?_))
    refine ret_blk_tmp rfl _ rfl (Y1.setRow _) Tryd.underlying33 rfl info_6 (by rfl) rfl ⟨rfl, bl_setRow (bl_call d0 hb1) (by omega) _⟩
  · go_enter Tryd.func15, Tryd.ntmps15
    go_wp2_with (first | (refine store_blk rfl 33 _ _ rfl _ rfl (ds := i64s zero6) rfl W2 info_6 (by rw [i64s_length]; exact rfl) (by rw [i64s_length]; exact rfl) (i64s_one _) ?_) | (refine load_blk rfl 23 _ rfl _ rfl V0 Tryd.underlying23 rfl info_fl (by rw [u8s_length]; exact hx) ?_))
    refine (ValidFlag_any xs hx _).mono ?_; rintro e w1 ⟨rfl, hb1⟩
    have Y0 := V0.kept hb1
    have Y1 := V1.kept hb1
    have Y2 := V2.kept hb1
    have e0 := bl_call d0 hb1
    go_wp2_with (refine load_blk rfl 23 _ rfl _ rfl Y0 Tryd.underlying23 rfl info_fl (by rw [u8s_length]; exact hx) ?_)
    go_loopw [13] (fun i wr => ∃ k : Nat, k ≤ 24 ∧ i = .int .i64 k ∧ Blk wr w.heap.size (u8s xs) 23 ∧ Blk wr (w.heap.size + 1) (i64s zero6) 33 ∧ Blk wr (w.heap.size + 1 + 1) (i64s (countL xs k)) 33 ∧ Below w.heap.size w wr) (fun i _ => 24 - (intOf i).toNat)
    case atStart => exact ⟨0, by omega, rfl, Y0, Y1, Y2, e0⟩
    case round =>
      obtain ⟨k, hk, rfl, X0, X1, X2, hb⟩ := hrel
      by_cases hlt : k < 24
      · have hlt' : (k : Int) < 24 := by omega
        have n1 := (rx.nth k).1
        have n2 : nth xs k ≤ 5 := vf_nth h1 k (by omega)
        obtain ⟨c, hc⟩ := Int.eq_ofNat_of_zero_le n1
        have hc6 : c < 6 := by omega
        have hbd := cnt_bd xs k c
        have hst := As.mk (countL_step xs k c hc)
        have c0 : ∀ W, (Instr.index 23 (.agg (u8s xs).toArray) (.int .i64 (k : Int))).run Tryd.prog W = .ok (.int .u8 c) W := fun W => by rw [index_fl xs hx k hlt W, hc]
        have c2 : wr.cell? ⟨w.heap.size + 1 + 1, c, none⟩ = some (.int .i64 (cnt xs k c)) := by rw [X2.at, i64s_get _ c (by rw [countL_length]; exact hc6), countL_nth xs k c hc6]
        have f2 := X2.frozen c
        have hc6' : (c : Int) < 6 := by omega
        clear n1 n2 hc
        go_wp2
        go_roundw
        case rel => exact ⟨k + 1, by omega, by go_num, X0.far (by simp; omega) _, X1.far (by simp) _, by have := X2.set c (.int .i64 (cnt xs k c + 1)); rw [i64s_set, hst.out] at this; exact this, hb.setCell (by simp; omega) _⟩
        case measure => simp [intOf]; omega
      · obtain rfl : k = 24 := by omega
        have hl := countL_length xs 24
        go_wp2_with (first | (refine load_blk rfl 33 _ rfl _ rfl X2 Tryd.underlying33 rfl info_6 (by rw [i64s_length]; exact hl) ?_) | (refine store_blk rfl 33 _ _ rfl _ rfl (ds := i64s (countL xs 24)) rfl X1 info_6 (by rw [i64s_length]; exact hl) (by rw [i64s_length]; exact rfl) (i64s_one _) ?_))
        refine ret_blk_tmp rfl _ rfl (X1.setRow _) Tryd.underlying33 rfl info_6 (by rw [i64s_length]; exact hl) rfl ⟨rfl, bl_setRow hb (by omega) _⟩

end Go.Proofs.YtjppoejkfpeicaaDoor

/- Contracts: FlagText: both sides. -/
set_option linter.unusedVariables false
namespace Go.Proofs.YtjppoejkfpeicaaDoor
open Go.RowKit

theorem info_u8 : (Tryd.prog.info? 5).map (fun i => (i.zero, i.size, i.bytes)) = some (some (.int .u8 0), 1, 1) := by kernel_rfl
def letter (c : Int) : Int := nth [119, 121, 114, 98, 103, 107] c.toNat
theorem index_letters (c : Int) (h0 : 0 ≤ c) (h5 : c ≤ 5) (W : World) : (Instr.index 9 (.string ⟨#[119, 121, 114, 98, 103, 107]⟩) (.int .u8 c)).run Tryd.prog W = .ok (.int .u8 (letter c)) W := by
  rcases (by omega : c = 0 ∨ c = 1 ∨ c = 2 ∨ c = 3 ∨ c = 4 ∨ c = 5) with rfl | rfl | rfl | rfl | rfl | rfl
  all_goals (simp only [Instr.index, asIntOf, Sem.run_bind, Sem.run_pure, Result.andThen_ok, run_underlying Tryd.underlying9]; rfl)
/-- The text of the first k cells. -/
def textL (xs : List Int) : Nat → List Int
  | 0 => []
  | k + 1 => (if 0 < k ∧ k % 6 = 0 then textL xs k ++ [47] else textL xs k) ++ [letter (nth xs k)]
theorem textL_length (xs : List Int) : ∀ k, (textL xs k).length ≤ 2 * k
  | 0 => by simp [textL]
  | k + 1 => by
    have := textL_length xs k
    unfold textL
    split <;> simp <;> omega
theorem u8s_snoc (xs : List Int) (c : Int) : u8s xs ++ [.int .u8 c] = u8s (xs ++ [c]) := by simp [u8s]

end Go.Proofs.YtjppoejkfpeicaaDoor

/- Contracts: the texts of numbers below 100: spec.Decimal. -/
set_option linter.unusedVariables false
namespace Go.Proofs.YtjppoejkfpeicaaDoor
open Go.RowKit
section
variable {P : Program} {ops : Array Oper} {Q : Exit → Act → World → Prop} {S : World → Prop} {listed : Array Bool} {ts : List Value} {ds : List Deferred} {w : World} {fuel : Nat}
/-- One of the operations that may come up: a call of function f. -/
theorem kCall (i d f : Nat) {oi : Oper} (hi : ops[i]? = some oi) (hd : oi.dst = some d) {args : Array Value}
    (hw : Region.wanted oi (yielded ops ts.toArray) = true) (he : (execOp (Act.mk ts.toArray ds).eval oi).run P w = .ok (.enter f args) w) (v : Value) {R : World → Prop}
    (hc : Calls P f args w fun e w' => e = .returned v ∧ R w') {rs : List Nat}
    (h : ∀ w', R w' → S w' ∧ wpAnyH P .any ops Q S fuel (listed.setIfInBounds i true) ⟨(ts.set d v).toArray, ds⟩ w')
    (hs : AllReadyH P .any ops Q S fuel listed ⟨ts.toArray, ds⟩ w rs) : AllReadyH P .any ops Q S fuel listed ⟨ts.toArray, ds⟩ w (i :: rs) := by
  refine AllReadyH.cons hi (fun K hK => ?_) hs
  rw [if_pos hw]
  unfold Oper.wp
  rw [he, Oper.upon_enter]
  refine hc.mono ?_
  rintro e w' ⟨rfl, hR⟩
  obtain ⟨h1, h2⟩ := h w' hR
  refine hK.out _ _ h1 (fun _ => ?_)
  rw [hd]
  simpa [Act.put] using h2
/-- One of the operations that may come up: it gives a value and maybe another world. -/
theorem kVal (i d : Nat) {oi : Oper} (hi : ops[i]? = some oi) (hd : oi.dst = some d)
    (hw : Region.wanted oi (yielded ops ts.toArray) = true) {v : Value} {w' : World} (he : (execOp (Act.mk ts.toArray ds).eval oi).run P w = .ok (.value v) w') {rs : List Nat}
    (h1 : S w') (h2 : wpAnyH P .any ops Q S fuel (listed.setIfInBounds i true) ⟨(ts.set d v).toArray, ds⟩ w')
    (hs : AllReadyH P .any ops Q S fuel listed ⟨ts.toArray, ds⟩ w rs) : AllReadyH P .any ops Q S fuel listed ⟨ts.toArray, ds⟩ w (i :: rs) := by
  refine AllReadyH.cons hi (fun K hK => ?_) hs
  rw [if_pos hw]
  unfold Oper.wp
  rw [he, Oper.upon_value]
  refine hK.out _ _ h1 (fun _ => ?_)
  rw [hd]
  simpa [Act.put] using h2
end
/-- The text of a number below 100. -/
def dig (n : Nat) : ByteArray := if n < 10 then strOfNums [48 + (n : Int)] else strOfNums [48 + ((n : Int) / 10)] ++ strOfNums [48 + ((n : Int) % 10)]
theorem dig_small (n : Nat) (h : n < 10) : dig n = strOfNums [48 + (n : Int)] := by unfold dig; rw [if_pos h]
theorem dig_big (n : Nat) (h : ¬ n < 10) : dig n = strOfNums [48 + ((n : Int) / 10)] ++ strOfNums [48 + ((n : Int) % 10)] := by unfold dig; rw [if_neg h]
theorem dig_size (n : Nat) : (dig n).size ≤ 2 := by
  unfold dig
  split
  · rw [strOfNums_size]; simp
  · rw [ByteArray.size_append, strOfNums_size, strOfNums_size]; simp

theorem byte_string (x : Int) (w : World) (b : Nat) (h : Blk w b [.int .u8 x] 5) : (convert 28 9 (.slice (some ⟨b, 0, none⟩) 1 1)).run Tryd.prog w = .ok (.string (strOfNums [x])) w := by
  have hO : Own w 0 5 (.slice (some ⟨b, 0, none⟩) 1 1) (u8s [x]) := ⟨rfl, .inr ⟨b, 1, #[.int .u8 x], rfl, Nat.zero_le _, h, Nat.le_refl _, by simp [maxLen], rfl, rfl⟩⟩
  exact own_string (P := Tryd.prog) Tryd.underlying28 Tryd.underlying5 Tryd.underlying9 hO

end Go.Proofs.YtjppoejkfpeicaaDoor

/- What a call leaves: all old blocks but those of a set. And steps of a region that draws its order: calls whose answer is not known ahead, append. -/
set_option linter.unusedVariables false
namespace Go.Proofs.YtjppoejkfpeicaaDoor
open Go.RowKit

structure Grw (S : Nat → Prop) (w w' : World) : Prop where
  os : w'.os = w.os
  tape : w'.tape = w.tape
  output : w'.output = w.output
  size : w.heap.size ≤ w'.heap.size
  block : ∀ k, k < w.heap.size → ¬ S k → w'.heap[k]? = w.heap[k]?
section
variable {S S' : Nat → Prop} {w w' w'' : World}
theorem Grw.refl (S : Nat → Prop) (w : World) : Grw S w w := ⟨rfl, rfl, rfl, Nat.le_refl _, fun _ _ _ => rfl⟩
theorem Grw.trans (h : Grw S w w') (k : Grw S w' w'') : Grw S w w'' :=
  ⟨k.os.trans h.os, k.tape.trans h.tape, k.output.trans h.output, Nat.le_trans h.size k.size, fun i hi hn => (k.block i (Nat.lt_of_lt_of_le hi h.size) hn).trans (h.block i hi hn)⟩
theorem Grw.below (h : Below w.heap.size w w') : Grw S w w' := ⟨h.os, h.tape, h.output, h.size, fun i hi _ => h.block i hi⟩
theorem Grw.wider (h : Grw S w w') (hs : ∀ k, S k → S' k) : Grw S' w w' := ⟨h.os, h.tape, h.output, h.size, fun i hi hn => h.block i hi (fun hk => hn (hs i hk))⟩
theorem Grw.grown {P : Nat} (h : w.grownBy w' (some P)) (hp : S P) : Grw S w w' := ⟨h.os, h.tape, h.output, h.size, fun i hi hn => h.block i hi (fun e => by injection e with e; subst e; exact hn hp)⟩
theorem Grw.drewN (h : Grw S w w') (n : Nat) : Grw S w (w'.drewN n) := ⟨h.os, h.tape, h.output, h.size, h.block⟩
theorem Grw.drew (h : Grw S w w') : Grw S w w'.drew := ⟨h.os, h.tape, h.output, h.size, h.block⟩
theorem Grw.cell (h : Grw S w w') {a : Addr} {v : Value} (hc : w.cell? a = some v) (hn : ¬ S a.block) : w'.cell? a = some v :=
  (World.cell?_of_block (h.block a.block (World.block_lt_of_cell? w a hc) hn)).trans hc
theorem Grw.range (h : Grw S w w') {b o : Nat} {cs : List Value} (hr : w.rangeAt b o cs) (hn : ¬ S b) : w'.rangeAt b o cs := fun j v hv => h.cell (hr j v hv) hn
theorem Grw.blk (h : Grw S w w') {b : Nat} {cs : List Value} {t : TypeId} (hB : Blk w b cs t) (hn : ¬ S b) : Blk w' b cs t := (h.block b hB.lt hn).trans hB
theorem Grw.toBelow {B : Nat} {w0 : World} (h : Grw S w w') (hb : Below B w0 w) (hB : B ≤ w.heap.size) (hs : ∀ k, S k → B ≤ k) : Below B w0 w' :=
  ⟨h.os.trans hb.os, h.tape.trans hb.tape, h.output.trans hb.output, Nat.le_trans hb.size h.size, fun k hk => (h.block k (Nat.lt_of_lt_of_le hk hB) (fun e => Nat.not_lt.2 (hs k e) hk)).trans (hb.block k hk)⟩
end

section
variable {P : Program} {ops : Array Oper} {Q : Exit → Act → World → Prop} {S : World → Prop} {listed : Array Bool} {ts : List Value} {ds : List Deferred} {w : World} {fuel : Nat}
/-- One of the operations that may come up: a call of function f, whose answer is told by R. -/
theorem kCallE (i d f : Nat) {oi : Oper} (hi : ops[i]? = some oi) (hd : oi.dst = some d) {args : Array Value}
    (hw : Region.wanted oi (yielded ops ts.toArray) = true) (he : (execOp (Act.mk ts.toArray ds).eval oi).run P w = .ok (.enter f args) w) {R : Value → World → Prop}
    (hc : Calls P f args w fun e w' => ∃ v, e = .returned v ∧ R v w') {rs : List Nat}
    (h : ∀ v w', R v w' → S w' ∧ wpAnyH P .any ops Q S fuel (listed.setIfInBounds i true) ⟨(ts.set d v).toArray, ds⟩ w')
    (hs : AllReadyH P .any ops Q S fuel listed ⟨ts.toArray, ds⟩ w rs) : AllReadyH P .any ops Q S fuel listed ⟨ts.toArray, ds⟩ w (i :: rs) := by
  refine AllReadyH.cons hi (fun K hK => ?_) hs
  rw [if_pos hw]
  unfold Oper.wp
  rw [he, Oper.upon_enter]
  refine hc.mono ?_
  rintro e w' ⟨v, rfl, hR⟩
  obtain ⟨h1, h2⟩ := h v w' hR
  refine hK.out _ _ h1 (fun _ => ?_)
  rw [hd]
  simpa [Act.put] using h2
/-- One of the operations that may come up: append(v, ys...), v being a slice of our own. -/
theorem kApp {w0 : World} (i d : Nat) (base : Nat) {oi : Oper} (hi : ops[i]? = some oi) (hd : oi.dst = some d) (s x : Operand) (t e : TypeId) (z : Value) (bytes : Nat)
    (ho : oi.op = .call { callee := .builtin .append, args := #[s, x], argTypes := #[t, t] })
    (hw : Region.wanted oi (yielded ops ts.toArray) = true)
    (ht : P.underlying t = some (.slice e)) (hinfo : (P.info? e).map (fun i => (i.zero, i.size, i.bytes)) = some (some z, 1, bytes)) (hz : z.cells.size = 1) (hb0 : 0 < bytes)
    (v : Value) (cs : List Value) (ys : List Value) (b o c m : Nat) (hs : (Act.mk ts.toArray ds).eval s = v) (hx : (Act.mk ts.toArray ds).eval x = .slice (some ⟨b, o, none⟩) m c) (hm : ys.length = m) (h1 : ∀ u ∈ ys, u.oneCell' = true)
    (HO : Own w base e v cs) (hr : w.rangeAt b o ys) (HB : Below base w0 w) (hbase : base ≤ w.heap.size) (hl : (cs.length + m) * bytes ≤ 140737488355328) {rs : List Nat}
    (h : ∀ v1 w1, Own w1 base e v1 (cs ++ ys) → Below base w0 w1 → S w1 ∧ wpAnyH P .any ops Q S fuel (listed.setIfInBounds i true) ⟨(ts.set d v1).toArray, ds⟩ w1)
    (hrest : AllReadyH P .any ops Q S fuel listed ⟨ts.toArray, ds⟩ w rs) : AllReadyH P .any ops Q S fuel listed ⟨ts.toArray, ds⟩ w (i :: rs) := by
  obtain ⟨i0, hi0, hzz⟩ := Option.map_eq_some_iff.1 hinfo
  simp only [Prod.mk.injEq] at hzz
  obtain ⟨hz0, hz1, hz2⟩ := hzz
  have hlen : cs.length + m ≤ 140737488355328 := Nat.le_trans (Nat.le_mul_of_pos_right _ hb0) hl
  refine AllReadyH.cons hi (fun K hK => ?_) hrest
  rw [if_pos hw]
  obtain ⟨v', w', hrun, h2, h3, h4, h5⟩ := run_append_own_at (P := P) w base t oi.type e i0 z 1 bytes ht hi0 hz0 hz1 hz2 hz (by omega) v cs.length cs HO ⟨b, o, none⟩ m c ys (by omega)
    (fun j u hu => by have := hr j u hu; rwa [show (⟨b, o, none⟩ : Addr).add j = ⟨b, o + j, none⟩ from Addr.add_mid _ _ _]) h1 (by simp only [maxLen]; omega) hl hbase
  unfold Oper.wp execOp
  simp only [ho, resolve, invoke, builtin, Sem.run_bind, Sem.run_pure, Result.andThen_ok, List.map_toArray, List.map_cons, List.map_nil, hs, hx, hrun]
  have hO1 : Own w' base e v' (cs ++ ys) := by unfold Own; rw [List.length_append, hm]; exact h2
  obtain ⟨hS, hN⟩ := h v' w' hO1 (HB.grown h3 hbase (fun k hk => Own.ge HO k hk))
  refine hK.out _ _ hS (fun _ => ?_)
  rw [hd]
  simpa [Act.put] using hN
end
end Go.Proofs.YtjppoejkfpeicaaDoor

/- Contracts: the source of choices: next, pick, P6Pick. -/
set_option linter.unusedVariables false
namespace Go.Proofs.YtjppoejkfpeicaaDoor
open Go.RowKit

theorem grownBy_drewN' {w w' : World} {row : Option Nat} (hg : w.grownBy w' row) (n : Nat) : w.grownBy (w'.drewN n) row := ⟨hg.os, hg.tape, hg.output, hg.size, hg.block⟩
/-- A source: bytes, how far it has read, its number. -/
structure SrcAt (w : World) (P : Nat) (A : Option Addr) (xs : List Int) (c : Nat) (at' : Int) (seed : Int) : Prop where
  blk : Blk w P [.slice A xs.length c, .int .i64 at', .int .u64 seed] 80
  sl : Sl .u8 w A xs
  len : xs.length ≤ 4097
  bytes : ∀ x ∈ xs, 0 ≤ x ∧ x ≤ 255
  at0 : 0 ≤ at' ∧ at' ≤ 1000000000
  seed0 : 0 ≤ seed ∧ seed ≤ 18446744073709551615
  low : 0 < xs.length → ∀ b o, A = some ⟨b, o, none⟩ → b ≠ P
theorem Sl.ofGrown {k : IntKind} {w w' : World} {A : Option Addr} {xs : List Int} {P : Nat} (h : Sl k w A xs) (hg : w.grownBy w' (some P)) (hl : 0 < xs.length → ∀ b o, A = some ⟨b, o, none⟩ → b ≠ P) : Sl k w' A xs :=
  And.intro h.1 fun hp => by
    obtain ⟨b, o, e, hr⟩ := h.2 hp
    refine ⟨b, o, e, fun j v hv => ?_⟩
    exact hg.cell (hr j v hv) (by simp only [ne_eq, Option.some.injEq]; exact hl hp b o e)
theorem grow_set' {w w1 : World} {B : Nat} (h : w.grownBy w1 (some B)) (i : Nat) (v : Value) : w.grownBy (w1.setCell ⟨B, i, none⟩ v) (some B) :=
  ⟨h.os, h.tape, h.output, by simpa [World.setCell] using h.size, fun k hk hne => by rw [← h.block k hk hne]; exact heap_setCell_other w1 ⟨B, i, none⟩ k v (fun e => hne (by rw [e]))⟩
theorem u64_bd (z : Int) : 0 ≤ IntKind.u64.wrap z ∧ IntKind.u64.wrap z ≤ 18446744073709551615 := by simp [IntKind.wrap, IntKind.bits, IntKind.signed]; omega
theorem u8_conv {x : Int} (h : 0 ≤ x ∧ x ≤ 255) : IntKind.wrap .i64 x = x := by simp [IntKind.wrap, IntKind.bits, IntKind.signed]; omega
theorem and255 (q : Int) : ∃ r : Int, 0 ≤ r ∧ r ≤ 255 ∧ ∀ W, (binOp .and 78 (.int .u64 q) (.int .u64 255)).run Tryd.prog W = .ok (.int .u64 r) W := by
  have h : (BitVec.ofInt 64 q &&& BitVec.ofInt 64 255).toNat ≤ 255 := by
    rw [BitVec.toNat_and]; exact Nat.le_trans Nat.and_le_right (by decide)
  refine ⟨IntKind.u64.wrap (((BitVec.ofInt 64 q &&& BitVec.ofInt 64 255).toNat : Nat) : Int), (u64_bd _).1, ?_, fun W => rfl⟩
  generalize (BitVec.ofInt 64 q &&& BitVec.ofInt 64 255).toNat = z at *
  simp [IntKind.wrap, IntKind.bits, IntKind.signed]; omega
theorem shr40 (V : Int) : ∃ q : Int, ∀ W, (binOp .shr 78 (.int .u64 V) (.int .u64 40)).run Tryd.prog W = .ok (.int .u64 q) W := by
  refine ⟨V / 2 ^ (40 : Int).toNat, fun W => ?_⟩
  show (Op.shift .shr .u64 V .u64 40).run _ _ = _
  rw [shift_shr .u64 .u64 V 40 (by decide) (by decide)]
  rfl
section
variable {P : Program} {ops : Array Oper} {rest : List Oper} {op : Oper} {a : Act} {w : World} {Q : Exit → Act → World → Prop}
/-- An operation on two values, its answer told. -/
theorem take_bin (hgd : Region.wanted op (yielded ops a.tmps) = true) (bo : BinOp) (t t2 : TypeId) (x y : Operand) (ho : op.op = .binOp bo t x y t2) (vx vy v : Value) (hg : ∀ b1 b2, (eqGuard bo t b1 b2 vx vy).run P w = .ok () w) (hx : a.eval x = vx) (hy : a.eval y = vy)
    (hr : ∀ W, (binOp bo t vx vy).run P W = .ok v W) (h : wpList P ops Q rest (a.put op.dst v) w) : wpList P ops Q (op :: rest) a w :=
  BigFrame.wpList_want hgd fun _ hK => by
    have he : (execOp a.eval op).run P w = .ok (.value v) w := by
      unfold execOp
      rw [ho]
      simp only [hx, hy, Sem.run_bind, Sem.run_pure, Result.andThen_ok, hr, hg]
    unfold Oper.wp
    rw [he, Oper.upon_value]
    exact hK _ _ h
end
set_option maxRecDepth 100000 in
set_option maxHeartbeats 4000000 in
theorem next_any (P : Nat) (A : Option Addr) (xs : List Int) (c : Nat) (at' seed : Int) (w : World) (hS : SrcAt w P A xs c at' seed) (hat : at' < 999999999) :
    Calls Tryd.prog 66 #[.pointer (some ⟨P, 0, none⟩)] w fun e w' => (∃ x : Int, e = .returned (.int .i64 x) ∧ 0 ≤ x ∧ x ≤ 255) ∧ (∃ seed', SrcAt w' P A xs c (at' + 1) seed') ∧ w.grownBy w' (some P) := by
  obtain ⟨hB, hs, hl, hby, ha, hsd, hlow⟩ := hS
  have c0 := hB.at 0
  have c1 := hB.at 1
  have c2 := hB.at 2
  simp only [List.getElem?_cons_zero, List.getElem?_cons_succ] at c0 c1 c2
  have f1 := hB.frozen 1
  have f2 := hB.frozen 2
  obtain ⟨a, rfl⟩ : ∃ a : Nat, at' = (a : Int) := ⟨at'.toNat, by omega⟩
  have ha9 : (a : Int) ≤ 1000000000 := ha.2
  have hl9 : (xs.length : Int) ≤ 4097 := by omega
  by_cases hlt : a < xs.length
  · have hlt' : (a : Int) < (xs.length : Int) := by omega
    have hle' : (a : Int) + 1 ≤ (xs.length : Int) := by omega
    obtain ⟨b, o, rfl, hr⟩ := hs.2 (by omega)
    have cx : w.cell? ⟨b, o + a, none⟩ = some (.int .u8 (nth xs a)) := hr a _ (by show (List.map _ xs)[a]? = _; rw [List.getElem?_map, List.getElem?_eq_getElem hlt, nth_get xs a hlt]; rfl)
    have hx := hby _ (nth_mem xs a hlt)
    have hx0 := hx.1
    have hx1 := hx.2
    generalize nth xs a = x at *
    generalize hnl : xs.length = n at *
    have hnl := As.mk hnl
    have hl := As.mk (show xs.length ≤ 4097 by rw [hnl.out]; exact hl)
    clear hr
    go_enter Tryd.func66, Tryd.ntmps66
    go_wp2_with (fail)
    go_quiet (fail)
    go_wp2_with (fail)
    have hB1 : Blk (w.drewN nq) P [.slice (some ⟨b, o, none⟩) n c, .int .i64 (a : Int), .int .u64 seed] 80 := hB
    have cx1 : (w.drewN nq).cell? ⟨b, o + a, none⟩ = some (.int .u8 x) := cx
    have g1 : w.grownBy (w.drewN nq) (some P) := grownBy_drewN' (World.grownBy.refl _ _) nq
    clear hB cx c0 c1 c2 f1 f2
    generalize w.drewN nq = w1 at *
    have c0 := hB1.at 0
    have c1 := hB1.at 1
    have c2 := hB1.at 2
    simp only [List.getElem?_cons_zero, List.getElem?_cons_succ] at c0 c1 c2
    go_quiet (fail)
    have hB2 : Blk (w1.drewN nq) P [.slice (some ⟨b, o, none⟩) n c, .int .i64 (a : Int), .int .u64 seed] 80 := hB1
    have g2 := grownBy_drewN' g1 nq
    clear hB1 c0 c1 c2 cx1 g1
    generalize w1.drewN nq = w2 at *
    have c0 := hB2.at 0
    have c1 := hB2.at 1
    have c2 := hB2.at 2
    simp only [List.getElem?_cons_zero, List.getElem?_cons_succ] at c0 c1 c2
    have f1 := hB2.frozen 1
    have f2 := hB2.frozen 2
    go_wp2_with (fail)
    have hVb := u64_bd (IntKind.u64.wrap (IntKind.u64.wrap (seed * 6364136223846793005) + x) + 1442695040888963407)
    generalize IntKind.u64.wrap (IntKind.u64.wrap (IntKind.u64.wrap (seed * 6364136223846793005) + x) + 1442695040888963407) = V at hVb ⊢
    have hB3 := (hB2.set 1 (.int .i64 ((a : Int) + 1))).set 2 (.int .u64 V)
    have hB3 : Blk ((w2.setCell ⟨P, 1, none⟩ (.int .i64 ((a : Int) + 1))).setCell ⟨P, 2, none⟩ (.int .u64 V)) P [.slice (some ⟨b, o, none⟩) n c, .int .i64 ((a : Int) + 1), .int .u64 V] 80 := hB3
    have g3 := grow_set' (grow_set' g2 1 (.int .i64 ((a : Int) + 1))) 2 (.int .u64 V)
    clear hB2 c0 c1 c2 f1 f2 g2
    generalize (w2.setCell ⟨P, 1, none⟩ (.int .i64 ((a : Int) + 1))).setCell ⟨P, 2, none⟩ (.int .u64 V) = w3 at *
    have c0 := hB3.at 0
    have c1 := hB3.at 1
    have c2 := hB3.at 2
    simp only [List.getElem?_cons_zero, List.getElem?_cons_succ] at c0 c1 c2
    go_quiet (fail)
    have hB4 : Blk (w3.drewN nq) P [.slice (some ⟨b, o, none⟩) n c, .int .i64 ((a : Int) + 1), .int .u64 V] 80 := hB3
    have g4 := grownBy_drewN' g3 nq
    clear hB3 c0 c1 c2 g3
    generalize w3.drewN nq = w4 at *
    go_wp2_with (fail)
    go_ret
    refine ⟨⟨x, rfl, hx0, hx1⟩, ⟨V, ?_⟩, g4⟩
    exact ⟨by rw [hnl.out]; exact hB4, hs.ofGrown g4 (by rw [hnl.out]; exact hlow), hl.out, hby, ⟨by omega, by omega⟩, hVb, by rw [hnl.out]; exact hlow⟩
  · have hlt' : ¬ ((a : Int) < (xs.length : Int)) := by omega
    have hdec : decide ((a : Int) + 1 ≤ (xs.length : Int)) = false := decide_eq_false (by omega)
    generalize hnl : xs.length = n at *
    have hnl := As.mk hnl
    have hl := As.mk (show xs.length ≤ 4097 by rw [hnl.out]; exact hl)
    go_enter Tryd.func66, Tryd.ntmps66
    go_wp2_with (fail)
    go_quiet (fail)
    go_wp2_with (fail)
    have hB2 : Blk (w.drewN nq) P [.slice A n c, .int .i64 (a : Int), .int .u64 seed] 80 := hB
    have g2 : w.grownBy (w.drewN nq) (some P) := grownBy_drewN' (World.grownBy.refl _ _) nq
    clear hB c0 c1 c2 f1 f2
    generalize w.drewN nq = w2 at *
    have c0 := hB2.at 0
    have c1 := hB2.at 1
    have c2 := hB2.at 2
    simp only [List.getElem?_cons_zero, List.getElem?_cons_succ] at c0 c1 c2
    have f1 := hB2.frozen 1
    have f2 := hB2.frozen 2
    go_wp2_with (fail)
    have hVb := u64_bd (IntKind.u64.wrap (IntKind.u64.wrap (seed * 6364136223846793005)) + 1442695040888963407)
    generalize IntKind.u64.wrap (IntKind.u64.wrap (IntKind.u64.wrap (seed * 6364136223846793005)) + 1442695040888963407) = V at hVb ⊢
    have hB3 := (hB2.set 1 (.int .i64 ((a : Int) + 1))).set 2 (.int .u64 V)
    have hB3 : Blk ((w2.setCell ⟨P, 1, none⟩ (.int .i64 ((a : Int) + 1))).setCell ⟨P, 2, none⟩ (.int .u64 V)) P [.slice A n c, .int .i64 ((a : Int) + 1), .int .u64 V] 80 := hB3
    have g3 := grow_set' (grow_set' g2 1 (.int .i64 ((a : Int) + 1))) 2 (.int .u64 V)
    clear hB2 c0 c1 c2 f1 f2 g2
    generalize (w2.setCell ⟨P, 1, none⟩ (.int .i64 ((a : Int) + 1))).setCell ⟨P, 2, none⟩ (.int .u64 V) = w3 at *
    have c0 := hB3.at 0
    have c1 := hB3.at 1
    have c2 := hB3.at 2
    simp only [List.getElem?_cons_zero, List.getElem?_cons_succ] at c0 c1 c2
    go_quiet (fail)
    have hB4 : Blk (w3.drewN nq) P [.slice A n c, .int .i64 ((a : Int) + 1), .int .u64 V] 80 := hB3
    have g4 := grownBy_drewN' g3 nq
    clear hB3 c0 c1 c2 g3
    generalize w3.drewN nq = w4 at *
    have c2 := hB4.at 2
    simp only [List.getElem?_cons_zero, List.getElem?_cons_succ] at c2
    replace hVb := As.mk hVb
    replace hsd := As.mk hsd
    obtain ⟨q, hq⟩ := shr40 V
    obtain ⟨r, r0, r1, hr⟩ := and255 q
    generalize IntKind.u64.wrap (seed * 6364136223846793005) = Z
    generalize IntKind.u64.wrap Z = Z2
    go_wp2_with (first | (refine take_bin rfl .shr 78 _ _ _ rfl (.int .u64 V) (.int .u64 40) (.int .u64 q) (fun _ _ => rfl) rfl rfl hq ?_) | (refine take_bin rfl .and 78 _ _ _ rfl (.int .u64 q) (.int .u64 255) (.int .u64 r) (fun _ _ => rfl) rfl rfl hr ?_))
    go_ret
    refine ⟨⟨r, rfl, r0, r1⟩, ⟨V, ?_⟩, g4⟩
    exact ⟨by rw [hnl.out]; exact hB4, hs.ofGrown g4 (by rw [hnl.out]; exact hlow), hl.out, hby, ⟨by omega, by omega⟩, hVb.out, by rw [hnl.out]; exact hlow⟩

/-- A source at its start, or behind some choices. -/
def Src (w : World) (P : Nat) (A : Option Addr) (xs : List Int) (c : Nat) (k : Nat) : Prop := ∃ at' seed, SrcAt w P A xs c at' seed ∧ at' ≤ (k : Int)
theorem next_src (P : Nat) (A : Option Addr) (xs : List Int) (c k : Nat) (hk : k < 999999999) (w : World) (hS : Src w P A xs c k) :
    Calls Tryd.prog 66 #[.pointer (some ⟨P, 0, none⟩)] w fun e w' => (∃ x : Int, e = .returned (.int .i64 x) ∧ 0 ≤ x ∧ x ≤ 255) ∧ Src w' P A xs c (k + 1) ∧ w.grownBy w' (some P) := by
  obtain ⟨at', seed, h, hl⟩ := hS
  refine (next_any P A xs c at' seed w h (by omega)).mono ?_
  rintro e w' ⟨h1, ⟨s2, h2⟩, h3⟩
  exact ⟨h1, ⟨at' + 1, s2, h2, by omega⟩, h3⟩
set_option maxRecDepth 100000 in
set_option maxHeartbeats 1000000 in
theorem pick_src (P : Nat) (A : Option Addr) (xs : List Int) (c k : Nat) (hk : k < 999999999) (n : Int) (hn : 2 ≤ n ∧ n ≤ 200) (w : World) (hS : Src w P A xs c k) :
    Calls Tryd.prog 47 #[.pointer (some ⟨P, 0, none⟩), .int .i64 n] w fun e w' => (∃ x : Int, e = .returned (.int .i64 x) ∧ 0 ≤ x ∧ x < n) ∧ Src w' P A xs c (k + 1) ∧ w.grownBy w' (some P) := by
  have key := next_src P A xs c k hk w hS
  have h1 : ¬ (n ≤ 1) := by omega
  have h2 : ¬ (200 < n) := by omega
  have h0 : ¬ (n = 0) := by omega
  have hn1 := hn.1
  have hn2 := hn.2
  go_enter Tryd.func47, Tryd.ntmps47
  go_wp2_with (fail)
  refine key.mono ?_; rintro e w1 ⟨⟨x, rfl, x0, x1⟩, hS1, hg⟩
  have hm : Int.tmod x n = x % n := by rw [Int.tmod_eq_emod_of_nonneg x0]
  have m0 := Int.emod_nonneg x (by omega : n ≠ 0)
  have m1 := Int.emod_lt_of_pos x (by omega : 0 < n)
  generalize x % n = y at *
  go_wp2_with (fail)
  go_ret
  exact ⟨⟨y, rfl, m0, m1⟩, hS1, hg⟩
set_option maxRecDepth 100000 in
set_option maxHeartbeats 1000000 in
theorem l00From_any (A : Option Addr) (xs : List Int) (c : Nat) (w : World) (hs : Sl .u8 w A xs) (hl : xs.length ≤ 4097) (hb : ∀ x ∈ xs, 0 ≤ x ∧ x ≤ 255) :
    Calls Tryd.prog 33 #[.slice A xs.length c] w fun e w' => e = .returned (.pointer (some ⟨w.heap.size, 0, none⟩)) ∧ Src w' w.heap.size A xs c 0 ∧ Below w.heap.size w w' := by
  have bb := bl_new (Below.refl _ w) (.cells #[.slice A xs.length c, .int .i64 0, .int .u64 0] 80)
  have B0 : Blk (w.alloc (.cells #[.slice A xs.length c, .int .i64 0, .int .u64 0] 80)) w.heap.size [.slice A xs.length c, .int .i64 0, .int .u64 0] 80 := Blk.mk w [_, _, _] _ rfl
  have hS : Src (w.alloc (.cells #[.slice A xs.length c, .int .i64 0, .int .u64 0] 80)) w.heap.size A xs c 0 := ⟨0, 0, ⟨B0, hs.kept bb, hl, hb, by omega, by omega, fun hp b o e => by
      obtain ⟨b', o', e', hr⟩ := hs.2 hp
      rw [e] at e'
      simp only [Option.some.injEq, Addr.mk.injEq] at e'
      have hlt := World.block_lt_of_cell? w _ (hr 0 (.int .u8 xs[0]) (by rw [List.getElem?_map, List.getElem?_eq_getElem hp]; rfl))
      have : b = b' := e'.1
      simp only at hlt; omega⟩, by omega⟩
  generalize xs.length = n at *
  go_enter Tryd.func33, Tryd.ntmps33
  go_wp2_with (fail)
  go_ret
  exact ⟨rfl, hS, bb⟩
set_option maxRecDepth 100000 in
set_option maxHeartbeats 1000000 in
theorem P6Pick_any (n : Int) (hn : 2 ≤ n ∧ n ≤ 200) (A : Option Addr) (xs : List Int) (c : Nat) (w : World) (hs : Sl .u8 w A xs) (hl : xs.length ≤ 4097) (hb : ∀ x ∈ xs, 0 ≤ x ∧ x ≤ 255) :
    Calls Tryd.prog 25 #[.slice A xs.length c, .int .i64 n] w fun e w' => (∃ x : Int, e = .returned (.int .i64 x) ∧ 0 ≤ x ∧ x < n) ∧ Below w.heap.size w w' := by
  have key := l00From_any A xs c w hs hl hb
  have key2 := fun W h => pick_src w.heap.size A xs c 0 (by omega) n hn W h
  generalize xs.length = m at *
  go_enter Tryd.func25, Tryd.ntmps25
  go_wp2_with (fail)
  refine key.mono ?_; rintro e w1 ⟨rfl, hS, hb1⟩
  go_wp2_with (fail)
  refine (key2 w1 hS).mono ?_; rintro e w2 ⟨⟨x, rfl, x0, x1⟩, _, hg⟩
  have hb2 : Below w.heap.size w w2 := hb1.grown hg hb1.size (fun k hk => by simp only [Option.some.injEq] at hk; omega)
  go_wp2_with (fail)
  go_ret
  exact ⟨⟨x, rfl, x0, x1⟩, hb2⟩
end Go.Proofs.YtjppoejkfpeicaaDoor

/- Contracts: slices.Reverse over the 24 bytes of a flag; TurnFlag, both sides. -/
set_option linter.unusedVariables false
namespace Go.Proofs.YtjppoejkfpeicaaDoor
open Go.RowKit

/-- Only block g of w may have been written; new blocks may have come. -/
def Only (g : Nat) (w w' : World) : Prop := w.grownBy w' (some g)
theorem Only.refl (g : Nat) (w : World) : Only g w w := ⟨rfl, rfl, rfl, Nat.le_refl _, fun _ _ _ => rfl⟩
theorem Only.setCell {g : Nat} {w w' : World} (h : Only g w w') (i : Nat) (v : Value) : Only g w (w'.setCell ⟨g, i, none⟩ v) :=
  ⟨h.os, h.tape, h.output, by simpa [World.setCell] using h.size, fun k hk hne => by rw [← h.block k hk hne]; exact heap_setCell_other w' ⟨g, i, none⟩ k v (fun e => hne (by rw [e]))⟩
theorem Only.drewN {g : Nat} {w w' : World} (h : Only g w w') (n : Nat) : Only g w (w'.drewN n) := ⟨h.os, h.tape, h.output, h.size, h.block⟩
theorem Only.drew {g : Nat} {w w' : World} (h : Only g w w') : Only g w w'.drew := ⟨h.os, h.tape, h.output, h.size, h.block⟩
theorem Only.blk {g b : Nat} {w w' : World} {cs : List Value} {t : TypeId} (h : Only g w w') (hB : Blk w b cs t) (hne : b ≠ g) : Blk w' b cs t := (h.block b hB.lt (fun e => hne (Option.some.inj e))).trans hB
theorem Only.below {g B : Nat} {w0 w w' : World} (h : Only g w w') (hb : Below B w0 w) (hg : B ≤ g) (hB : B ≤ w.heap.size) : Below B w0 w' :=
  hb.trans ⟨h.os, h.tape, h.output, h.size, fun k hk => h.block k (Nat.lt_of_lt_of_le hk hB) (fun e => by injection e with e; omega)⟩
theorem cell?_setCell_some {w : World} {p q : Addr} {x v : Value} (h : w.cell? q = some v) : ∃ v', (w.setCell p x).cell? q = some v' := by
  by_cases e : p = q
  · subst e; exact ⟨x, World.cell?_setCell_same w p x h⟩
  · exact ⟨v, (World.cell?_setCell_other w p q x e).trans h⟩

/-- k exchanges from both ends. -/
def revK (xs : List Int) (k : Nat) : List Int := (List.range 24).map fun i => if i < k ∨ 23 < i + k then nth xs (23 - i) else nth xs i
theorem revK_length (xs : List Int) (k : Nat) : (revK xs k).length = 24 := by simp [revK]
theorem revK_zero (xs : List Int) (hx : xs.length = 24) : revK xs 0 = xs := by
  conv => rhs; rw [← range_nth xs 24 hx]
  apply List.map_congr_left
  intro i hi
  rw [List.mem_range] at hi
  rw [if_neg (by omega)]
theorem revK_done (xs : List Int) : revK xs 12 = turnL xs := by
  apply List.map_congr_left
  intro i hi
  rw [List.mem_range] at hi
  rw [if_pos (by omega)]
theorem revK_nth (xs : List Int) (k i : Nat) (hi : i < 24) (h : ¬ (i < k ∨ 23 < i + k)) : nth (revK xs k) i = nth xs i := by
  unfold revK; rw [nth_map_range _ _ _ hi, if_neg h]
theorem revK_step (xs : List Int) (k m : Nat) (hk : k < 12) (hm : k + m = 23) : ((revK xs k).set k (nth xs m)).set m (nth xs k) = revK xs (k + 1) := by
  apply List.ext_getElem
  · simp [revK]
  · intro i h1 h2
    simp only [List.getElem_set, revK, List.getElem_map, List.getElem_range]
    have hi : i < 24 := by simpa [revK] using h2
    by_cases e1 : m = i
    · subst e1
      rw [if_pos rfl, if_pos (by omega)]
      congr 1; omega
    · rw [if_neg e1]
      by_cases e2 : k = i
      · subst e2
        rw [if_pos rfl, if_pos (by omega)]
        congr 1; omega
      · rw [if_neg e2]
        by_cases h3 : i < k ∨ 23 < i + k
        · rw [if_pos h3, if_pos (by omega)]
        · rw [if_neg h3, if_neg (by omega)]

set_option maxHeartbeats 800000 in
theorem Reverse_u8 (xs : List Int) (hx : xs.length = 24) (b c : Nat) (t : TypeId) (w : World) (hB : Blk w b (u8s xs) t) :
    Calls Tryd.prog 62 #[.slice (some ⟨b, 0, none⟩) 24 c] w fun e w' => e = .returned (.tuple #[]) ∧ Blk w' b (u8s (turnL xs)) t ∧ Only b w w' := by
  go_enter Tryd.func62, Tryd.ntmps62
  go_wp2
  go_loopw [2, 3] (fun i j wr => ∃ k m : Nat, k ≤ 12 ∧ k + m = 23 ∧ i = .int .i64 k ∧ j = .int .i64 m ∧ Blk wr b (u8s (revK xs k)) t ∧ Only b w wr) (fun i _ _ => 12 - (intOf i).toNat)
  case atStart => exact ⟨0, 23, by omega, by omega, rfl, rfl, by rw [revK_zero xs hx]; exact hB, Only.refl _ _⟩
  case round =>
    obtain ⟨k, m, hk, hm, rfl, rfl, h1, ho⟩ := hrel
    by_cases hlt : k < 12
    · have ha : (k : Int) < (m : Int) := by omega
      have hb0 : (k : Int) < 24 := by omega
      have hb1 : (m : Int) < 24 := by omega
      have c0 : wr.cell? ⟨b, k, none⟩ = some (.int .u8 (nth xs k)) := by rw [h1.at, u8s_get _ k (by rw [revK_length]; omega), revK_nth xs k k (by omega) (by omega)]
      have c1 : wr.cell? ⟨b, m, none⟩ = some (.int .u8 (nth xs m)) := by rw [h1.at, u8s_get _ m (by rw [revK_length]; omega), revK_nth xs k m (by omega) (by omega)]
      have f0 := h1.frozen k
      have f1 := h1.frozen m
      obtain ⟨v', c2⟩ := cell?_setCell_some (w := wr.drew) (p := ⟨b, k, none⟩) (x := .int .u8 (nth xs m)) (q := ⟨b, m, none⟩) (v := .int .u8 (nth xs m)) (by go_simp)
      rw [World.setCell_drew, World.cell?_drew] at c2
      have hs := As.mk (revK_step xs k m hlt hm)
      have hm' := As.mk hm
      clear hm
      go_wp2
      go_region
      go_wp2
      go_roundw
      case rel => exact ⟨k + 1, m - 1, by omega, by have := hm'.out; omega, by go_num, by have := hm'.out; go_num, by have h2 := (h1.set k (.int .u8 (nth xs m))).set m (.int .u8 (nth xs k)); rw [u8s_set, u8s_set, hs.out] at h2; exact h2, (((ho.setCell _ _).setCell _ _)).drew⟩
      case measure => simp [intOf]; omega
    · obtain rfl : k = 12 := by omega
      obtain rfl : m = 11 := by omega
      rw [revK_done] at h1
      go_wp2
      go_end0
      exact ⟨rfl, h1, ho⟩
end Go.Proofs.YtjppoejkfpeicaaDoor
