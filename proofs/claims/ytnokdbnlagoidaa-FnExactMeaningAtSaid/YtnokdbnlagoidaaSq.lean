/- Contracts: how many flags of each kind, and substitutes, a hoist has; how many sets it needs (spec). -/
import Derived.Test.YtnokdbnlagoidaaSm
import Derived.Test.YtnokdbnlagoidaaH3
set_option linter.unusedVariables false
namespace Go.Proofs.Ytnokdbnlagoidaa
open Go.RowKit
theorem take_nth' (xs : List Int) (k : Nat) (h : k < xs.length) : xs.take (k + 1) = xs.take k ++ [nth xs k] := by
  rw [List.take_add_one, nth_get? xs k h]; rfl
theorem l00Max_any (a b : Int) (w : World) : Calls Try.prog 112 #[.int .i64 a, .int .i64 b] w fun e w' => e = .returned (.int .i64 (max a b)) ∧ w = w' := by
  by_cases h : b < a
  · have hm : max a b = a := by omega
    rw [hm]
    go_enter Try.func112, Try.ntmps112
    go_wp2
    go_ret
    exact ⟨rfl, rfl⟩
  · have hm : max a b = b := by omega
    rw [hm]
    go_enter Try.func112, Try.ntmps112
    go_wp2
    go_ret
    exact ⟨rfl, rfl⟩

theorem info_40 : (Try.prog.info? 122).map (·.size) = some 40 := by kernel_rfl
def zero40 : List Int := List.replicate 40 0
/-- How many of each the first k numbers have. -/
def flK (h : List Int) (k : Nat) : List Int := (List.range 40).map fun (i : Nat) => ((h.take k).count ((i : Int)) : Int)
theorem flK_length (h : List Int) (k : Nat) : (flK h k).length = 40 := by simp [flK]
theorem flK_zero (h : List Int) : flK h 0 = zero40 := by
  unfold flK zero40; simp; rfl
theorem flK_nth (h : List Int) (k c : Nat) (hc : c < 40) : nth (flK h k) c = ((h.take k).count ((c : Int)) : Int) := by unfold flK; rw [nth_map_range _ _ _ hc]
theorem flK_other (h : List Int) (k : Nat) (hk : k < h.length) (hx : ∀ c : Nat, c < 40 → nth h k ≠ (c : Int)) : flK h (k + 1) = flK h k := by
  unfold flK
  apply List.map_congr_left
  intro i hi
  rw [List.mem_range] at hi
  rw [take_nth' h k hk, List.count_append, List.count_singleton]
  have := hx i hi
  simp [this]
theorem flK_step (h : List Int) (k c : Nat) (hk : k < h.length) (hx : nth h k = (c : Int)) : (flK h k).set c (((h.take k).count ((c : Int)) : Int) + 1) = flK h (k + 1) := by
  apply List.ext_getElem
  · simp [flK]
  · intro i h1 h2
    simp only [List.getElem_set, flK, List.getElem_map, List.getElem_range]
    rw [take_nth' h k hk, List.count_append, List.count_singleton, hx]
    by_cases e : c = i
    · subst e; simp
    · rw [if_neg e]
      have : ¬ (((c : Int) : Int) == ((i : Int))) = true := by rw [beq_iff_eq]; omega
      simp [this]

theorem info_4 : (Try.prog.info? 125).map (·.size) = some 4 := by kernel_rfl
def zero4 : List Int := List.replicate 4 0
/-- How many of each the first k numbers have. -/
def sbK (h : List Int) (k : Nat) : List Int := (List.range 4).map fun (i : Nat) => ((h.take k).count (-((i : Int) + 1)) : Int)
theorem sbK_length (h : List Int) (k : Nat) : (sbK h k).length = 4 := by simp [sbK]
theorem sbK_zero (h : List Int) : sbK h 0 = zero4 := by
  unfold sbK zero4; simp; rfl
theorem sbK_nth (h : List Int) (k c : Nat) (hc : c < 4) : nth (sbK h k) c = ((h.take k).count (-((c : Int) + 1)) : Int) := by unfold sbK; rw [nth_map_range _ _ _ hc]
theorem sbK_other (h : List Int) (k : Nat) (hk : k < h.length) (hx : ∀ c : Nat, c < 4 → nth h k ≠ -((c : Int) + 1)) : sbK h (k + 1) = sbK h k := by
  unfold sbK
  apply List.map_congr_left
  intro i hi
  rw [List.mem_range] at hi
  rw [take_nth' h k hk, List.count_append, List.count_singleton]
  have := hx i hi
  simp [this]
theorem sbK_step (h : List Int) (k c : Nat) (hk : k < h.length) (hx : nth h k = -((c : Int) + 1)) : (sbK h k).set c (((h.take k).count (-((c : Int) + 1)) : Int) + 1) = sbK h (k + 1) := by
  apply List.ext_getElem
  · simp [sbK]
  · intro i h1 h2
    simp only [List.getElem_set, sbK, List.getElem_map, List.getElem_range]
    rw [take_nth' h k hk, List.count_append, List.count_singleton, hx]
    by_cases e : c = i
    · subst e; simp
    · rw [if_neg e]
      have : ¬ ((-((c : Int) + 1) : Int) == (-((i : Int) + 1))) = true := by rw [beq_iff_eq]; omega
      simp [this]

set_option maxRecDepth 100000 in
set_option maxHeartbeats 1000000 in
theorem l02Flags_any (h : List Int) (hn : ∀ x ∈ h, isNum 4 x) (A : Option Addr) (c : Nat) (w : World) (hs : Sl .i8 w A h) (hl : h.length ≤ 1048576) :
    Calls Try.prog 111 #[.slice A h.length c] w fun e w' => e = .returned (.agg (i64s (flK h h.length)).toArray) ∧ Below w.heap.size w w' := by
  have W1 : Blk ((w.alloc (.cells #[.int .i64 0, .int .i64 0, .int .i64 0, .int .i64 0, .int .i64 0, .int .i64 0, .int .i64 0, .int .i64 0, .int .i64 0, .int .i64 0, .int .i64 0, .int .i64 0, .int .i64 0, .int .i64 0, .int .i64 0, .int .i64 0, .int .i64 0, .int .i64 0, .int .i64 0, .int .i64 0, .int .i64 0, .int .i64 0, .int .i64 0, .int .i64 0, .int .i64 0, .int .i64 0, .int .i64 0, .int .i64 0, .int .i64 0, .int .i64 0, .int .i64 0, .int .i64 0, .int .i64 0, .int .i64 0, .int .i64 0, .int .i64 0, .int .i64 0, .int .i64 0, .int .i64 0, .int .i64 0] 122)).alloc (.cells #[.int .i64 0, .int .i64 0, .int .i64 0, .int .i64 0, .int .i64 0, .int .i64 0, .int .i64 0, .int .i64 0, .int .i64 0, .int .i64 0, .int .i64 0, .int .i64 0, .int .i64 0, .int .i64 0, .int .i64 0, .int .i64 0, .int .i64 0, .int .i64 0, .int .i64 0, .int .i64 0, .int .i64 0, .int .i64 0, .int .i64 0, .int .i64 0, .int .i64 0, .int .i64 0, .int .i64 0, .int .i64 0, .int .i64 0, .int .i64 0, .int .i64 0, .int .i64 0, .int .i64 0, .int .i64 0, .int .i64 0, .int .i64 0, .int .i64 0, .int .i64 0, .int .i64 0, .int .i64 0] 122)) w.heap.size (i64s zero40) 122 := (Blk.mk _ (i64s zero40) _ rfl).alloc _
  have W2 : Blk ((w.alloc (.cells #[.int .i64 0, .int .i64 0, .int .i64 0, .int .i64 0, .int .i64 0, .int .i64 0, .int .i64 0, .int .i64 0, .int .i64 0, .int .i64 0, .int .i64 0, .int .i64 0, .int .i64 0, .int .i64 0, .int .i64 0, .int .i64 0, .int .i64 0, .int .i64 0, .int .i64 0, .int .i64 0, .int .i64 0, .int .i64 0, .int .i64 0, .int .i64 0, .int .i64 0, .int .i64 0, .int .i64 0, .int .i64 0, .int .i64 0, .int .i64 0, .int .i64 0, .int .i64 0, .int .i64 0, .int .i64 0, .int .i64 0, .int .i64 0, .int .i64 0, .int .i64 0, .int .i64 0, .int .i64 0] 122)).alloc (.cells #[.int .i64 0, .int .i64 0, .int .i64 0, .int .i64 0, .int .i64 0, .int .i64 0, .int .i64 0, .int .i64 0, .int .i64 0, .int .i64 0, .int .i64 0, .int .i64 0, .int .i64 0, .int .i64 0, .int .i64 0, .int .i64 0, .int .i64 0, .int .i64 0, .int .i64 0, .int .i64 0, .int .i64 0, .int .i64 0, .int .i64 0, .int .i64 0, .int .i64 0, .int .i64 0, .int .i64 0, .int .i64 0, .int .i64 0, .int .i64 0, .int .i64 0, .int .i64 0, .int .i64 0, .int .i64 0, .int .i64 0, .int .i64 0, .int .i64 0, .int .i64 0, .int .i64 0, .int .i64 0] 122)) (w.heap.size + 1) (i64s zero40) 122 := Blk.mk _ (i64s zero40) _ (by simp)
  have b0 : Below w.heap.size w ((w.alloc (.cells #[.int .i64 0, .int .i64 0, .int .i64 0, .int .i64 0, .int .i64 0, .int .i64 0, .int .i64 0, .int .i64 0, .int .i64 0, .int .i64 0, .int .i64 0, .int .i64 0, .int .i64 0, .int .i64 0, .int .i64 0, .int .i64 0, .int .i64 0, .int .i64 0, .int .i64 0, .int .i64 0, .int .i64 0, .int .i64 0, .int .i64 0, .int .i64 0, .int .i64 0, .int .i64 0, .int .i64 0, .int .i64 0, .int .i64 0, .int .i64 0, .int .i64 0, .int .i64 0, .int .i64 0, .int .i64 0, .int .i64 0, .int .i64 0, .int .i64 0, .int .i64 0, .int .i64 0, .int .i64 0] 122)).alloc (.cells #[.int .i64 0, .int .i64 0, .int .i64 0, .int .i64 0, .int .i64 0, .int .i64 0, .int .i64 0, .int .i64 0, .int .i64 0, .int .i64 0, .int .i64 0, .int .i64 0, .int .i64 0, .int .i64 0, .int .i64 0, .int .i64 0, .int .i64 0, .int .i64 0, .int .i64 0, .int .i64 0, .int .i64 0, .int .i64 0, .int .i64 0, .int .i64 0, .int .i64 0, .int .i64 0, .int .i64 0, .int .i64 0, .int .i64 0, .int .i64 0, .int .i64 0, .int .i64 0, .int .i64 0, .int .i64 0, .int .i64 0, .int .i64 0, .int .i64 0, .int .i64 0, .int .i64 0, .int .i64 0] 122)) := bl_new (bl_new (Below.refl _ _) _) _
  have V1 := W1.farRow (g := w.heap.size + 1) (by omega) (i64s zero40).toArray
  have V2 := W2.setRow (i64s zero40)
  have d0 := bl_setRow b0 (g := w.heap.size + 1) (by omega) (i64s zero40).toArray
  have HN := As.mk hn
  have HZ := As.mk (flK_zero h)
  obtain ⟨n, hm⟩ : ∃ n, h.length = n := ⟨_, rfl⟩
  have HM := As.mk hm
  rw [hm] at hl ⊢
  clear hm hn
  go_enter Try.func111, Try.ntmps111
  go_wp2_with (refine store_blk rfl 122 _ _ rfl _ rfl (ds := i64s zero40) rfl W2 info_40 (by rw [i64s_length]; exact rfl) (by rw [i64s_length]; exact rfl) (i64s_one _) ?_)
  go_loopw [4] (fun i wr => ∃ k : Nat, k ≤ n ∧ i = .int .i64 k ∧ Blk wr w.heap.size (i64s zero40) 122 ∧ Blk wr (w.heap.size + 1) (i64s (flK h k)) 122 ∧ Below w.heap.size w wr) (fun i _ => n - (intOf i).toNat)
  case atStart => exact ⟨0, by omega, rfl, V1, by rw [HZ.out]; exact V2, d0⟩
  case round =>
    obtain ⟨k, hk, rfl, X1, X2, hb⟩ := hrel
    clear W1 W2 V1 V2 b0 d0
    by_cases hlt : k < n
    · have hlt' : (k : Int) < (n : Int) := by omega
      have hkl := As.mk (show k < h.length by rw [HM.out]; exact hlt)
      obtain ⟨b, o, rfl, hr⟩ := (hs.kept hb).2 (by rw [HM.out]; omega)
      have c0 : wr.cell? ⟨b, o + k, none⟩ = some (.int .i8 (nth h k)) := hr k _ (i8s_get h k hkl.out)
      have hx := HN.out _ (nth_mem h k hkl.out)
      by_cases hp : 0 ≤ nth h k
      · obtain ⟨q, hq⟩ : ∃ q : Nat, nth h k = (q : Int) := ⟨(nth h k).toNat, by unfold isNum at hx; omega⟩
        have hq40 : q < 40 := by unfold isNum at hx; omega
        have hst := As.mk (flK_step h k q hkl.out hq)
        have c2 : wr.cell? ⟨w.heap.size + 1, q, none⟩ = some (.int .i64 ((h.take k).count ((q : Int)) : Int)) := by rw [X2.at, i64s_get _ q (by rw [flK_length]; exact hq40), flK_nth h k q hq40]
        have hbd : (h.take k).count ((q : Int)) ≤ 1048576 := Nat.le_trans List.count_le_length (by rw [List.length_take]; omega)
        have f2 := X2.frozen q
        have hq40' : (q : Int) < 40 := by omega
        rw [hq] at c0
        generalize (h.take k).count ((q : Int)) = cc at *
        have hq0 : (0 : Int) ≤ (q : Int) := by omega
        clear hx hp hq hr
        go_wp2
        go_roundw
        case rel => exact ⟨k + 1, by omega, by go_num, X1.far (by simp) _, by have := X2.set q (.int .i64 ((cc : Int) + 1)); rw [i64s_set, hst.out] at this; exact this, hb.setCell (by simp) _⟩
        case measure => simp [intOf]; omega
      · have hst := As.mk (flK_other h k hkl.out (fun c hc => by unfold isNum at hx; omega))
        have hp' : ¬ (0 ≤ nth h k) := hp
        clear hx hr
        go_wp2
        go_roundw
        case rel => exact ⟨k + 1, by omega, by go_num, X1, by rw [hst.out]; exact X2, hb⟩
        case measure => simp [intOf]; omega
    · obtain rfl : k = n := by omega
      have hl40 := flK_length h k
      go_wp2_with (first | (refine load_blk rfl 122 _ rfl _ rfl X2 Try.underlying122 rfl info_40 (by rw [i64s_length]; exact hl40) ?_) | (refine store_blk rfl 122 _ _ rfl _ rfl (ds := i64s (flK h k)) rfl X1 info_40 (by rw [i64s_length]; exact hl40) (by rw [i64s_length]; exact rfl) (i64s_one _) ?_))
      refine ret_blk rfl _ rfl (X1.setRow _) Try.underlying122 rfl info_40 (by rw [i64s_length]; exact hl40) rfl ⟨rfl, bl_setRow hb (by omega) _⟩

set_option maxRecDepth 100000 in
set_option maxHeartbeats 1000000 in
theorem l02Subs_any (h : List Int) (hn : ∀ x ∈ h, isNum 4 x) (A : Option Addr) (c : Nat) (w : World) (hs : Sl .i8 w A h) (hl : h.length ≤ 1048576) :
    Calls Try.prog 113 #[.slice A h.length c] w fun e w' => e = .returned (.agg (i64s (sbK h h.length)).toArray) ∧ Below w.heap.size w w' := by
  have W1 : Blk ((w.alloc (.cells #[.int .i64 0, .int .i64 0, .int .i64 0, .int .i64 0] 125)).alloc (.cells #[.int .i64 0, .int .i64 0, .int .i64 0, .int .i64 0] 125)) w.heap.size (i64s zero4) 125 := (Blk.mk _ (i64s zero4) _ rfl).alloc _
  have W2 : Blk ((w.alloc (.cells #[.int .i64 0, .int .i64 0, .int .i64 0, .int .i64 0] 125)).alloc (.cells #[.int .i64 0, .int .i64 0, .int .i64 0, .int .i64 0] 125)) (w.heap.size + 1) (i64s zero4) 125 := Blk.mk _ (i64s zero4) _ (by simp)
  have b0 : Below w.heap.size w ((w.alloc (.cells #[.int .i64 0, .int .i64 0, .int .i64 0, .int .i64 0] 125)).alloc (.cells #[.int .i64 0, .int .i64 0, .int .i64 0, .int .i64 0] 125)) := bl_new (bl_new (Below.refl _ _) _) _
  have V1 := W1.farRow (g := w.heap.size + 1) (by omega) (i64s zero4).toArray
  have V2 := W2.setRow (i64s zero4)
  have d0 := bl_setRow b0 (g := w.heap.size + 1) (by omega) (i64s zero4).toArray
  have HN := As.mk hn
  have HZ := As.mk (sbK_zero h)
  obtain ⟨n, hm⟩ : ∃ n, h.length = n := ⟨_, rfl⟩
  have HM := As.mk hm
  rw [hm] at hl ⊢
  clear hm hn
  go_enter Try.func113, Try.ntmps113
  go_wp2_with (refine store_blk rfl 125 _ _ rfl _ rfl (ds := i64s zero4) rfl W2 info_4 (by rw [i64s_length]; exact rfl) (by rw [i64s_length]; exact rfl) (i64s_one _) ?_)
  go_loopw [4] (fun i wr => ∃ k : Nat, k ≤ n ∧ i = .int .i64 k ∧ Blk wr w.heap.size (i64s zero4) 125 ∧ Blk wr (w.heap.size + 1) (i64s (sbK h k)) 125 ∧ Below w.heap.size w wr) (fun i _ => n - (intOf i).toNat)
  case atStart => exact ⟨0, by omega, rfl, V1, by rw [HZ.out]; exact V2, d0⟩
  case round =>
    obtain ⟨k, hk, rfl, X1, X2, hb⟩ := hrel
    clear W1 W2 V1 V2 b0 d0
    by_cases hlt : k < n
    · have hlt' : (k : Int) < (n : Int) := by omega
      have hkl := As.mk (show k < h.length by rw [HM.out]; exact hlt)
      obtain ⟨b, o, rfl, hr⟩ := (hs.kept hb).2 (by rw [HM.out]; omega)
      have c0 : wr.cell? ⟨b, o + k, none⟩ = some (.int .i8 (nth h k)) := hr k _ (i8s_get h k hkl.out)
      have hx := HN.out _ (nth_mem h k hkl.out)
      by_cases hp : nth h k < 0 ∧ nth h k ≠ -10
      · obtain ⟨q, hq⟩ : ∃ q : Nat, nth h k = -((q : Int) + 1) := ⟨(-(nth h k) - 1).toNat, by unfold isNum at hx; omega⟩
        have hq40 : q < 4 := by unfold isNum at hx; omega
        have hst := As.mk (sbK_step h k q hkl.out hq)
        have c2 : wr.cell? ⟨w.heap.size + 1, q, none⟩ = some (.int .i64 ((h.take k).count (-((q : Int) + 1)) : Int)) := by rw [X2.at, i64s_get _ q (by rw [sbK_length]; exact hq40), sbK_nth h k q hq40]
        have hbd : (h.take k).count (-((q : Int) + 1)) ≤ 1048576 := Nat.le_trans List.count_le_length (by rw [List.length_take]; omega)
        have f2 := X2.frozen q
        have hq40' : (q : Int) < 4 := by omega
        rw [hq] at c0
        generalize (h.take k).count (-((q : Int) + 1)) = cc at *
        have hq0 : -((q : Int) + 1) < 0 := by omega
        have hq1 : (-((q : Int) + 1) != -10) = true := by rw [bne_iff_ne]; omega
        clear hx hp hq hr
        go_wp2
        go_roundw
        case rel => exact ⟨k + 1, by omega, by go_num, X1.far (by simp) _, by have := X2.set q (.int .i64 ((cc : Int) + 1)); rw [i64s_set, hst.out] at this; exact this, hb.setCell (by simp) _⟩
        case measure => simp [intOf]; omega
      · have hst := As.mk (sbK_other h k hkl.out (fun c hc => by unfold isNum at hx; omega))
        by_cases hp1 : nth h k < 0
        · have hp2 : (nth h k != -10) = false := by rw [bne_eq_false_iff_eq]; omega
          clear hx hr hp
          go_wp2
          go_roundw
          case rel => exact ⟨k + 1, by omega, by go_num, X1, by rw [hst.out]; exact X2, hb⟩
          case measure => simp [intOf]; omega
        · clear hx hr hp
          go_wp2
          go_roundw
          case rel => exact ⟨k + 1, by omega, by go_num, X1, by rw [hst.out]; exact X2, hb⟩
          case measure => simp [intOf]; omega
    · obtain rfl : k = n := by omega
      have hl40 := sbK_length h k
      go_wp2_with (first | (refine load_blk rfl 125 _ rfl _ rfl X2 Try.underlying125 rfl info_4 (by rw [i64s_length]; exact hl40) ?_) | (refine store_blk rfl 125 _ _ rfl _ rfl (ds := i64s (sbK h k)) rfl X1 info_4 (by rw [i64s_length]; exact hl40) (by rw [i64s_length]; exact rfl) (i64s_one _) ?_))
      refine ret_blk rfl _ rfl (X1.setRow _) Try.underlying125 rfl info_4 (by rw [i64s_length]; exact hl40) rfl ⟨rfl, bl_setRow hb (by omega) _⟩

/-- The greatest of the first k numbers, and of a. -/
def mK (ys : List Int) (a : Int) : Nat → Int
  | 0 => a
  | k + 1 => max (mK ys a k) (nth ys k)
theorem mK_le (ys : List Int) (a s : Int) : ∀ k, mK ys a k ≤ s ↔ a ≤ s ∧ ∀ i, i < k → nth ys i ≤ s
  | 0 => by simp [mK]
  | k + 1 => by
    show max _ _ ≤ s ↔ _
    rw [Int.max_le, mK_le ys a s k]
    constructor
    · intro ⟨⟨h1, h2⟩, h3⟩
      exact ⟨h1, all_succ (p := fun i => nth ys i ≤ s) h2 h3⟩
    · intro ⟨h1, h2⟩
      exact ⟨⟨h1, fun i hi => h2 i (by omega)⟩, h2 k (by omega)⟩
theorem sets_most (h : List Int) : mK (sbK h h.length) (mK (flK h h.length) 0 40) 4 = most h nums44 := by
  have key : ∀ s : Int, mK (sbK h h.length) (mK (flK h h.length) 0 40) 4 ≤ s ↔ most h nums44 ≤ s := by
    intro s
    rw [mK_le, mK_le]
    unfold most
    rw [foldl_max_le]
    constructor
    · intro ⟨⟨h0, h1⟩, h2⟩
      refine ⟨h0, fun x hx => ?_⟩
      unfold nums44 at hx
      rw [List.mem_append, List.mem_map, List.mem_map] at hx
      rcases hx with ⟨k, hk, rfl⟩ | ⟨k, hk, rfl⟩
      · rw [List.mem_range] at hk
        have := h1 k hk
        rw [flK_nth h _ k hk, List.take_length] at this
        exact this
      · rw [List.mem_range] at hk
        have := h2 k hk
        rw [sbK_nth h _ k hk, List.take_length] at this
        exact this
    · intro ⟨h0, h1⟩
      refine ⟨⟨h0, fun k hk => ?_⟩, fun k hk => ?_⟩
      · rw [flK_nth h _ k hk, List.take_length]
        exact h1 _ (by unfold nums44; rw [List.mem_append]; left; rw [List.mem_map]; exact ⟨k, List.mem_range.2 hk, rfl⟩)
      · rw [sbK_nth h _ k hk, List.take_length]
        exact h1 _ (by unfold nums44; rw [List.mem_append]; right; rw [List.mem_map]; exact ⟨k, List.mem_range.2 hk, rfl⟩)
  have h1 := (key (most h nums44)).2 (Int.le_refl _)
  have h2 := (key (mK (sbK h h.length) (mK (flK h h.length) 0 40) 4)).1 (Int.le_refl _)
  omega

set_option maxRecDepth 100000 in
set_option maxHeartbeats 1000000 in
theorem l02Sets_any (h : List Int) (hn : ∀ x ∈ h, isNum 4 x) (A : Option Addr) (c : Nat) (w : World) (hs : Sl .i8 w A h) (hl : h.length ≤ 1048576) :
    Calls Try.prog 103 #[.slice A h.length c] w fun e w' => e = .returned (.int .i64 (most h nums44)) ∧ Below w.heap.size w w' := by
  rw [← sets_most]
  have k1 := l02Flags_any h hn A c w hs hl
  have k2 := fun W hW => l02Subs_any h hn A c W hW hl
  have l1 := flK_length h h.length
  have l2 := sbK_length h h.length
  generalize flK h h.length = ys at *
  generalize sbK h h.length = zs at *
  have hbig := hs.1
  go_enter Try.func103, Try.ntmps103
  go_wp2_with (fail)
  refine (k1).mono ?_; rintro e w1 ⟨rfl, hb1⟩
  have B1 : Blk (w1.alloc (.cells #[.int .i64 0, .int .i64 0, .int .i64 0, .int .i64 0, .int .i64 0, .int .i64 0, .int .i64 0, .int .i64 0, .int .i64 0, .int .i64 0, .int .i64 0, .int .i64 0, .int .i64 0, .int .i64 0, .int .i64 0, .int .i64 0, .int .i64 0, .int .i64 0, .int .i64 0, .int .i64 0, .int .i64 0, .int .i64 0, .int .i64 0, .int .i64 0, .int .i64 0, .int .i64 0, .int .i64 0, .int .i64 0, .int .i64 0, .int .i64 0, .int .i64 0, .int .i64 0, .int .i64 0, .int .i64 0, .int .i64 0, .int .i64 0, .int .i64 0, .int .i64 0, .int .i64 0, .int .i64 0] 122)) w1.heap.size (i64s zero40) 122 := Blk.mk _ (i64s zero40) _ rfl
  have B2 := B1.setRow (i64s ys)
  have b2 := bl_setRow (bl_new hb1 (.cells #[.int .i64 0, .int .i64 0, .int .i64 0, .int .i64 0, .int .i64 0, .int .i64 0, .int .i64 0, .int .i64 0, .int .i64 0, .int .i64 0, .int .i64 0, .int .i64 0, .int .i64 0, .int .i64 0, .int .i64 0, .int .i64 0, .int .i64 0, .int .i64 0, .int .i64 0, .int .i64 0, .int .i64 0, .int .i64 0, .int .i64 0, .int .i64 0, .int .i64 0, .int .i64 0, .int .i64 0, .int .i64 0, .int .i64 0, .int .i64 0, .int .i64 0, .int .i64 0, .int .i64 0, .int .i64 0, .int .i64 0, .int .i64 0, .int .i64 0, .int .i64 0, .int .i64 0, .int .i64 0] 122)) hb1.size (i64s ys).toArray
  go_wp2_with (refine store_blk rfl 122 _ _ rfl _ rfl (ds := i64s ys) rfl B1 info_40 (by rw [i64s_length]; exact l1) (by rw [i64s_length]; exact rfl) (i64s_one _) ?_)
  generalize (w1.alloc (.cells #[.int .i64 0, .int .i64 0, .int .i64 0, .int .i64 0, .int .i64 0, .int .i64 0, .int .i64 0, .int .i64 0, .int .i64 0, .int .i64 0, .int .i64 0, .int .i64 0, .int .i64 0, .int .i64 0, .int .i64 0, .int .i64 0, .int .i64 0, .int .i64 0, .int .i64 0, .int .i64 0, .int .i64 0, .int .i64 0, .int .i64 0, .int .i64 0, .int .i64 0, .int .i64 0, .int .i64 0, .int .i64 0, .int .i64 0, .int .i64 0, .int .i64 0, .int .i64 0, .int .i64 0, .int .i64 0, .int .i64 0, .int .i64 0, .int .i64 0, .int .i64 0, .int .i64 0, .int .i64 0] 122)).setRow w1.heap.size (i64s ys).toArray = W2 at *
  go_loopw [3, 5] (fun m i wr => ∃ k : Nat, k ≤ 40 ∧ i = .int .i64 k ∧ m = .int .i64 (mK ys 0 k) ∧ W2 = wr) (fun _ i _ => 40 - (intOf i).toNat)
  case atStart => exact ⟨0, by omega, rfl, rfl, rfl⟩
  case round =>
    obtain ⟨k, hk, rfl, rfl, rfl⟩ := hrel
    by_cases hlt : k < 40
    · have hlt' : (k : Int) < 40 := by omega
      have c0 : W2.cell? ⟨w1.heap.size, k, none⟩ = some (.int .i64 (nth ys k)) := by rw [B2.at, i64s_get ys k (by omega)]
      have hm : mK ys 0 (k + 1) = max (mK ys 0 k) (nth ys k) := rfl
      have HM := As.mk hm
      clear hm
      go_wp2_with (go_at_call 112; refine (l00Max_any _ _ _).mono ?_; rintro e w' ⟨rfl, rfl⟩)
      go_roundw
      case rel => exact ⟨k + 1, by omega, by go_num, by rw [HM.out], by trivial⟩
      case measure => simp [intOf]; omega
    · obtain rfl : k = 40 := by omega
      have hs2 := hs.kept b2
      obtain ⟨a, ha⟩ : ∃ a, mK ys 0 40 = a := ⟨_, rfl⟩
      have HA := As.mk ha
      rw [ha]
      clear ha
      go_wp2_with (fail)
      refine (k2 _ hs2).mono ?_; rintro e w3 ⟨rfl, hb3⟩
      have b3 := bl_call b2 hb3
      have C1 : Blk (w3.alloc (.cells #[.int .i64 0, .int .i64 0, .int .i64 0, .int .i64 0] 125)) w3.heap.size (i64s zero4) 125 := Blk.mk _ (i64s zero4) _ rfl
      have C2 := C1.setRow (i64s zs)
      have b4 := bl_setRow (bl_new b3 (.cells #[.int .i64 0, .int .i64 0, .int .i64 0, .int .i64 0] 125)) b3.size (i64s zs).toArray
      go_wp2_with (refine store_blk rfl 125 _ _ rfl _ rfl (ds := i64s zs) rfl C1 info_4 (by rw [i64s_length]; exact l2) (by rw [i64s_length]; exact rfl) (i64s_one _) ?_)
      generalize (w3.alloc (.cells #[.int .i64 0, .int .i64 0, .int .i64 0, .int .i64 0] 125)).setRow w3.heap.size (i64s zs).toArray = W4 at *
      go_loopw [3, 7] (fun m i wr => ∃ k : Nat, k ≤ 4 ∧ i = .int .i64 k ∧ m = .int .i64 (mK zs a k) ∧ W4 = wr) (fun _ i _ => 4 - (intOf i).toNat)
      case atStart => exact ⟨0, by omega, rfl, rfl, rfl⟩
      case round =>
        obtain ⟨k, hk, rfl, rfl, rfl⟩ := hrel
        by_cases hlt : k < 4
        · have hlt' : (k : Int) < 4 := by omega
          have c0 : W4.cell? ⟨w3.heap.size, k, none⟩ = some (.int .i64 (nth zs k)) := by rw [C2.at, i64s_get zs k (by omega)]
          have HM := As.mk (show mK zs a (k + 1) = max (mK zs a k) (nth zs k) from rfl)
          go_wp2_with (go_at_call 112; refine (l00Max_any _ _ _).mono ?_; rintro e w' ⟨rfl, rfl⟩)
          go_roundw
          case rel => exact ⟨k + 1, by omega, by go_num, by rw [HM.out], by trivial⟩
          case measure => simp [intOf]; omega
        · obtain rfl : k = 4 := by omega
          go_wp2_with (fail)
          go_ret
          exact ⟨ret_n (by rw [HA.out]), b4⟩
end Go.Proofs.Ytnokdbnlagoidaa
