/- Contracts: RecolourFlag, both sides. -/
import Derived.Test.YtbekebjmnccbkaaG4
import Derived.Test.YtbekebjmnccbkaaIdx
set_option linter.unusedVariables false
namespace Go.Proofs.Ytbekebjmnccbkaa
open Go.RowKit

/-- A flag with one colour put for another. -/
def recF (xs : List Int) (p q : Int) (k i : Nat) : Int := if i < k ∧ nth xs i = p then q else nth xs i
def recK (xs : List Int) (p q : Int) (k : Nat) : List Int := (List.range 24).map (recF xs p q k)
theorem recK_length (xs : List Int) (p q : Int) (k : Nat) : (recK xs p q k).length = 24 := by simp [recK]
theorem recK_zero (xs : List Int) (p q : Int) (hx : xs.length = 24) : recK xs p q 0 = xs := by
  conv => rhs; rw [← range_nth xs 24 hx]
  apply List.map_congr_left
  intro i _
  unfold recF; rw [if_neg (by omega)]
theorem recK_nth (xs : List Int) (p q : Int) (k : Nat) (hk : k < 24) : nth (recK xs p q k) k = nth xs k := by
  unfold recK; rw [nth_map_range _ _ _ hk]; unfold recF; rw [if_neg (by omega)]
theorem recK_t (xs : List Int) (p q : Int) (k : Nat) (h : nth xs k = p) : (recK xs p q k).set k q = recK xs p q (k + 1) := by
  apply List.ext_getElem
  · simp [recK]
  · intro i h1 h2
    simp only [List.getElem_set, recK, List.getElem_map, List.getElem_range, recF]
    by_cases e : k = i
    · subst e; rw [if_pos rfl, if_pos ⟨by omega, h⟩]
    · rw [if_neg e]
      by_cases h3 : i < k
      · simp [h3, show i < k + 1 by omega]
      · simp [h3, show ¬ i < k + 1 by omega]
theorem recK_f (xs : List Int) (p q : Int) (k : Nat) (h : ¬ nth xs k = p) : recK xs p q k = recK xs p q (k + 1) := by
  apply List.map_congr_left
  intro i _
  unfold recF
  by_cases e : i = k
  · subst e; rw [if_neg (by omega), if_neg (by simp [h])]
  · by_cases h3 : i < k
    · simp [h3, show i < k + 1 by omega]
    · simp [h3, show ¬ i < k + 1 by omega]
def recC (xs : List Int) (p q : Int) : Int := if vf xs then codeR (aC [p, q]) else 1
def recL (xs : List Int) (p q : Int) : List Int := okF (vf xs && aC [p, q]) (recK xs p q 24)
theorem recL_length (xs : List Int) (p q : Int) : (recL xs p q).length = 24 := okF_length (recK_length _ _ _ _)

set_option maxHeartbeats 1000000 in
theorem sRecolourFlag_any (xs : List Int) (hx : xs.length = 24) (rx : Bytes xs) (p q : Int) (w : World) :
    Calls Try.prog 18 #[fl xs, .int .i64 p, .int .i64 q] w fun e w' => e = .returned (.tuple #[fl (recL xs p q), .int .i64 (recC xs p q)]) ∧ Below w.heap.size w w' := by
  unfold fl recL recC
  have B0 : Blk ((w.alloc (.cells (u8s xs).toArray 23)).alloc (.cells #[.int .u8 0, .int .u8 0, .int .u8 0, .int .u8 0, .int .u8 0, .int .u8 0, .int .u8 0, .int .u8 0, .int .u8 0, .int .u8 0, .int .u8 0, .int .u8 0, .int .u8 0, .int .u8 0, .int .u8 0, .int .u8 0, .int .u8 0, .int .u8 0, .int .u8 0, .int .u8 0, .int .u8 0, .int .u8 0, .int .u8 0, .int .u8 0] 23)) w.heap.size (u8s xs) 23 := (Blk.new _ _ _).alloc _
  have B1 : Blk ((w.alloc (.cells (u8s xs).toArray 23)).alloc (.cells #[.int .u8 0, .int .u8 0, .int .u8 0, .int .u8 0, .int .u8 0, .int .u8 0, .int .u8 0, .int .u8 0, .int .u8 0, .int .u8 0, .int .u8 0, .int .u8 0, .int .u8 0, .int .u8 0, .int .u8 0, .int .u8 0, .int .u8 0, .int .u8 0, .int .u8 0, .int .u8 0, .int .u8 0, .int .u8 0, .int .u8 0, .int .u8 0] 23)) (w.heap.size + 1) (u8s zero24) 23 := Blk.mk _ (u8s zero24) _ (by simp)
  have b0 : Below w.heap.size w ((w.alloc (.cells (u8s xs).toArray 23)).alloc (.cells #[.int .u8 0, .int .u8 0, .int .u8 0, .int .u8 0, .int .u8 0, .int .u8 0, .int .u8 0, .int .u8 0, .int .u8 0, .int .u8 0, .int .u8 0, .int .u8 0, .int .u8 0, .int .u8 0, .int .u8 0, .int .u8 0, .int .u8 0, .int .u8 0, .int .u8 0, .int .u8 0, .int .u8 0, .int .u8 0, .int .u8 0, .int .u8 0] 23)) := bl_new (bl_new (Below.refl _ _) _) _
  rw [aC_two]
  cases h1 : vf xs
  · go_enter Try.func18, Try.ntmps18
    go_wp2_with (first | (go_at_call 48; refine (l01Ok_any xs hx _ 0 _ B0.range).mono ?_; rintro e w' ⟨rfl, rfl⟩) | (refine store_blk rfl 23 _ _ rfl _ rfl (ds := u8s zero24) rfl B1 info_fl (by rfl) (by rfl) (u8s_one _) ?_))
    refine ret_blk_tmp rfl _ rfl (B1.setRow _) Try.underlying23 rfl info_fl (by rfl) rfl ⟨rfl, bl_setRow b0 (by omega) _⟩
  · cases h2 : inR p 0 5 <;> cases h3 : inR q 0 5
    iterate 3
      · go_enter Try.func18, Try.ntmps18
        go_wp2_with (first | (go_at_call 48; refine (l01Ok_any xs hx _ 0 _ B0.range).mono ?_; rintro e w' ⟨rfl, rfl⟩) | (go_at_call 47; refine (l01Colour_any _ _).mono ?_; rintro e w' ⟨rfl, rfl⟩) | (refine store_blk rfl 23 _ _ rfl _ rfl (ds := u8s zero24) rfl B1 info_fl (by rfl) (by rfl) (u8s_one _) ?_))
        refine ret_blk_tmp rfl _ rfl (B1.setRow _) Try.underlying23 rfl info_fl (by rfl) rfl ⟨rfl, bl_setRow b0 (by omega) _⟩
    · have n3 := ((inR_iff _ _ _).1 h3).1; have n4 := ((inR_iff _ _ _).1 h3).2
      go_enter Try.func18, Try.ntmps18
      go_wp2_with (first | (go_at_call 48; refine (l01Ok_any xs hx _ 0 _ B0.range).mono ?_; rintro e w' ⟨rfl, rfl⟩) | (go_at_call 47; refine (l01Colour_any _ _).mono ?_; rintro e w' ⟨rfl, rfl⟩))
      go_loopw [8] (fun i wr => ∃ k : Nat, k ≤ 24 ∧ i = .int .i64 k ∧ Blk wr w.heap.size (u8s (recK xs p q k)) 23 ∧ Blk wr (w.heap.size + 1) (u8s zero24) 23 ∧ Below w.heap.size w wr) (fun i _ => 24 - (intOf i).toNat)
      case atStart => exact ⟨0, by omega, rfl, by rw [recK_zero xs p q hx]; exact B0, B1, b0⟩
      case round =>
        obtain ⟨k, hk, rfl, g0, g1, hb⟩ := hrel
        clear B0 B1 b0
        by_cases hlt : k < 24
        · have hlt' : (k : Int) < 24 := by omega
          have n1 := (rx.nth k).1; have n2 := (rx.nth k).2
          have c0 : wr.cell? ⟨w.heap.size, k, none⟩ = some (.int .u8 (nth xs k)) := by rw [g0.at, u8s_get _ k (by rw [recK_length]; exact hlt), recK_nth xs p q k hlt]
          have f0 := g0.frozen k
          by_cases he : nth xs k = p
          · have hs := As.mk (recK_t xs p q k he)
            go_wp2
            go_roundw
            case rel => exact ⟨k + 1, by omega, by go_num, by have := g0.set k (.int .u8 q); rw [u8s_set, hs.out] at this; exact this, g1.far (by simp) _, hb.setCell (by simp) _⟩
            case measure => simp [intOf]; omega
          · have hs := As.mk (recK_f xs p q k he)
            go_wp2
            go_roundw
            case rel => exact ⟨k + 1, by omega, by go_num, by rw [← hs.out]; exact g0, g1, hb⟩
            case measure => simp [intOf]; omega
        · obtain rfl : k = 24 := by omega
          have hl := recK_length xs p q 24
          go_wp2_with (first | (refine load_blk rfl 23 _ rfl _ rfl g0 Try.underlying23 rfl info_fl (by rw [u8s_length]; exact hl) ?_) | (refine store_blk rfl 23 _ _ rfl _ rfl rfl g1 info_fl (by rw [u8s_length]; exact hl) (by rw [u8s_length]; exact zero24_length) (u8s_one _) ?_))
          refine ret_blk_tmp rfl _ rfl (g1.setRow _) Try.underlying23 rfl info_fl (by rw [u8s_length]; exact hl) rfl ⟨rfl, bl_setRow hb (by omega) _⟩

set_option maxHeartbeats 1000000 in
theorem RecolourFlag_any (xs : List Int) (hx : xs.length = 24) (rx : Bytes xs) (p q : Int) (w : World) :
    Calls Try.prog 20 #[fl xs, .int .i64 p, .int .i64 q] w fun e w' => e = .returned (.tuple #[fl (recL xs p q), .int .i64 (recC xs p q)]) ∧ Below w.heap.size w w' := by
  unfold fl recL recC
  have B0 : Blk ((w.alloc (.cells (u8s xs).toArray 23)).alloc (.cells #[.int .u8 0, .int .u8 0, .int .u8 0, .int .u8 0, .int .u8 0, .int .u8 0, .int .u8 0, .int .u8 0, .int .u8 0, .int .u8 0, .int .u8 0, .int .u8 0, .int .u8 0, .int .u8 0, .int .u8 0, .int .u8 0, .int .u8 0, .int .u8 0, .int .u8 0, .int .u8 0, .int .u8 0, .int .u8 0, .int .u8 0, .int .u8 0] 23)) w.heap.size (u8s xs) 23 := (Blk.new _ _ _).alloc _
  have B1 : Blk ((w.alloc (.cells (u8s xs).toArray 23)).alloc (.cells #[.int .u8 0, .int .u8 0, .int .u8 0, .int .u8 0, .int .u8 0, .int .u8 0, .int .u8 0, .int .u8 0, .int .u8 0, .int .u8 0, .int .u8 0, .int .u8 0, .int .u8 0, .int .u8 0, .int .u8 0, .int .u8 0, .int .u8 0, .int .u8 0, .int .u8 0, .int .u8 0, .int .u8 0, .int .u8 0, .int .u8 0, .int .u8 0] 23)) (w.heap.size + 1) (u8s zero24) 23 := Blk.mk _ (u8s zero24) _ (by simp)
  have b0 : Below w.heap.size w ((w.alloc (.cells (u8s xs).toArray 23)).alloc (.cells #[.int .u8 0, .int .u8 0, .int .u8 0, .int .u8 0, .int .u8 0, .int .u8 0, .int .u8 0, .int .u8 0, .int .u8 0, .int .u8 0, .int .u8 0, .int .u8 0, .int .u8 0, .int .u8 0, .int .u8 0, .int .u8 0, .int .u8 0, .int .u8 0, .int .u8 0, .int .u8 0, .int .u8 0, .int .u8 0, .int .u8 0, .int .u8 0] 23)) := bl_new (bl_new (Below.refl _ _) _) _
  cases h1 : vf xs
  · go_enter Try.func20, Try.ntmps20
    go_wp2_with (refine load_blk rfl 23 _ rfl _ rfl B0 Try.underlying23 rfl info_fl (by rw [u8s_length]; exact hx) ?_)
    refine (ValidFlag_any xs hx _).mono ?_; rintro e w1 ⟨rfl, hb1⟩
    have h2 := B1.kept hb1
    go_wp2_with (refine store_blk rfl 23 _ _ rfl _ rfl (ds := u8s zero24) rfl h2 info_fl (by rfl) (by rfl) (u8s_one _) ?_)
    refine ret_blk_tmp rfl _ rfl (h2.setRow _) Try.underlying23 rfl info_fl (by rfl) rfl ⟨rfl, bl_setRow (bl_call b0 hb1) (by omega) _⟩
  · cases h2 : aC [p, q]
    · go_enter Try.func20, Try.ntmps20
      go_wp2_with (refine load_blk rfl 23 _ rfl _ rfl B0 Try.underlying23 rfl info_fl (by rw [u8s_length]; exact hx) ?_)
      refine (ValidFlag_any xs hx _).mono ?_; rintro e w1 ⟨rfl, hb1⟩
      have X1 := (B1.kept hb1).alloc (.cells #[.int .i64 p, .int .i64 q] 2)
      have X2 := Blk.mk w1 (i64s [p, q]) 2 rfl
      have c1 := bl_new (bl_call b0 hb1) (.cells #[.int .i64 p, .int .i64 q] 2)
      go_wp2_with (fail)
      refine (areColours_any [p, q] _ _ _ _ (by simp) X2.range).mono ?_; rintro e w2 ⟨rfl, hb2⟩
      have Y1 := X1.kept hb2
      go_wp2_with (refine store_blk rfl 23 _ _ rfl _ rfl (ds := u8s zero24) rfl Y1 info_fl (by rfl) (by rfl) (u8s_one _) ?_)
      refine ret_blk_tmp rfl _ rfl (Y1.setRow _) Try.underlying23 rfl info_fl (by rfl) rfl ⟨rfl, bl_setRow (bl_call c1 hb2) (by omega) _⟩
    · have hq : inR q 0 5 = true := by rw [aC_two, Bool.and_eq_true] at h2; exact h2.2
      have n3 := ((inR_iff _ _ _).1 hq).1; have n4 := ((inR_iff _ _ _).1 hq).2
      go_enter Try.func20, Try.ntmps20
      go_wp2_with (refine load_blk rfl 23 _ rfl _ rfl B0 Try.underlying23 rfl info_fl (by rw [u8s_length]; exact hx) ?_)
      refine (ValidFlag_any xs hx _).mono ?_; rintro e w1 ⟨rfl, hb1⟩
      have X0 := (B0.kept hb1).alloc (.cells #[.int .i64 p, .int .i64 q] 2)
      have X1 := (B1.kept hb1).alloc (.cells #[.int .i64 p, .int .i64 q] 2)
      have X2 := Blk.mk w1 (i64s [p, q]) 2 rfl
      have c1 := bl_new (bl_call b0 hb1) (.cells #[.int .i64 p, .int .i64 q] 2)
      go_wp2_with (fail)
      refine (areColours_any [p, q] _ _ _ _ (by simp) X2.range).mono ?_; rintro e w2 ⟨rfl, hb2⟩
      have Y0 := X0.kept hb2
      have Y1 := X1.kept hb2
      have c2 := bl_call c1 hb2
      clear B0 B1 b0 X0 X1 X2 c1
      go_wp2_with (refine load_blk rfl 23 _ rfl _ rfl Y0 Try.underlying23 rfl info_fl (by rw [u8s_length]; exact hx) ?_)
      go_loopw [23] (fun i wr => ∃ k : Nat, k ≤ 24 ∧ i = .int .i64 k ∧ Blk wr w.heap.size (u8s (recK xs p q k)) 23 ∧ Blk wr (w.heap.size + 1) (u8s zero24) 23 ∧ Below w.heap.size w wr) (fun i _ => 24 - (intOf i).toNat)
      case atStart => exact ⟨0, by omega, rfl, by rw [recK_zero xs p q hx]; exact Y0, Y1, c2⟩
      case round =>
        obtain ⟨k, hk, rfl, g0, g1, hb⟩ := hrel
        clear Y0 Y1 c2
        by_cases hlt : k < 24
        · have hlt' : (k : Int) < 24 := by omega
          have n1 := (rx.nth k).1; have n2 := (rx.nth k).2
          have c0 : ∀ W, (Instr.index 23 (.agg (u8s xs).toArray) (.int .i64 (k : Int))).run Try.prog W = .ok (.int .u8 (nth xs k)) W := fun W => index_fl xs hx k hlt W
          obtain ⟨v2, c2⟩ := g0.some k (by rw [u8s_length, recK_length]; exact hlt)
          have f0 := g0.frozen k
          by_cases he : nth xs k = p
          · have hs := As.mk (recK_t xs p q k he)
            go_wp2
            go_roundw
            case rel => exact ⟨k + 1, by omega, by go_num, by have := g0.set k (.int .u8 q); rw [u8s_set, hs.out] at this; exact this, g1.far (by simp) _, hb.setCell (by simp) _⟩
            case measure => simp [intOf]; omega
          · have hs := As.mk (recK_f xs p q k he)
            go_wp2
            go_roundw
            case rel => exact ⟨k + 1, by omega, by go_num, by rw [← hs.out]; exact g0, g1, hb⟩
            case measure => simp [intOf]; omega
        · obtain rfl : k = 24 := by omega
          have hl := recK_length xs p q 24
          go_wp2_with (first | (refine load_blk rfl 23 _ rfl _ rfl g0 Try.underlying23 rfl info_fl (by rw [u8s_length]; exact hl) ?_) | (refine store_blk rfl 23 _ _ rfl _ rfl rfl g1 info_fl (by rw [u8s_length]; exact hl) (by rw [u8s_length]; exact zero24_length) (u8s_one _) ?_))
          refine ret_blk_tmp rfl _ rfl (g1.setRow _) Try.underlying23 rfl info_fl (by rw [u8s_length]; exact hl) rfl ⟨rfl, bl_setRow hb (by omega) _⟩
end Go.Proofs.Ytbekebjmnccbkaa
