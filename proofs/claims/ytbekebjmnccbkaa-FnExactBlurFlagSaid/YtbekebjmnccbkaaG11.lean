/- Contracts: impl.firstOf of two codes; PaintCell, both sides. -/
import Derived.Test.YtbekebjmnccbkaaG4
import Derived.Test.YtbekebjmnccbkaaF7
set_option linter.unusedVariables false
set_option linter.unusedSimpArgs false
namespace Go.Proofs.Ytbekebjmnccbkaa
open Go.RowKit

/-- The first code that is not 0. -/
def first2 (a b : Int) : Int := if a = 0 then b else a
theorem firstOf2_any (a b : Int) (B o c : Nat) (w : World) (hr : w.rangeAt B o (i64s [a, b])) :
    Calls Try.prog 59 #[.slice (some ⟨B, o, none⟩) 2 c] w fun e w' => e = .returned (.int .i64 (first2 a b)) ∧ w = w' := by
  have c0 : w.cell? ⟨B, o + 0, none⟩ = some (.int .i64 a) := hr 0 _ rfl
  have c1 : w.cell? ⟨B, o + 1, none⟩ = some (.int .i64 b) := hr 1 _ rfl
  rw [Nat.add_zero] at c0
  have hF := As.mk (show first2 a b = if a = 0 then b else a from rfl)
  go_enter Try.func59, Try.ntmps59
  go_wp2
  go_loop [7] (fun i => i = .int .i64 0 ∨ i = .int .i64 1 ∧ As (a = 0) ∨ i = .int .i64 2 ∧ As (a = 0) ∧ As (b = 0)) (fun i => 2 - (intOf i).toNat)
  case atStart => exact .inl rfl
  case round =>
    rcases hrel with rfl | ⟨rfl, h⟩ | ⟨rfl, h, h'⟩
    · by_cases ha : a = 0
      · have ha' : (a != 0) = false := by simp [ha]
        go_wp2
        go_round
        case rel => exact .inr (.inl ⟨rfl, ⟨ha⟩⟩)
        case measure => simp [intOf]
      · have ha' : (a != 0) = true := by simp [ha]
        go_wp2
        go_ret
        exact ⟨ret_n (by rw [hF.out, if_neg ha]), rfl⟩
    · by_cases hb : b = 0
      · have hb' : (b != 0) = false := by simp [hb]
        go_wp2
        go_round
        case rel => exact .inr (.inr ⟨rfl, h, ⟨hb⟩⟩)
        case measure => simp [intOf]
      · have hb' : (b != 0) = true := by simp [hb]
        go_wp2
        go_ret
        exact ⟨ret_n (by rw [hF.out, if_pos h.out]), rfl⟩
    · go_wp2
      go_ret
      exact ⟨ret_n (by rw [hF.out, if_pos h.out, h'.out]), rfl⟩

def paintOk (xs : List Int) (x y c : Int) : Bool := vf xs && ((inR x 0 5 && inR y 0 3) && inR c 0 5)
def paintL (xs : List Int) (x y c : Int) : List Int := okF (paintOk xs x y c) (xs.set (x + 6 * y).toNat c)
def paintC (xs : List Int) (x y c : Int) : Int := if vf xs then codeR ((inR x 0 5 && inR y 0 3) && inR c 0 5) else 1
theorem paintL_length (xs : List Int) (x y c : Int) (hx : xs.length = 24) : (paintL xs x y c).length = 24 := okF_length (by rw [List.length_set]; exact hx)
theorem first2_paint (xs : List Int) (x y c : Int) : first2 (cellC xs x y) (if inR c 0 5 then 0 else 2) = paintC xs x y c := by
  unfold first2 cellC paintC codeR
  cases vf xs <;> cases (inR x 0 5 && inR y 0 3) <;> cases inR c 0 5 <;> rfl

set_option maxHeartbeats 1000000 in
theorem sPaintCell_any (xs : List Int) (hx : xs.length = 24) (rx : Bytes xs) (x y c : Int) (w : World) :
    Calls Try.prog 27 #[fl xs, .int .i64 x, .int .i64 y, .int .i64 c] w fun e w' => e = .returned (.tuple #[fl (paintL xs x y c), .int .i64 (paintC xs x y c)]) ∧ Below w.heap.size w w' := by
  unfold fl paintL paintC paintOk
  have B0 : Blk ((w.alloc (.cells (u8s xs).toArray 23)).alloc (.cells #[.int .u8 0, .int .u8 0, .int .u8 0, .int .u8 0, .int .u8 0, .int .u8 0, .int .u8 0, .int .u8 0, .int .u8 0, .int .u8 0, .int .u8 0, .int .u8 0, .int .u8 0, .int .u8 0, .int .u8 0, .int .u8 0, .int .u8 0, .int .u8 0, .int .u8 0, .int .u8 0, .int .u8 0, .int .u8 0, .int .u8 0, .int .u8 0] 23)) w.heap.size (u8s xs) 23 := (Blk.new _ _ _).alloc _
  have B1 : Blk ((w.alloc (.cells (u8s xs).toArray 23)).alloc (.cells #[.int .u8 0, .int .u8 0, .int .u8 0, .int .u8 0, .int .u8 0, .int .u8 0, .int .u8 0, .int .u8 0, .int .u8 0, .int .u8 0, .int .u8 0, .int .u8 0, .int .u8 0, .int .u8 0, .int .u8 0, .int .u8 0, .int .u8 0, .int .u8 0, .int .u8 0, .int .u8 0, .int .u8 0, .int .u8 0, .int .u8 0, .int .u8 0] 23)) (w.heap.size + 1) (u8s zero24) 23 := Blk.mk _ (u8s zero24) _ (by simp)
  have b0 : Below w.heap.size w ((w.alloc (.cells (u8s xs).toArray 23)).alloc (.cells #[.int .u8 0, .int .u8 0, .int .u8 0, .int .u8 0, .int .u8 0, .int .u8 0, .int .u8 0, .int .u8 0, .int .u8 0, .int .u8 0, .int .u8 0, .int .u8 0, .int .u8 0, .int .u8 0, .int .u8 0, .int .u8 0, .int .u8 0, .int .u8 0, .int .u8 0, .int .u8 0, .int .u8 0, .int .u8 0, .int .u8 0, .int .u8 0] 23)) := bl_new (bl_new (Below.refl _ _) _) _
  cases h1 : vf xs
  · go_enter Try.func27, Try.ntmps27
    go_wp2_with (first | (go_at_call 48; refine (l01Ok_any xs hx _ 0 _ B0.range).mono ?_; rintro e w' ⟨rfl, rfl⟩) | (refine store_blk rfl 23 _ _ rfl _ rfl (ds := u8s zero24) rfl B1 info_fl (by rfl) (by rfl) (u8s_one _) ?_))
    refine ret_blk_tmp rfl _ rfl (B1.setRow _) Try.underlying23 rfl info_fl (by rfl) rfl ⟨rfl, bl_setRow b0 (by omega) _⟩
  · cases h2 : (inR x 0 5 && inR y 0 3) <;> cases h3 : inR c 0 5
    iterate 3
      · go_enter Try.func27, Try.ntmps27
        go_wp2_with (first | (go_at_call 48; refine (l01Ok_any xs hx _ 0 _ B0.range).mono ?_; rintro e w' ⟨rfl, rfl⟩) | (go_at_call 57; refine (l01Cell_any _ _ _).mono ?_; rintro e w' ⟨rfl, rfl⟩) | (go_at_call 47; refine (l01Colour_any _ _).mono ?_; rintro e w' ⟨rfl, rfl⟩) | (refine store_blk rfl 23 _ _ rfl _ rfl (ds := u8s zero24) rfl B1 info_fl (by rfl) (by rfl) (u8s_one _) ?_))
        refine ret_blk_tmp rfl _ rfl (B1.setRow _) Try.underlying23 rfl info_fl (by rfl) rfl ⟨rfl, bl_setRow b0 (by omega) _⟩
    · have n3 := ((inR_iff _ _ _).1 h3).1; have n4 := ((inR_iff _ _ _).1 h3).2
      have h5 : 0 ≤ x ∧ x ≤ 5 ∧ 0 ≤ y ∧ y ≤ 3 := by
        simp only [Bool.and_eq_true, inR_iff] at h2; omega
      have g1 := h5.1; have g2 := h5.2.1; have g3 := h5.2.2.1; have g4 := h5.2.2.2
      obtain ⟨v2, c2⟩ := B0.some (x + 6 * y).toNat (by rw [u8s_length]; omega)
      have f2 := B0.frozen (x + 6 * y).toNat
      have hl : (xs.set (x + 6 * y).toNat c).length = 24 := by rw [List.length_set]; exact hx
      have D0 : Blk ((w.alloc (.cells ((u8s xs).set (x + 6 * y).toNat (.int .u8 c)).toArray 23)).alloc (.cells #[.int .u8 0, .int .u8 0, .int .u8 0, .int .u8 0, .int .u8 0, .int .u8 0, .int .u8 0, .int .u8 0, .int .u8 0, .int .u8 0, .int .u8 0, .int .u8 0, .int .u8 0, .int .u8 0, .int .u8 0, .int .u8 0, .int .u8 0, .int .u8 0, .int .u8 0, .int .u8 0, .int .u8 0, .int .u8 0, .int .u8 0, .int .u8 0] 23)) w.heap.size (u8s (xs.set (x + 6 * y).toNat c)) 23 := by rw [u8s_set]; exact (Blk.new _ _ _).alloc _
      have D1 : Blk ((w.alloc (.cells ((u8s xs).set (x + 6 * y).toNat (.int .u8 c)).toArray 23)).alloc (.cells #[.int .u8 0, .int .u8 0, .int .u8 0, .int .u8 0, .int .u8 0, .int .u8 0, .int .u8 0, .int .u8 0, .int .u8 0, .int .u8 0, .int .u8 0, .int .u8 0, .int .u8 0, .int .u8 0, .int .u8 0, .int .u8 0, .int .u8 0, .int .u8 0, .int .u8 0, .int .u8 0, .int .u8 0, .int .u8 0, .int .u8 0, .int .u8 0] 23)) (w.heap.size + 1) (u8s zero24) 23 := Blk.mk _ (u8s zero24) _ (by simp)
      have d0 : Below w.heap.size w ((w.alloc (.cells ((u8s xs).set (x + 6 * y).toNat (.int .u8 c)).toArray 23)).alloc (.cells #[.int .u8 0, .int .u8 0, .int .u8 0, .int .u8 0, .int .u8 0, .int .u8 0, .int .u8 0, .int .u8 0, .int .u8 0, .int .u8 0, .int .u8 0, .int .u8 0, .int .u8 0, .int .u8 0, .int .u8 0, .int .u8 0, .int .u8 0, .int .u8 0, .int .u8 0, .int .u8 0, .int .u8 0, .int .u8 0, .int .u8 0, .int .u8 0] 23)) := bl_new (bl_new (Below.refl _ _) _) _
      clear h5
      go_enter Try.func27, Try.ntmps27
      go_wp2_with (first | (go_at_call 48; refine (l01Ok_any xs hx _ 0 _ B0.range).mono ?_; rintro e w' ⟨rfl, rfl⟩) | (go_at_call 57; refine (l01Cell_any _ _ _).mono ?_; rintro e w' ⟨rfl, rfl⟩) | (go_at_call 47; refine (l01Colour_any _ _).mono ?_; rintro e w' ⟨rfl, rfl⟩) | (go_at_call 58; refine (l01Index_any _ _ ⟨g1, g2⟩ ⟨g3, g4⟩ _).mono ?_; rintro e w' ⟨rfl, rfl⟩) | (refine load_blk rfl 23 _ rfl _ rfl D0 Try.underlying23 rfl info_fl (by rw [u8s_length]; exact hl) ?_) | (refine store_blk rfl 23 _ _ rfl _ rfl rfl D1 info_fl (by rw [u8s_length]; exact hl) (by rw [u8s_length]; exact zero24_length) (u8s_one _) ?_))
      refine ret_blk_tmp rfl _ rfl (D1.setRow _) Try.underlying23 rfl info_fl (by rw [u8s_length]; exact hl) rfl ⟨rfl, bl_setRow d0 (by omega) _⟩

set_option maxHeartbeats 1000000 in
theorem PaintCell_any (xs : List Int) (hx : xs.length = 24) (rx : Bytes xs) (x y c : Int) (w : World) :
    Calls Try.prog 28 #[fl xs, .int .i64 x, .int .i64 y, .int .i64 c] w fun e w' => e = .returned (.tuple #[fl (paintL xs x y c), .int .i64 (paintC xs x y c)]) ∧ Below w.heap.size w w' := by
  have hP := first2_paint xs x y c
  have hC := As.mk (show paintC xs x y c = if vf xs then codeR ((inR x 0 5 && inR y 0 3) && inR c 0 5) else 1 from rfl)
  unfold fl paintL
  have B0 : Blk ((w.alloc (.cells (u8s xs).toArray 23)).alloc (.cells #[.int .u8 0, .int .u8 0, .int .u8 0, .int .u8 0, .int .u8 0, .int .u8 0, .int .u8 0, .int .u8 0, .int .u8 0, .int .u8 0, .int .u8 0, .int .u8 0, .int .u8 0, .int .u8 0, .int .u8 0, .int .u8 0, .int .u8 0, .int .u8 0, .int .u8 0, .int .u8 0, .int .u8 0, .int .u8 0, .int .u8 0, .int .u8 0] 23)) w.heap.size (u8s xs) 23 := (Blk.new _ _ _).alloc _
  have B1 : Blk ((w.alloc (.cells (u8s xs).toArray 23)).alloc (.cells #[.int .u8 0, .int .u8 0, .int .u8 0, .int .u8 0, .int .u8 0, .int .u8 0, .int .u8 0, .int .u8 0, .int .u8 0, .int .u8 0, .int .u8 0, .int .u8 0, .int .u8 0, .int .u8 0, .int .u8 0, .int .u8 0, .int .u8 0, .int .u8 0, .int .u8 0, .int .u8 0, .int .u8 0, .int .u8 0, .int .u8 0, .int .u8 0] 23)) (w.heap.size + 1) (u8s zero24) 23 := Blk.mk _ (u8s zero24) _ (by simp)
  have b0 : Below w.heap.size w ((w.alloc (.cells (u8s xs).toArray 23)).alloc (.cells #[.int .u8 0, .int .u8 0, .int .u8 0, .int .u8 0, .int .u8 0, .int .u8 0, .int .u8 0, .int .u8 0, .int .u8 0, .int .u8 0, .int .u8 0, .int .u8 0, .int .u8 0, .int .u8 0, .int .u8 0, .int .u8 0, .int .u8 0, .int .u8 0, .int .u8 0, .int .u8 0, .int .u8 0, .int .u8 0, .int .u8 0, .int .u8 0] 23)) := bl_new (bl_new (Below.refl _ _) _) _
  cases h1 : paintOk xs x y c
  · have hne : (paintC xs x y c != 0) = true := by
      rw [hC.out]
      unfold paintOk at h1
      cases h2 : vf xs
      · simp
      · rw [h2, Bool.true_and] at h1; rw [h1]; rfl
    generalize paintC xs x y c = P at *
    clear hC
    cases hc : inR c 0 5
    · rw [hc] at hP
      simp only [Bool.false_eq_true, if_false, if_true] at hP
      go_enter Try.func28, Try.ntmps28
      go_wp2_with (refine load_blk rfl 23 _ rfl _ rfl B0 Try.underlying23 rfl info_fl (by rw [u8s_length]; exact hx) ?_)
      refine (cellCode_any xs hx x y _).mono ?_; rintro e w1 ⟨rfl, hb1⟩
      have X1 := (B1.kept hb1).alloc (.cells #[.int .i64 (cellC xs x y), .int .i64 2] 2)
      have X2 := Blk.mk w1 (i64s [cellC xs x y, 2]) 2 rfl
      have c1 := bl_new (bl_call b0 hb1) (.cells #[.int .i64 (cellC xs x y), .int .i64 2] 2)
      clear B0 B1 b0 hb1
      have key := firstOf2_any (cellC xs x y) 2 w1.heap.size 0 2 _ X2.range
      rw [hP] at key
      generalize cellC xs x y = cc at *
      go_wp2_with (first | (go_at_call 62; refine (isColour_any _ _).mono ?_; rintro e w' ⟨rfl, rfl⟩) | (go_at_call 61; refine (unless_any _ _ _).mono ?_; rintro e w' ⟨rfl, rfl⟩) | (go_at_call 59; refine (key).mono ?_; rintro e w' ⟨rfl, rfl⟩) | (refine store_blk rfl 23 _ _ rfl _ rfl (ds := u8s zero24) rfl X1 info_fl (by rfl) (by rfl) (u8s_one _) ?_))
      refine ret_blk_tmp rfl _ rfl (X1.setRow _) Try.underlying23 rfl info_fl (by rfl) rfl ⟨rfl, bl_setRow c1 (by omega) _⟩
    · rw [hc] at hP
      simp only [Bool.false_eq_true, if_false, if_true] at hP
      go_enter Try.func28, Try.ntmps28
      go_wp2_with (refine load_blk rfl 23 _ rfl _ rfl B0 Try.underlying23 rfl info_fl (by rw [u8s_length]; exact hx) ?_)
      refine (cellCode_any xs hx x y _).mono ?_; rintro e w1 ⟨rfl, hb1⟩
      have X1 := (B1.kept hb1).alloc (.cells #[.int .i64 (cellC xs x y), .int .i64 0] 2)
      have X2 := Blk.mk w1 (i64s [cellC xs x y, 0]) 2 rfl
      have c1 := bl_new (bl_call b0 hb1) (.cells #[.int .i64 (cellC xs x y), .int .i64 0] 2)
      clear B0 B1 b0 hb1
      have key := firstOf2_any (cellC xs x y) 0 w1.heap.size 0 2 _ X2.range
      rw [hP] at key
      generalize cellC xs x y = cc at *
      go_wp2_with (first | (go_at_call 62; refine (isColour_any _ _).mono ?_; rintro e w' ⟨rfl, rfl⟩) | (go_at_call 61; refine (unless_any _ _ _).mono ?_; rintro e w' ⟨rfl, rfl⟩) | (go_at_call 59; refine (key).mono ?_; rintro e w' ⟨rfl, rfl⟩) | (refine store_blk rfl 23 _ _ rfl _ rfl (ds := u8s zero24) rfl X1 info_fl (by rfl) (by rfl) (u8s_one _) ?_))
      refine ret_blk_tmp rfl _ rfl (X1.setRow _) Try.underlying23 rfl info_fl (by rfl) rfl ⟨rfl, bl_setRow c1 (by omega) _⟩
  · have h2 : vf xs = true ∧ (inR x 0 5 && inR y 0 3) = true ∧ inR c 0 5 = true := by unfold paintOk at h1; simp only [Bool.and_eq_true] at h1 ⊢; exact ⟨h1.1, h1.2.1, h1.2.2⟩
    have hcc : cellC xs x y = 0 := by unfold cellC; rw [h2.1, h2.2.1]; rfl
    have hp0 : paintC xs x y c = 0 := by unfold paintC; rw [h2.1, h2.2.1, h2.2.2]; rfl
    have hc := h2.2.2
    have n3 := ((inR_iff _ _ _).1 hc).1; have n4 := ((inR_iff _ _ _).1 hc).2
    have h5 : 0 ≤ x ∧ x ≤ 5 ∧ 0 ≤ y ∧ y ≤ 3 := by
      have h6 := h2.2.1
      simp only [Bool.and_eq_true, inR_iff] at h6; omega
    have g1 := h5.1; have g2 := h5.2.1; have g3 := h5.2.2.1; have g4 := h5.2.2.2
    have hl : (xs.set (x + 6 * y).toNat c).length = 24 := by rw [List.length_set]; exact hx
    rw [hp0]
    clear h5 hP hC
    go_enter Try.func28, Try.ntmps28
    go_wp2_with (refine load_blk rfl 23 _ rfl _ rfl B0 Try.underlying23 rfl info_fl (by rw [u8s_length]; exact hx) ?_)
    refine (cellCode_any xs hx x y _).mono ?_; rintro e w1 ⟨rfl, hb1⟩
    have X0 := (B0.kept hb1).alloc (.cells #[.int .i64 0, .int .i64 0] 2)
    have X1 := (B1.kept hb1).alloc (.cells #[.int .i64 0, .int .i64 0] 2)
    have X2 := Blk.mk w1 (i64s [0, 0]) 2 rfl
    have c1 := bl_new (bl_call b0 hb1) (.cells #[.int .i64 0, .int .i64 0] 2)
    clear B0 B1 b0 hb1
    have key := firstOf2_any 0 0 w1.heap.size 0 2 (w1.alloc (.cells #[.int .i64 0, .int .i64 0] 2)) X2.range
    rw [hcc]
    obtain ⟨v2, c2⟩ := X0.some (x + 6 * y).toNat (by rw [u8s_length]; omega)
    have f2 := X0.frozen (x + 6 * y).toNat
    have D0 := X0.set (x + 6 * y).toNat (.int .u8 c)
    rw [u8s_set] at D0
    have D1 := X1.far (p := ⟨w.heap.size, (x + 6 * y).toNat, none⟩) (by simp) (.int .u8 c)
    have d0 := c1.setCell (p := ⟨w.heap.size, (x + 6 * y).toNat, none⟩) (by simp) (.int .u8 c)
    clear X2
    go_wp2_with (first | (go_at_call 62; refine (isColour_any _ _).mono ?_; rintro e w' ⟨rfl, rfl⟩) | (go_at_call 61; refine (unless_any _ _ _).mono ?_; rintro e w' ⟨rfl, rfl⟩))
    refine key.mono ?_; rintro e w' ⟨rfl, rfl⟩
    generalize w1.alloc (.cells #[.int .i64 0, .int .i64 0] 2) = W at *
    have hf2 : first2 0 0 = 0 := rfl
    rw [hf2]
    go_wp2_with (first | (refine load_blk rfl 23 _ rfl _ rfl D0 Try.underlying23 rfl info_fl (by rw [u8s_length]; exact hl) ?_) | (refine store_blk rfl 23 _ _ rfl _ rfl rfl D1 info_fl (by rw [u8s_length]; exact hl) (by rw [u8s_length]; exact zero24_length) (u8s_one _) ?_))
    refine ret_blk_tmp rfl _ rfl (D1.setRow _) Try.underlying23 rfl info_fl (by rw [u8s_length]; exact hl) rfl ⟨rfl, bl_setRow d0 (by omega) _⟩
end Go.Proofs.Ytbekebjmnccbkaa
