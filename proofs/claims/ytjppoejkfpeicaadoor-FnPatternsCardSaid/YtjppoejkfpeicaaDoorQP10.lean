/- Contracts and plain facts, several texts in one. -/
import Derived.Test.YtjppoejkfpeicaaDoorQP7
import Derived.Test.YtjppoejkfpeicaaDoorQP8
import Derived.Test.YtjppoejkfpeicaaDoorQP9
import Derived.Test.YtjppoejkfpeicaaDoorQP2
/- Walk: the law of FnPatterns. (Printed by pf.py.) -/
set_option linter.unusedVariables false
set_option linter.unusedSimpArgs false
namespace Go.Proofs.YtjppoejkfpeicaaDoor
open Go.RowKit

theorem p_mir (f : List Int) (hf : Fine f) (W : World) : Calls Tryd.prog 11 #[.agg (u8s f).toArray] W fun e w' => e = .returned (.tuple #[.agg (u8s (mirrorL f)).toArray, .int .i64 0]) ∧ Below W.heap.size W w' := by
  have h := MirrorFlag_any f hf.1 hf.bytes W
  rw [hf.vf] at h
  exact h
theorem p_smir (f : List Int) (hf : Fine f) (W : World) : Calls Tryd.prog 12 #[.agg (u8s f).toArray] W fun e w' => e = .returned (.tuple #[.agg (u8s (mirrorL f)).toArray, .int .i64 0]) ∧ Below W.heap.size W w' := by
  have h := sMirrorFlag_any f hf.1 W
  rw [hf.vf] at h
  exact h
theorem p_turn (f : List Int) (hf : Fine f) (W : World) : Calls Tryd.prog 13 #[.agg (u8s f).toArray] W fun e w' => e = .returned (.tuple #[.agg (u8s (turnL f)).toArray, .int .i64 0]) ∧ Below W.heap.size W w' := by
  have h := TurnFlag_any f hf.1 W
  rw [hf.vf] at h
  exact h
theorem p_sturn (f : List Int) (hf : Fine f) (W : World) : Calls Tryd.prog 14 #[.agg (u8s f).toArray] W fun e w' => e = .returned (.tuple #[.agg (u8s (turnL f)).toArray, .int .i64 0]) ∧ Below W.heap.size W w' := by
  have h := sTurnFlag_any f hf.1 W
  rw [hf.vf] at h
  exact h
theorem p_count (f : List Int) (hf : Fine f) (W : World) : Calls Tryd.prog 15 #[.agg (u8s f).toArray] W fun e w' => e = .returned (.tuple #[.agg (i64s (countL f 24)).toArray, .int .i64 0]) ∧ Below W.heap.size W w' := by
  have h := CountColours_any f hf.1 hf.bytes W
  rw [hf.vf] at h
  exact h
theorem p_dist (f g : List Int) (hf : Fine f) (hg : Fine g) (W : World) : Calls Tryd.prog 17 #[.agg (u8s f).toArray, .agg (u8s g).toArray] W fun e w' => e = .returned (.tuple #[.int .i64 (diffs f g 24), .int .i64 0]) ∧ Below W.heap.size W w' := by
  have h := DistanceOf_any f g hf.1 hg.1 W
  rw [dist_fine hf hg, hf.vf, hg.vf] at h
  exact h
theorem p_sdist (f g : List Int) (hf : Fine f) (hg : Fine g) (W : World) : Calls Tryd.prog 18 #[.agg (u8s f).toArray, .agg (u8s g).toArray] W fun e w' => e = .returned (.tuple #[.int .i64 (diffs f g 24), .int .i64 0]) ∧ Below W.heap.size W w' := by
  have h := sDistanceOf_any f g hf.1 hg.1 W
  rw [dist_fine hf hg, hf.vf, hg.vf] at h
  exact h
theorem p_blur (f : List Int) (hf : Fine f) (W : World) : Calls Tryd.prog 19 #[.agg (u8s f).toArray] W fun e w' => e = .returned (.tuple #[.agg (u8s (blurL f)).toArray, .int .i64 0]) ∧ Below W.heap.size W w' := by
  have h := BlurFlag_any f hf.1 hf.bytes W
  rw [hf.vf] at h
  exact h
theorem p_sblur (f : List Int) (hf : Fine f) (W : World) : Calls Tryd.prog 20 #[.agg (u8s f).toArray] W fun e w' => e = .returned (.tuple #[.agg (u8s (blurL f)).toArray, .int .i64 0]) ∧ Below W.heap.size W w' := by
  have h := sBlurFlag_any f hf.1 hf.bytes W
  rw [hf.vf] at h
  exact h
theorem p_far (f g : List Int) (hf : Fine f) (hg : Fine g) (W : World) : Calls Tryd.prog 21 #[.agg (u8s f).toArray, .agg (u8s g).toArray] W fun e w' => e = .returned (.tuple #[.int .i64 (farD f g), .int .i64 0]) ∧ Below W.heap.size W w' := by
  have h := BlurDistance_any f g hf.1 hg.1 hf.bytes hg.bytes W
  rw [far_fine hf hg, hf.vf, hg.vf] at h
  exact h
theorem p_sfar (f g : List Int) (hf : Fine f) (hg : Fine g) (W : World) : Calls Tryd.prog 22 #[.agg (u8s f).toArray, .agg (u8s g).toArray] W fun e w' => e = .returned (.tuple #[.int .i64 (farD f g), .int .i64 0]) ∧ Below W.heap.size W w' := by
  have h := sBlurDistance_any f g hf.1 hg.1 hf.bytes hg.bytes W
  rw [far_fine hf hg, hf.vf, hg.vf] at h
  exact h
theorem p_like (f g : List Int) (hf : Fine f) (hg : Fine g) (W : World) : Calls Tryd.prog 23 #[.agg (u8s f).toArray, .agg (u8s g).toArray, .bool false] W fun e w' => e = .returned (.tuple #[.bool (decide (farD f g = 0)), .int .i64 0]) ∧ Below W.heap.size W w' := by
  have h := LooksLike_any f g hf.1 hg.1 hf.bytes hg.bytes false W
  rw [looks_far hf hg, hf.vf, hg.vf] at h
  exact h
theorem p_likem (f : List Int) (hf : Fine f) (W : World) : Calls Tryd.prog 23 #[.agg (u8s (mirrorL f)).toArray, .agg (u8s f).toArray, .bool true] W fun e w' => e = .returned (.tuple #[.bool true, .int .i64 0]) ∧ Below W.heap.size W w' := by
  have h := LooksLike_any (mirrorL f) f hf.mirror.1 hf.1 hf.mirror.bytes hf.bytes true W
  rw [looks_mirror hf, hf.mirror.vf, hf.vf] at h
  exact h
theorem p_down (f : List Int) (hf : Fine f) (W : World) : Calls Tryd.prog 24 #[.agg (u8s f).toArray, .agg (u8s (turnL f)).toArray] W fun e w' => e = .returned (.tuple #[.bool true, .int .i64 0]) ∧ Below W.heap.size W w' := by
  have h := IsUpsideDown_any f (turnL f) hf.1 hf.turn.1 W
  rw [down_turn hf, hf.vf, hf.turn.vf] at h
  exact h
theorem p_ok (f : List Int) (hf : Fine f) (W : World) : Calls Tryd.prog 16 #[.agg (u8s f).toArray] W fun e w' => e = .returned (.bool true) ∧ Below W.heap.size W w' := by
  have h := ValidFlag_any f hf.1 W
  rw [hf.vf] at h
  exact h
theorem p_text (f : List Int) (hf : Fine f) (W : World) : Calls Tryd.prog 10 #[.agg (u8s f).toArray] W fun e w' => e = .returned (.string (flagText f)) ∧ Below W.heap.size W w' := FlagText_any f hf.1 hf.bytes W
theorem p_read (f : List Int) (hf : Fine f) (W : World) (m : Int) (hm : W.cell? ⟨0, 0, none⟩ = some (.int .i64 m)) : Calls Tryd.prog 6 #[.string (flagText f)] W fun e w' => e = .returned (.tuple #[.agg (u8s f).toArray, .int .i64 0]) ∧ Below W.heap.size W w' := by
  obtain ⟨h1, h2, h3⟩ := read_text hf
  have h := ReadFlag_any (flagText f) h3 W m hm
  rw [h1, h2] at h
  exact h
theorem p_paint (f : List Int) (hf : Fine f) (x y c : Int) (hx : 0 ≤ x ∧ x < 6) (hy : 0 ≤ y ∧ y < 4) (hc : 0 ≤ c ∧ c < 6) (W : World) :
    Calls Tryd.prog 26 #[.agg (u8s f).toArray, .int .i64 x, .int .i64 y, .int .i64 c] W fun e w' => e = .returned (.tuple #[.agg (u8s (paintL f x y c)).toArray, .int .i64 0]) ∧ Below W.heap.size W w' := by
  have h := PaintCell_any f hf.1 hf.bytes x y c W
  rw [(paint_facts hf hx hy hc).1] at h
  exact h
theorem p_cell (f : List Int) (hf : Fine f) (x y c : Int) (hx : 0 ≤ x ∧ x < 6) (hy : 0 ≤ y ∧ y < 4) (hc : 0 ≤ c ∧ c < 6) (W : World) :
    Calls Tryd.prog 27 #[.agg (u8s (paintL f x y c)).toArray, .int .i64 x, .int .i64 y] W fun e w' => e = .returned (.tuple #[.int .i64 c, .int .i64 0]) ∧ Below W.heap.size W w' := by
  have pf := paint_facts hf hx hy hc
  have h := CellOf_any (paintL f x y c) pf.2.1.1 pf.2.1.bytes x y W
  rw [pf.2.2.1, pf.2.2.2.1] at h
  exact h
theorem p_rec (f : List Int) (hf : Fine f) (p q : Nat) (hp : p < 6) (hq : q < 6) (hpq : p ≠ q) (W : World) :
    Calls Tryd.prog 28 #[.agg (u8s f).toArray, .int .i64 p, .int .i64 q] W fun e w' => e = .returned (.tuple #[.agg (u8s (recL f p q)).toArray, .int .i64 0]) ∧ Below W.heap.size W w' := by
  have h := RecolourFlag_any f hf.1 hf.bytes p q W
  rw [(rec_facts hf hp hq hpq).1] at h
  exact h
set_option maxRecDepth 100000 in
set_option maxHeartbeats 16000000 in
theorem walk_FnPatterns (w : World) (A0 : Option Addr) (x0 : List Int) (c0 : Nat) (s0 : Sl .u8 w A0 x0) (r0 : ∀ n ∈ x0, 0 ≤ n ∧ n ≤ 255) (A1 : Option Addr) (x1 : List Int) (c1 : Nat) (s1 : Sl .u8 w A1 x1) (r1 : ∀ n ∈ x1, 0 ≤ n ∧ n ≤ 255)
    (m : Int) (hm : w.cell? ⟨0, 0, none⟩ = some (.int .i64 m)) :
    Calls Tryd.prog 4 #[.slice A0 x0.length c0, .slice A1 x1.length c1] w fun e w' => e = .returned (.bool true) ∧ Below w.heap.size w w' := by
  by_cases h0 : x0.length ≤ 4096
  case neg =>
    have k := fun W => f6p_big A0 x0.length c0 h0 W
    generalize x0.length = n0 at *
    generalize x1.length = n1 at *
    go_enter Tryd.func4, Tryd.ntmps4
    go_wp2_with (refine (k _).mono ?_; rintro e w' ⟨rfl, rfl⟩)
    go_ret
    exact ⟨rfl, Below.refl _ _⟩
  by_cases h1 : x1.length ≤ 4096
  case neg =>
    have k := fun W => f6p_ok A0 x0.length c0 h0 W
    have k1 := fun W => f6p_big A1 x1.length c1 h1 W
    generalize x0.length = n0 at *
    generalize x1.length = n1 at *
    go_enter Tryd.func4, Tryd.ntmps4
    go_wp2_with (first | (refine (k _).mono ?_; rintro e w' ⟨rfl, rfl⟩) | (refine (k1 _).mono ?_; rintro e w' ⟨rfl, rfl⟩))
    go_ret
    exact ⟨rfl, Below.refl _ _⟩
  have k := fun W => f6p_ok A0 x0.length c0 h0 W
  have k1 := fun W => f6p_ok A1 x1.length c1 h1 W
  have pf := fun W h => P6Flag_any A0 x0 c0 W h (by omega) r0
  have pg := fun W h => P6Flag_any A1 x1 c1 W h (by omega) r1
  have ph := fun A c W h => P6Flag_any A (7 :: x0) c W h (by simp only [List.length_cons]; omega) (by simpa using r0)
  have px := fun W h => P6Pick_any 6 (by omega) A0 x0 c0 W h (by omega) r0
  have py := fun W h => P6Pick_any 4 (by omega) A1 x1 c1 W h (by omega) r1
  have pc := fun W h => P6Pick_any 6 (by omega) A1 x1 c1 W h (by omega) r1
  simp only [List.length_cons] at ph
  generalize hn0 : x0.length = n0 at *
  generalize hn1 : x1.length = n1 at *
  have qb := Below.refl w.heap.size w
  go_enter Tryd.func4, Tryd.ntmps4
  go_wp2_with (first | (refine (k _).mono ?_; rintro e w' ⟨rfl, rfl⟩) | (refine (k1 _).mono ?_; rintro e w' ⟨rfl, rfl⟩))
  clear k k1
  refine (pf _ s0).mono ?_; rintro e u1 ⟨⟨f, rfl, ff⟩, hb⟩
  replace qb := bl_call qb hb
  replace s0 := s0.kept hb
  replace s1 := s1.kept hb
  replace hm := (hb.cell (World.block_lt_of_cell? _ _ hm)).trans hm
  clear hb
  have lf := ff.1
  unfold fl
  have X5 : Blk (u1.alloc (.cells #[.int .u8 0, .int .u8 0, .int .u8 0, .int .u8 0, .int .u8 0, .int .u8 0, .int .u8 0, .int .u8 0, .int .u8 0, .int .u8 0, .int .u8 0, .int .u8 0, .int .u8 0, .int .u8 0, .int .u8 0, .int .u8 0, .int .u8 0, .int .u8 0, .int .u8 0, .int .u8 0, .int .u8 0, .int .u8 0, .int .u8 0, .int .u8 0] 23)) u1.heap.size (u8s zero24) 23 := Blk.mk _ (u8s zero24) _ rfl
  have hq : Below u1.heap.size u1 ((u1.alloc (.cells #[.int .u8 0, .int .u8 0, .int .u8 0, .int .u8 0, .int .u8 0, .int .u8 0, .int .u8 0, .int .u8 0, .int .u8 0, .int .u8 0, .int .u8 0, .int .u8 0, .int .u8 0, .int .u8 0, .int .u8 0, .int .u8 0, .int .u8 0, .int .u8 0, .int .u8 0, .int .u8 0, .int .u8 0, .int .u8 0, .int .u8 0, .int .u8 0] 23)).setRow u1.heap.size (u8s f).toArray) := bl_setRow (bl_new (Below.refl _ _) _) (Nat.le_refl _) _
  have Y5 := X5.setRow (u8s f)
  replace qb := bl_call qb hq
  replace s0 := s0.kept hq
  replace s1 := s1.kept hq
  replace hm := (hq.cell (World.block_lt_of_cell? _ _ hm)).trans hm
  clear hq
  have D5 := Y5
  clear Y5
  go_wp2_with (first | (refine store_blk rfl 23 _ _ rfl _ rfl rfl X5 info_fl (by rw [u8s_length]; exact lf) (by rw [u8s_length]; exact zero24_length) (u8s_one _) ?_))
  generalize (u1.alloc (.cells #[.int .u8 0, .int .u8 0, .int .u8 0, .int .u8 0, .int .u8 0, .int .u8 0, .int .u8 0, .int .u8 0, .int .u8 0, .int .u8 0, .int .u8 0, .int .u8 0, .int .u8 0, .int .u8 0, .int .u8 0, .int .u8 0, .int .u8 0, .int .u8 0, .int .u8 0, .int .u8 0, .int .u8 0, .int .u8 0, .int .u8 0, .int .u8 0] 23)).setRow u1.heap.size (u8s f).toArray = v5 at *
  generalize u1.heap.size = L5 at *
  clear X5
  refine (pg _ s1).mono ?_; rintro e u2 ⟨⟨g, rfl, fg⟩, hb⟩
  replace qb := bl_call qb hb
  replace D5 := D5.kept hb
  replace s0 := s0.kept hb
  replace s1 := s1.kept hb
  replace hm := (hb.cell (World.block_lt_of_cell? _ _ hm)).trans hm
  clear hb
  have lg := fg.1
  unfold fl
  have X6 : Blk (u2.alloc (.cells #[.int .u8 0, .int .u8 0, .int .u8 0, .int .u8 0, .int .u8 0, .int .u8 0, .int .u8 0, .int .u8 0, .int .u8 0, .int .u8 0, .int .u8 0, .int .u8 0, .int .u8 0, .int .u8 0, .int .u8 0, .int .u8 0, .int .u8 0, .int .u8 0, .int .u8 0, .int .u8 0, .int .u8 0, .int .u8 0, .int .u8 0, .int .u8 0] 23)) u2.heap.size (u8s zero24) 23 := Blk.mk _ (u8s zero24) _ rfl
  have hq : Below u2.heap.size u2 ((u2.alloc (.cells #[.int .u8 0, .int .u8 0, .int .u8 0, .int .u8 0, .int .u8 0, .int .u8 0, .int .u8 0, .int .u8 0, .int .u8 0, .int .u8 0, .int .u8 0, .int .u8 0, .int .u8 0, .int .u8 0, .int .u8 0, .int .u8 0, .int .u8 0, .int .u8 0, .int .u8 0, .int .u8 0, .int .u8 0, .int .u8 0, .int .u8 0, .int .u8 0] 23)).setRow u2.heap.size (u8s g).toArray) := bl_setRow (bl_new (Below.refl _ _) _) (Nat.le_refl _) _
  have Y6 := X6.setRow (u8s g)
  replace qb := bl_call qb hq
  replace D5 := D5.kept hq
  replace s0 := s0.kept hq
  replace s1 := s1.kept hq
  replace hm := (hq.cell (World.block_lt_of_cell? _ _ hm)).trans hm
  clear hq
  have D6 := Y6
  clear Y6
  go_wp2_with (refine store_stop2 rfl 23 _ _ rfl _ rfl (ds := u8s g) rfl X6 info_fl (by rw [u8s_length]; exact lg) (by rw [u8s_length]; exact zero24_length) (u8s_one _) ?_)
  refine As.mk ?_
  generalize (u2.alloc (.cells #[.int .u8 0, .int .u8 0, .int .u8 0, .int .u8 0, .int .u8 0, .int .u8 0, .int .u8 0, .int .u8 0, .int .u8 0, .int .u8 0, .int .u8 0, .int .u8 0, .int .u8 0, .int .u8 0, .int .u8 0, .int .u8 0, .int .u8 0, .int .u8 0, .int .u8 0, .int .u8 0, .int .u8 0, .int .u8 0, .int .u8 0, .int .u8 0] 23)).setRow u2.heap.size (u8s g).toArray = v6 at *
  generalize u2.heap.size = L6 at *
  clear X6
  have OL := Own.lit v6 v6.heap.size 5 [.int .u8 7] (Nat.le_refl _) (by simp)
  have bL := bl_new (Below.refl _ v6) (.cells [.int .u8 7].toArray 5)
  have sL := s0.kept bL
  go_wp2_with (first | (at_builtin; refine appSl (w0 := v6) v6.heap.size rfl (.tmp 79) (.tmp 80) 28 5 (.int .u8 0) 1 .u8 rfl Tryd.underlying28 info_u8 rfl _ _ x0 A0 c0 n0 rfl rfl hn0.symm OL sL bL bL.size (by simp only [maxLen, List.length_cons, List.length_nil]; omega) (by simp; omega) ?_))
  rintro v1 w7 O7 hb
  replace qb := bl_call qb hb
  replace D5 := D5.kept hb
  replace D6 := D6.kept hb
  replace s0 := s0.kept hb
  replace s1 := s1.kept hb
  replace hm := (hb.cell (World.block_lt_of_cell? _ _ hm)).trans hm
  clear hb OL bL sL
  obtain ⟨Aq, cq, rfl⟩ := O7.slice
  have hl7 : (Value.int .u8 7 :: x0.map (Value.int .u8)).length = n0 + 1 := by simp [hn0]
  change Own _ _ _ (.slice Aq (Value.int .u8 7 :: x0.map (Value.int .u8)).length cq) _ at O7
  rw [hl7] at O7
  simp only [List.cons_append, List.nil_append, hl7]
  have s7 : Sl .u8 w7 Aq (7 :: x0) := Own.sl' (k := .u8) (xs := 7 :: x0) O7
  clear O7 hl7
  go_wp2_with (fail)
  refine (ph _ _ _ s7).mono ?_; rintro e u3 ⟨⟨hh, rfl, fh⟩, hb⟩
  replace qb := bl_call qb hb
  replace D5 := D5.kept hb
  replace D6 := D6.kept hb
  replace s0 := s0.kept hb
  replace s1 := s1.kept hb
  replace hm := (hb.cell (World.block_lt_of_cell? _ _ hm)).trans hm
  clear hb
  have lh := fh.1
  unfold fl
  have X7 : Blk (u3.alloc (.cells #[.int .u8 0, .int .u8 0, .int .u8 0, .int .u8 0, .int .u8 0, .int .u8 0, .int .u8 0, .int .u8 0, .int .u8 0, .int .u8 0, .int .u8 0, .int .u8 0, .int .u8 0, .int .u8 0, .int .u8 0, .int .u8 0, .int .u8 0, .int .u8 0, .int .u8 0, .int .u8 0, .int .u8 0, .int .u8 0, .int .u8 0, .int .u8 0] 23)) u3.heap.size (u8s zero24) 23 := Blk.mk _ (u8s zero24) _ rfl
  have hq : Below u3.heap.size u3 ((u3.alloc (.cells #[.int .u8 0, .int .u8 0, .int .u8 0, .int .u8 0, .int .u8 0, .int .u8 0, .int .u8 0, .int .u8 0, .int .u8 0, .int .u8 0, .int .u8 0, .int .u8 0, .int .u8 0, .int .u8 0, .int .u8 0, .int .u8 0, .int .u8 0, .int .u8 0, .int .u8 0, .int .u8 0, .int .u8 0, .int .u8 0, .int .u8 0, .int .u8 0] 23)).setRow u3.heap.size (u8s hh).toArray) := bl_setRow (bl_new (Below.refl _ _) _) (Nat.le_refl _) _
  have Y7 := X7.setRow (u8s hh)
  replace qb := bl_call qb hq
  replace D5 := D5.kept hq
  replace D6 := D6.kept hq
  replace s0 := s0.kept hq
  replace s1 := s1.kept hq
  replace hm := (hq.cell (World.block_lt_of_cell? _ _ hm)).trans hm
  clear hq
  have D7 := Y7
  clear Y7
  go_wp2_with (first | (refine store_blk rfl 23 _ _ rfl _ rfl rfl X7 info_fl (by rw [u8s_length]; exact lh) (by rw [u8s_length]; exact zero24_length) (u8s_one _) ?_) | (refine load_blk (by kernel_rfl) 23 _ rfl _ rfl D5 Tryd.underlying23 rfl info_fl (by rw [u8s_length]; exact lf) ?_))
  generalize (u3.alloc (.cells #[.int .u8 0, .int .u8 0, .int .u8 0, .int .u8 0, .int .u8 0, .int .u8 0, .int .u8 0, .int .u8 0, .int .u8 0, .int .u8 0, .int .u8 0, .int .u8 0, .int .u8 0, .int .u8 0, .int .u8 0, .int .u8 0, .int .u8 0, .int .u8 0, .int .u8 0, .int .u8 0, .int .u8 0, .int .u8 0, .int .u8 0, .int .u8 0] 23)).setRow u3.heap.size (u8s hh).toArray = v7 at *
  generalize u3.heap.size = L7 at *
  clear X7
  clear s7 pf pg ph
  have kT := p_text f ff
  have kR := p_read f ff
  have kM := p_mir f ff
  have ksM := p_smir f ff
  have kMM := p_mir (mirrorL f) ff.mirror
  rw [mirror_mirror ff] at kMM
  have kt := p_turn f ff
  have kst := p_sturn f ff
  have ktt := p_turn (turnL f) ff.turn
  rw [turn_turn ff] at ktt
  have ku := p_turn g fg
  have kn := p_count f ff
  have knt := p_count (turnL f) ff.turn
  rw [count_turn] at knt
  have kok := p_ok f ff
  have dfg := p_dist f g ff fg
  have dsfg := p_sdist f g ff fg
  have dgf := p_dist g f fg ff
  rw [diffs_comm g f] at dgf
  have dgh := p_dist g hh fg fh
  have dfh := p_dist f hh ff fh
  have dff := p_dist f f ff ff
  rw [diffs_self] at dff
  have dtt := p_dist (turnL f) (turnL g) ff.turn fg.turn
  rw [diffs_turn] at dtt
  have kb := p_blur f ff
  have ksb := p_sblur f ff
  have kfar := p_far f g ff fg
  have ksfar := p_sfar f g ff fg
  have klike := p_like f g ff fg
  have klikem := p_likem f ff
  have kdown := p_down f ff
  have kpaint := p_paint f ff
  have kcell := p_cell f ff
  have hpf := fun x y c hx hy hc => paint_facts ff (x := x) (y := y) (c := c) hx hy hc
  have kdp := fun x y c hx hy hc => p_dist f (paintL f x y c) ff (hpf x y c hx hy hc).2.1
  have krec := p_rec f ff
  have hrf := fun p q hp hq hpq => rec_facts ff (p := p) (q := q) hp hq hpq
  have knr := fun (p q : Nat) hp hq hpq => p_count (recL f p q) (hrf p q hp hq hpq).2.1
  have tri := diffs_tri f g hh 24
  have b1 := diffs_bd f g 24
  have b2 := diffs_bd g hh 24
  have b3 := diffs_bd f hh 24
  have b4 := diffs_bd (blurL f) (blurL g) 6
  have b5 := far_le f g
  have lm := ff.mirror.1
  have lt := ff.turn.1
  have lu := fg.turn.1
  have ln := countL_length f 24
  have bN : ∀ i, i < 6 → 0 ≤ nth (countL f 24) i ∧ nth (countL f 24) i ≤ 24 := fun i hi => by rw [countL_nth _ _ _ hi]; exact cnt_bd f 24 i
  have lb := blurL_length f
  have zero6_len : zero6.length = 6 := rfl
  have eqfg := diffs_eq ff fg
  have efg := fun W => eql_fl f g ff.1 fg.1 W
  rw [← eqfg] at efg
  have nff := fun W => neq_fl f f ff.1 ff.1 W
  have nmm := fun W => neq_fl (mirrorL f) (mirrorL f) ff.mirror.1 ff.mirror.1 W
  have ntt := fun W => neq_fl (turnL f) (turnL f) ff.turn.1 ff.turn.1 W
  have nnn := fun W => neq_n6 (countL f 24) (countL f 24) (countL_length f 24) (countL_length f 24) W
  have nbb := fun W => neq_b6 (blurL f) (blurL f) (blurL_length f) (blurL_length f) W
  rw [decide_eq_true rfl, Bool.not_true] at nff nmm ntt nnn nbb
  change 0 ≤ farD f g ∧ farD f g ≤ _ at b4
  have hgd := guard_fl
  have hg6 := guard_n6
  have hgb := guard_b6
  clear eqfg fg fh
  generalize diffs f g 24 = d at *
  generalize diffs g hh 24 = d1 at *
  generalize diffs f hh 24 = d2 at *
  generalize farD f g = kk at *
  generalize mirrorL f = MF at *
  generalize turnL f = TF at *
  generalize turnL g = TG at *
  generalize countL f 24 = N at *
  generalize blurL f = BL at *
  generalize flagText f = T at *
  refine (kT _).mono ?_; rintro e u4 ⟨rfl, hb⟩
  replace qb := bl_call qb hb
  replace D5 := D5.kept hb
  replace D6 := D6.kept hb
  replace D7 := D7.kept hb
  replace s0 := s0.kept hb
  replace s1 := s1.kept hb
  replace hm := (hb.cell (World.block_lt_of_cell? _ _ hm)).trans hm
  clear hb
  go_wp2_with (fail)
  refine (kR _ m hm).mono ?_; rintro e u5 ⟨rfl, hb⟩
  replace qb := bl_call qb hb
  replace D5 := D5.kept hb
  replace D6 := D6.kept hb
  replace D7 := D7.kept hb
  replace s0 := s0.kept hb
  replace s1 := s1.kept hb
  replace hm := (hb.cell (World.block_lt_of_cell? _ _ hm)).trans hm
  clear hb
  have X8 : Blk (u5.alloc (.cells #[.int .u8 0, .int .u8 0, .int .u8 0, .int .u8 0, .int .u8 0, .int .u8 0, .int .u8 0, .int .u8 0, .int .u8 0, .int .u8 0, .int .u8 0, .int .u8 0, .int .u8 0, .int .u8 0, .int .u8 0, .int .u8 0, .int .u8 0, .int .u8 0, .int .u8 0, .int .u8 0, .int .u8 0, .int .u8 0, .int .u8 0, .int .u8 0] 23)) u5.heap.size (u8s zero24) 23 := Blk.mk _ (u8s zero24) _ rfl
  have hq : Below u5.heap.size u5 ((u5.alloc (.cells #[.int .u8 0, .int .u8 0, .int .u8 0, .int .u8 0, .int .u8 0, .int .u8 0, .int .u8 0, .int .u8 0, .int .u8 0, .int .u8 0, .int .u8 0, .int .u8 0, .int .u8 0, .int .u8 0, .int .u8 0, .int .u8 0, .int .u8 0, .int .u8 0, .int .u8 0, .int .u8 0, .int .u8 0, .int .u8 0, .int .u8 0, .int .u8 0] 23)).setRow u5.heap.size (u8s f).toArray) := bl_setRow (bl_new (Below.refl _ _) _) (Nat.le_refl _) _
  have Y8 := X8.setRow (u8s f)
  replace qb := bl_call qb hq
  replace D5 := D5.kept hq
  replace D6 := D6.kept hq
  replace D7 := D7.kept hq
  replace s0 := s0.kept hq
  replace s1 := s1.kept hq
  replace hm := (hq.cell (World.block_lt_of_cell? _ _ hm)).trans hm
  clear hq
  have D8 := Y8
  clear Y8
  go_wp2_with (first | (refine store_blk rfl 23 _ _ rfl _ rfl rfl X8 info_fl (by rw [u8s_length]; exact lf) (by rw [u8s_length]; exact zero24_length) (u8s_one _) ?_) | (refine load_blk (by kernel_rfl) 23 _ rfl _ rfl D5 Tryd.underlying23 rfl info_fl (by rw [u8s_length]; exact lf) ?_))
  generalize (u5.alloc (.cells #[.int .u8 0, .int .u8 0, .int .u8 0, .int .u8 0, .int .u8 0, .int .u8 0, .int .u8 0, .int .u8 0, .int .u8 0, .int .u8 0, .int .u8 0, .int .u8 0, .int .u8 0, .int .u8 0, .int .u8 0, .int .u8 0, .int .u8 0, .int .u8 0, .int .u8 0, .int .u8 0, .int .u8 0, .int .u8 0, .int .u8 0, .int .u8 0] 23)).setRow u5.heap.size (u8s f).toArray = v8 at *
  generalize u5.heap.size = L8 at *
  clear X8
  clear hm kR kT
  refine (kM _).mono ?_; rintro e u6 ⟨rfl, hb⟩
  replace qb := bl_call qb hb
  replace D5 := D5.kept hb
  replace D6 := D6.kept hb
  replace D7 := D7.kept hb
  replace D8 := D8.kept hb
  replace s0 := s0.kept hb
  replace s1 := s1.kept hb
  clear hb
  have X10 : Blk (u6.alloc (.cells #[.int .u8 0, .int .u8 0, .int .u8 0, .int .u8 0, .int .u8 0, .int .u8 0, .int .u8 0, .int .u8 0, .int .u8 0, .int .u8 0, .int .u8 0, .int .u8 0, .int .u8 0, .int .u8 0, .int .u8 0, .int .u8 0, .int .u8 0, .int .u8 0, .int .u8 0, .int .u8 0, .int .u8 0, .int .u8 0, .int .u8 0, .int .u8 0] 23)) u6.heap.size (u8s zero24) 23 := Blk.mk _ (u8s zero24) _ rfl
  have hq : Below u6.heap.size u6 ((u6.alloc (.cells #[.int .u8 0, .int .u8 0, .int .u8 0, .int .u8 0, .int .u8 0, .int .u8 0, .int .u8 0, .int .u8 0, .int .u8 0, .int .u8 0, .int .u8 0, .int .u8 0, .int .u8 0, .int .u8 0, .int .u8 0, .int .u8 0, .int .u8 0, .int .u8 0, .int .u8 0, .int .u8 0, .int .u8 0, .int .u8 0, .int .u8 0, .int .u8 0] 23)).setRow u6.heap.size (u8s MF).toArray) := bl_setRow (bl_new (Below.refl _ _) _) (Nat.le_refl _) _
  have Y10 := X10.setRow (u8s MF)
  replace qb := bl_call qb hq
  replace D5 := D5.kept hq
  replace D6 := D6.kept hq
  replace D7 := D7.kept hq
  replace D8 := D8.kept hq
  replace s0 := s0.kept hq
  replace s1 := s1.kept hq
  clear hq
  have D10 := Y10
  clear Y10
  go_wp2_with (first | (refine store_blk rfl 23 _ _ rfl _ rfl rfl X10 info_fl (by rw [u8s_length]; exact lm) (by rw [u8s_length]; exact zero24_length) (u8s_one _) ?_) | (refine load_blk (by kernel_rfl) 23 _ rfl _ rfl D5 Tryd.underlying23 rfl info_fl (by rw [u8s_length]; exact lf) ?_))
  generalize (u6.alloc (.cells #[.int .u8 0, .int .u8 0, .int .u8 0, .int .u8 0, .int .u8 0, .int .u8 0, .int .u8 0, .int .u8 0, .int .u8 0, .int .u8 0, .int .u8 0, .int .u8 0, .int .u8 0, .int .u8 0, .int .u8 0, .int .u8 0, .int .u8 0, .int .u8 0, .int .u8 0, .int .u8 0, .int .u8 0, .int .u8 0, .int .u8 0, .int .u8 0] 23)).setRow u6.heap.size (u8s MF).toArray = v10 at *
  generalize u6.heap.size = L10 at *
  clear X10
  refine (ksM _).mono ?_; rintro e u7 ⟨rfl, hb⟩
  replace qb := bl_call qb hb
  replace D5 := D5.kept hb
  replace D6 := D6.kept hb
  replace D7 := D7.kept hb
  replace D8 := D8.kept hb
  replace D10 := D10.kept hb
  replace s0 := s0.kept hb
  replace s1 := s1.kept hb
  clear hb
  have X12 : Blk (u7.alloc (.cells #[.int .u8 0, .int .u8 0, .int .u8 0, .int .u8 0, .int .u8 0, .int .u8 0, .int .u8 0, .int .u8 0, .int .u8 0, .int .u8 0, .int .u8 0, .int .u8 0, .int .u8 0, .int .u8 0, .int .u8 0, .int .u8 0, .int .u8 0, .int .u8 0, .int .u8 0, .int .u8 0, .int .u8 0, .int .u8 0, .int .u8 0, .int .u8 0] 23)) u7.heap.size (u8s zero24) 23 := Blk.mk _ (u8s zero24) _ rfl
  have hq : Below u7.heap.size u7 ((u7.alloc (.cells #[.int .u8 0, .int .u8 0, .int .u8 0, .int .u8 0, .int .u8 0, .int .u8 0, .int .u8 0, .int .u8 0, .int .u8 0, .int .u8 0, .int .u8 0, .int .u8 0, .int .u8 0, .int .u8 0, .int .u8 0, .int .u8 0, .int .u8 0, .int .u8 0, .int .u8 0, .int .u8 0, .int .u8 0, .int .u8 0, .int .u8 0, .int .u8 0] 23)).setRow u7.heap.size (u8s MF).toArray) := bl_setRow (bl_new (Below.refl _ _) _) (Nat.le_refl _) _
  have Y12 := X12.setRow (u8s MF)
  replace qb := bl_call qb hq
  replace D5 := D5.kept hq
  replace D6 := D6.kept hq
  replace D7 := D7.kept hq
  replace D8 := D8.kept hq
  replace D10 := D10.kept hq
  replace s0 := s0.kept hq
  replace s1 := s1.kept hq
  clear hq
  have D12 := Y12
  clear Y12
  go_wp2_with (first | (refine store_blk rfl 23 _ _ rfl _ rfl rfl X12 info_fl (by rw [u8s_length]; exact lm) (by rw [u8s_length]; exact zero24_length) (u8s_one _) ?_) | (refine load_blk (by kernel_rfl) 23 _ rfl _ rfl D12 Tryd.underlying23 rfl info_fl (by rw [u8s_length]; exact lm) ?_))
  generalize (u7.alloc (.cells #[.int .u8 0, .int .u8 0, .int .u8 0, .int .u8 0, .int .u8 0, .int .u8 0, .int .u8 0, .int .u8 0, .int .u8 0, .int .u8 0, .int .u8 0, .int .u8 0, .int .u8 0, .int .u8 0, .int .u8 0, .int .u8 0, .int .u8 0, .int .u8 0, .int .u8 0, .int .u8 0, .int .u8 0, .int .u8 0, .int .u8 0, .int .u8 0] 23)).setRow u7.heap.size (u8s MF).toArray = v12 at *
  generalize u7.heap.size = L12 at *
  clear X12
  refine (kMM _).mono ?_; rintro e u8 ⟨rfl, hb⟩
  replace qb := bl_call qb hb
  replace D5 := D5.kept hb
  replace D6 := D6.kept hb
  replace D7 := D7.kept hb
  replace D8 := D8.kept hb
  replace D10 := D10.kept hb
  replace D12 := D12.kept hb
  replace s0 := s0.kept hb
  replace s1 := s1.kept hb
  clear hb
  have X14 : Blk (u8.alloc (.cells #[.int .u8 0, .int .u8 0, .int .u8 0, .int .u8 0, .int .u8 0, .int .u8 0, .int .u8 0, .int .u8 0, .int .u8 0, .int .u8 0, .int .u8 0, .int .u8 0, .int .u8 0, .int .u8 0, .int .u8 0, .int .u8 0, .int .u8 0, .int .u8 0, .int .u8 0, .int .u8 0, .int .u8 0, .int .u8 0, .int .u8 0, .int .u8 0] 23)) u8.heap.size (u8s zero24) 23 := Blk.mk _ (u8s zero24) _ rfl
  have hq : Below u8.heap.size u8 ((u8.alloc (.cells #[.int .u8 0, .int .u8 0, .int .u8 0, .int .u8 0, .int .u8 0, .int .u8 0, .int .u8 0, .int .u8 0, .int .u8 0, .int .u8 0, .int .u8 0, .int .u8 0, .int .u8 0, .int .u8 0, .int .u8 0, .int .u8 0, .int .u8 0, .int .u8 0, .int .u8 0, .int .u8 0, .int .u8 0, .int .u8 0, .int .u8 0, .int .u8 0] 23)).setRow u8.heap.size (u8s f).toArray) := bl_setRow (bl_new (Below.refl _ _) _) (Nat.le_refl _) _
  have Y14 := X14.setRow (u8s f)
  replace qb := bl_call qb hq
  replace D5 := D5.kept hq
  replace D6 := D6.kept hq
  replace D7 := D7.kept hq
  replace D8 := D8.kept hq
  replace D10 := D10.kept hq
  replace D12 := D12.kept hq
  replace s0 := s0.kept hq
  replace s1 := s1.kept hq
  clear hq
  have D14 := Y14
  clear Y14
  go_wp2_with (first | (refine store_blk rfl 23 _ _ rfl _ rfl rfl X14 info_fl (by rw [u8s_length]; exact lf) (by rw [u8s_length]; exact zero24_length) (u8s_one _) ?_) | (refine load_blk (by kernel_rfl) 23 _ rfl _ rfl D5 Tryd.underlying23 rfl info_fl (by rw [u8s_length]; exact lf) ?_))
  generalize (u8.alloc (.cells #[.int .u8 0, .int .u8 0, .int .u8 0, .int .u8 0, .int .u8 0, .int .u8 0, .int .u8 0, .int .u8 0, .int .u8 0, .int .u8 0, .int .u8 0, .int .u8 0, .int .u8 0, .int .u8 0, .int .u8 0, .int .u8 0, .int .u8 0, .int .u8 0, .int .u8 0, .int .u8 0, .int .u8 0, .int .u8 0, .int .u8 0, .int .u8 0] 23)).setRow u8.heap.size (u8s f).toArray = v14 at *
  generalize u8.heap.size = L14 at *
  clear X14
  refine (kt _).mono ?_; rintro e u9 ⟨rfl, hb⟩
  replace qb := bl_call qb hb
  replace D5 := D5.kept hb
  replace D6 := D6.kept hb
  replace D7 := D7.kept hb
  replace D8 := D8.kept hb
  replace D10 := D10.kept hb
  replace D12 := D12.kept hb
  replace D14 := D14.kept hb
  replace s0 := s0.kept hb
  replace s1 := s1.kept hb
  clear hb
  have X16 : Blk (u9.alloc (.cells #[.int .u8 0, .int .u8 0, .int .u8 0, .int .u8 0, .int .u8 0, .int .u8 0, .int .u8 0, .int .u8 0, .int .u8 0, .int .u8 0, .int .u8 0, .int .u8 0, .int .u8 0, .int .u8 0, .int .u8 0, .int .u8 0, .int .u8 0, .int .u8 0, .int .u8 0, .int .u8 0, .int .u8 0, .int .u8 0, .int .u8 0, .int .u8 0] 23)) u9.heap.size (u8s zero24) 23 := Blk.mk _ (u8s zero24) _ rfl
  have hq : Below u9.heap.size u9 ((u9.alloc (.cells #[.int .u8 0, .int .u8 0, .int .u8 0, .int .u8 0, .int .u8 0, .int .u8 0, .int .u8 0, .int .u8 0, .int .u8 0, .int .u8 0, .int .u8 0, .int .u8 0, .int .u8 0, .int .u8 0, .int .u8 0, .int .u8 0, .int .u8 0, .int .u8 0, .int .u8 0, .int .u8 0, .int .u8 0, .int .u8 0, .int .u8 0, .int .u8 0] 23)).setRow u9.heap.size (u8s TF).toArray) := bl_setRow (bl_new (Below.refl _ _) _) (Nat.le_refl _) _
  have Y16 := X16.setRow (u8s TF)
  replace qb := bl_call qb hq
  replace D5 := D5.kept hq
  replace D6 := D6.kept hq
  replace D7 := D7.kept hq
  replace D8 := D8.kept hq
  replace D10 := D10.kept hq
  replace D12 := D12.kept hq
  replace D14 := D14.kept hq
  replace s0 := s0.kept hq
  replace s1 := s1.kept hq
  clear hq
  have D16 := Y16
  clear Y16
  go_wp2_with (first | (refine store_blk rfl 23 _ _ rfl _ rfl rfl X16 info_fl (by rw [u8s_length]; exact lt) (by rw [u8s_length]; exact zero24_length) (u8s_one _) ?_) | (refine load_blk (by kernel_rfl) 23 _ rfl _ rfl D5 Tryd.underlying23 rfl info_fl (by rw [u8s_length]; exact lf) ?_))
  generalize (u9.alloc (.cells #[.int .u8 0, .int .u8 0, .int .u8 0, .int .u8 0, .int .u8 0, .int .u8 0, .int .u8 0, .int .u8 0, .int .u8 0, .int .u8 0, .int .u8 0, .int .u8 0, .int .u8 0, .int .u8 0, .int .u8 0, .int .u8 0, .int .u8 0, .int .u8 0, .int .u8 0, .int .u8 0, .int .u8 0, .int .u8 0, .int .u8 0, .int .u8 0] 23)).setRow u9.heap.size (u8s TF).toArray = v16 at *
  generalize u9.heap.size = L16 at *
  clear X16
  refine (kst _).mono ?_; rintro e u10 ⟨rfl, hb⟩
  replace qb := bl_call qb hb
  replace D5 := D5.kept hb
  replace D6 := D6.kept hb
  replace D7 := D7.kept hb
  replace D8 := D8.kept hb
  replace D10 := D10.kept hb
  replace D12 := D12.kept hb
  replace D14 := D14.kept hb
  replace D16 := D16.kept hb
  replace s0 := s0.kept hb
  replace s1 := s1.kept hb
  clear hb
  have X18 : Blk (u10.alloc (.cells #[.int .u8 0, .int .u8 0, .int .u8 0, .int .u8 0, .int .u8 0, .int .u8 0, .int .u8 0, .int .u8 0, .int .u8 0, .int .u8 0, .int .u8 0, .int .u8 0, .int .u8 0, .int .u8 0, .int .u8 0, .int .u8 0, .int .u8 0, .int .u8 0, .int .u8 0, .int .u8 0, .int .u8 0, .int .u8 0, .int .u8 0, .int .u8 0] 23)) u10.heap.size (u8s zero24) 23 := Blk.mk _ (u8s zero24) _ rfl
  have hq : Below u10.heap.size u10 ((u10.alloc (.cells #[.int .u8 0, .int .u8 0, .int .u8 0, .int .u8 0, .int .u8 0, .int .u8 0, .int .u8 0, .int .u8 0, .int .u8 0, .int .u8 0, .int .u8 0, .int .u8 0, .int .u8 0, .int .u8 0, .int .u8 0, .int .u8 0, .int .u8 0, .int .u8 0, .int .u8 0, .int .u8 0, .int .u8 0, .int .u8 0, .int .u8 0, .int .u8 0] 23)).setRow u10.heap.size (u8s TF).toArray) := bl_setRow (bl_new (Below.refl _ _) _) (Nat.le_refl _) _
  have Y18 := X18.setRow (u8s TF)
  replace qb := bl_call qb hq
  replace D5 := D5.kept hq
  replace D6 := D6.kept hq
  replace D7 := D7.kept hq
  replace D8 := D8.kept hq
  replace D10 := D10.kept hq
  replace D12 := D12.kept hq
  replace D14 := D14.kept hq
  replace D16 := D16.kept hq
  replace s0 := s0.kept hq
  replace s1 := s1.kept hq
  clear hq
  have D18 := Y18
  clear Y18
  go_wp2_with (first | (refine store_blk rfl 23 _ _ rfl _ rfl rfl X18 info_fl (by rw [u8s_length]; exact lt) (by rw [u8s_length]; exact zero24_length) (u8s_one _) ?_) | (refine load_blk (by kernel_rfl) 23 _ rfl _ rfl D18 Tryd.underlying23 rfl info_fl (by rw [u8s_length]; exact lt) ?_))
  generalize (u10.alloc (.cells #[.int .u8 0, .int .u8 0, .int .u8 0, .int .u8 0, .int .u8 0, .int .u8 0, .int .u8 0, .int .u8 0, .int .u8 0, .int .u8 0, .int .u8 0, .int .u8 0, .int .u8 0, .int .u8 0, .int .u8 0, .int .u8 0, .int .u8 0, .int .u8 0, .int .u8 0, .int .u8 0, .int .u8 0, .int .u8 0, .int .u8 0, .int .u8 0] 23)).setRow u10.heap.size (u8s TF).toArray = v18 at *
  generalize u10.heap.size = L18 at *
  clear X18
  refine (ktt _).mono ?_; rintro e u11 ⟨rfl, hb⟩
  replace qb := bl_call qb hb
  replace D5 := D5.kept hb
  replace D6 := D6.kept hb
  replace D7 := D7.kept hb
  replace D8 := D8.kept hb
  replace D10 := D10.kept hb
  replace D12 := D12.kept hb
  replace D14 := D14.kept hb
  replace D16 := D16.kept hb
  replace D18 := D18.kept hb
  replace s0 := s0.kept hb
  replace s1 := s1.kept hb
  clear hb
  have X20 : Blk (u11.alloc (.cells #[.int .u8 0, .int .u8 0, .int .u8 0, .int .u8 0, .int .u8 0, .int .u8 0, .int .u8 0, .int .u8 0, .int .u8 0, .int .u8 0, .int .u8 0, .int .u8 0, .int .u8 0, .int .u8 0, .int .u8 0, .int .u8 0, .int .u8 0, .int .u8 0, .int .u8 0, .int .u8 0, .int .u8 0, .int .u8 0, .int .u8 0, .int .u8 0] 23)) u11.heap.size (u8s zero24) 23 := Blk.mk _ (u8s zero24) _ rfl
  have hq : Below u11.heap.size u11 ((u11.alloc (.cells #[.int .u8 0, .int .u8 0, .int .u8 0, .int .u8 0, .int .u8 0, .int .u8 0, .int .u8 0, .int .u8 0, .int .u8 0, .int .u8 0, .int .u8 0, .int .u8 0, .int .u8 0, .int .u8 0, .int .u8 0, .int .u8 0, .int .u8 0, .int .u8 0, .int .u8 0, .int .u8 0, .int .u8 0, .int .u8 0, .int .u8 0, .int .u8 0] 23)).setRow u11.heap.size (u8s f).toArray) := bl_setRow (bl_new (Below.refl _ _) _) (Nat.le_refl _) _
  have Y20 := X20.setRow (u8s f)
  replace qb := bl_call qb hq
  replace D5 := D5.kept hq
  replace D6 := D6.kept hq
  replace D7 := D7.kept hq
  replace D8 := D8.kept hq
  replace D10 := D10.kept hq
  replace D12 := D12.kept hq
  replace D14 := D14.kept hq
  replace D16 := D16.kept hq
  replace D18 := D18.kept hq
  replace s0 := s0.kept hq
  replace s1 := s1.kept hq
  clear hq
  have D20 := Y20
  clear Y20
  go_wp2_with (first | (refine store_blk rfl 23 _ _ rfl _ rfl rfl X20 info_fl (by rw [u8s_length]; exact lf) (by rw [u8s_length]; exact zero24_length) (u8s_one _) ?_) | (refine load_blk (by kernel_rfl) 23 _ rfl _ rfl D6 Tryd.underlying23 rfl info_fl (by rw [u8s_length]; exact lg) ?_))
  generalize (u11.alloc (.cells #[.int .u8 0, .int .u8 0, .int .u8 0, .int .u8 0, .int .u8 0, .int .u8 0, .int .u8 0, .int .u8 0, .int .u8 0, .int .u8 0, .int .u8 0, .int .u8 0, .int .u8 0, .int .u8 0, .int .u8 0, .int .u8 0, .int .u8 0, .int .u8 0, .int .u8 0, .int .u8 0, .int .u8 0, .int .u8 0, .int .u8 0, .int .u8 0] 23)).setRow u11.heap.size (u8s f).toArray = v20 at *
  generalize u11.heap.size = L20 at *
  clear X20
  refine (ku _).mono ?_; rintro e u12 ⟨rfl, hb⟩
  replace qb := bl_call qb hb
  replace D5 := D5.kept hb
  replace D6 := D6.kept hb
  replace D7 := D7.kept hb
  replace D8 := D8.kept hb
  replace D10 := D10.kept hb
  replace D12 := D12.kept hb
  replace D14 := D14.kept hb
  replace D16 := D16.kept hb
  replace D18 := D18.kept hb
  replace D20 := D20.kept hb
  replace s0 := s0.kept hb
  replace s1 := s1.kept hb
  clear hb
  have X22 : Blk (u12.alloc (.cells #[.int .u8 0, .int .u8 0, .int .u8 0, .int .u8 0, .int .u8 0, .int .u8 0, .int .u8 0, .int .u8 0, .int .u8 0, .int .u8 0, .int .u8 0, .int .u8 0, .int .u8 0, .int .u8 0, .int .u8 0, .int .u8 0, .int .u8 0, .int .u8 0, .int .u8 0, .int .u8 0, .int .u8 0, .int .u8 0, .int .u8 0, .int .u8 0] 23)) u12.heap.size (u8s zero24) 23 := Blk.mk _ (u8s zero24) _ rfl
  have hq : Below u12.heap.size u12 ((u12.alloc (.cells #[.int .u8 0, .int .u8 0, .int .u8 0, .int .u8 0, .int .u8 0, .int .u8 0, .int .u8 0, .int .u8 0, .int .u8 0, .int .u8 0, .int .u8 0, .int .u8 0, .int .u8 0, .int .u8 0, .int .u8 0, .int .u8 0, .int .u8 0, .int .u8 0, .int .u8 0, .int .u8 0, .int .u8 0, .int .u8 0, .int .u8 0, .int .u8 0] 23)).setRow u12.heap.size (u8s TG).toArray) := bl_setRow (bl_new (Below.refl _ _) _) (Nat.le_refl _) _
  have Y22 := X22.setRow (u8s TG)
  replace qb := bl_call qb hq
  replace D5 := D5.kept hq
  replace D6 := D6.kept hq
  replace D7 := D7.kept hq
  replace D8 := D8.kept hq
  replace D10 := D10.kept hq
  replace D12 := D12.kept hq
  replace D14 := D14.kept hq
  replace D16 := D16.kept hq
  replace D18 := D18.kept hq
  replace D20 := D20.kept hq
  replace s0 := s0.kept hq
  replace s1 := s1.kept hq
  clear hq
  have D22 := Y22
  clear Y22
  go_wp2_with (first | (refine store_blk rfl 23 _ _ rfl _ rfl rfl X22 info_fl (by rw [u8s_length]; exact lu) (by rw [u8s_length]; exact zero24_length) (u8s_one _) ?_) | (refine load_blk (by kernel_rfl) 23 _ rfl _ rfl D5 Tryd.underlying23 rfl info_fl (by rw [u8s_length]; exact lf) ?_))
  generalize (u12.alloc (.cells #[.int .u8 0, .int .u8 0, .int .u8 0, .int .u8 0, .int .u8 0, .int .u8 0, .int .u8 0, .int .u8 0, .int .u8 0, .int .u8 0, .int .u8 0, .int .u8 0, .int .u8 0, .int .u8 0, .int .u8 0, .int .u8 0, .int .u8 0, .int .u8 0, .int .u8 0, .int .u8 0, .int .u8 0, .int .u8 0, .int .u8 0, .int .u8 0] 23)).setRow u12.heap.size (u8s TG).toArray = v22 at *
  generalize u12.heap.size = L22 at *
  clear X22
  refine (kn _).mono ?_; rintro e u13 ⟨rfl, hb⟩
  replace qb := bl_call qb hb
  replace D5 := D5.kept hb
  replace D6 := D6.kept hb
  replace D7 := D7.kept hb
  replace D8 := D8.kept hb
  replace D10 := D10.kept hb
  replace D12 := D12.kept hb
  replace D14 := D14.kept hb
  replace D16 := D16.kept hb
  replace D18 := D18.kept hb
  replace D20 := D20.kept hb
  replace D22 := D22.kept hb
  replace s0 := s0.kept hb
  replace s1 := s1.kept hb
  clear hb
  have X24 : Blk (u13.alloc (.cells #[.int .i64 0, .int .i64 0, .int .i64 0, .int .i64 0, .int .i64 0, .int .i64 0] 33)) u13.heap.size (i64s zero6) 33 := Blk.mk _ (i64s zero6) _ rfl
  have hq : Below u13.heap.size u13 ((u13.alloc (.cells #[.int .i64 0, .int .i64 0, .int .i64 0, .int .i64 0, .int .i64 0, .int .i64 0] 33)).setRow u13.heap.size (i64s N).toArray) := bl_setRow (bl_new (Below.refl _ _) _) (Nat.le_refl _) _
  have Y24 := X24.setRow (i64s N)
  replace qb := bl_call qb hq
  replace D5 := D5.kept hq
  replace D6 := D6.kept hq
  replace D7 := D7.kept hq
  replace D8 := D8.kept hq
  replace D10 := D10.kept hq
  replace D12 := D12.kept hq
  replace D14 := D14.kept hq
  replace D16 := D16.kept hq
  replace D18 := D18.kept hq
  replace D20 := D20.kept hq
  replace D22 := D22.kept hq
  replace s0 := s0.kept hq
  replace s1 := s1.kept hq
  clear hq
  have D24 := Y24
  clear Y24
  go_wp2_with (first | (refine store_blk rfl 33 _ _ rfl _ rfl (ds := i64s N) rfl X24 info_6 (by rw [i64s_length]; exact ln) (by rw [i64s_length]; exact zero6_len) (i64s_one _) ?_) | (refine load_blk (by kernel_rfl) 23 _ rfl _ rfl D18 Tryd.underlying23 rfl info_fl (by rw [u8s_length]; exact lt) ?_))
  generalize (u13.alloc (.cells #[.int .i64 0, .int .i64 0, .int .i64 0, .int .i64 0, .int .i64 0, .int .i64 0] 33)).setRow u13.heap.size (i64s N).toArray = v24 at *
  generalize u13.heap.size = L24 at *
  clear X24
  refine (knt _).mono ?_; rintro e u14 ⟨rfl, hb⟩
  replace qb := bl_call qb hb
  replace D5 := D5.kept hb
  replace D6 := D6.kept hb
  replace D7 := D7.kept hb
  replace D8 := D8.kept hb
  replace D10 := D10.kept hb
  replace D12 := D12.kept hb
  replace D14 := D14.kept hb
  replace D16 := D16.kept hb
  replace D18 := D18.kept hb
  replace D20 := D20.kept hb
  replace D22 := D22.kept hb
  replace D24 := D24.kept hb
  replace s0 := s0.kept hb
  replace s1 := s1.kept hb
  clear hb
  have X26 : Blk (u14.alloc (.cells #[.int .i64 0, .int .i64 0, .int .i64 0, .int .i64 0, .int .i64 0, .int .i64 0] 33)) u14.heap.size (i64s zero6) 33 := Blk.mk _ (i64s zero6) _ rfl
  have hq : Below u14.heap.size u14 ((u14.alloc (.cells #[.int .i64 0, .int .i64 0, .int .i64 0, .int .i64 0, .int .i64 0, .int .i64 0] 33)).setRow u14.heap.size (i64s N).toArray) := bl_setRow (bl_new (Below.refl _ _) _) (Nat.le_refl _) _
  have Y26 := X26.setRow (i64s N)
  replace qb := bl_call qb hq
  replace D5 := D5.kept hq
  replace D6 := D6.kept hq
  replace D7 := D7.kept hq
  replace D8 := D8.kept hq
  replace D10 := D10.kept hq
  replace D12 := D12.kept hq
  replace D14 := D14.kept hq
  replace D16 := D16.kept hq
  replace D18 := D18.kept hq
  replace D20 := D20.kept hq
  replace D22 := D22.kept hq
  replace D24 := D24.kept hq
  replace s0 := s0.kept hq
  replace s1 := s1.kept hq
  clear hq
  have D26 := Y26
  clear Y26
  go_wp2_with (refine store_stop2 rfl 33 _ _ rfl _ rfl (ds := i64s N) rfl X26 info_6 (by rw [i64s_length]; exact ln) (by rw [i64s_length]; exact zero6_len) (i64s_one _) ?_)
  refine As.mk ?_
  generalize (u14.alloc (.cells #[.int .i64 0, .int .i64 0, .int .i64 0, .int .i64 0, .int .i64 0, .int .i64 0] 33)).setRow u14.heap.size (i64s N).toArray = v26 at *
  generalize u14.heap.size = L26 at *
  clear X26
  refine stepV2 (.int .i64 0) (by kernel_rfl) (by rfl) ?_
  refine wpList_nil ?_
  rename_i K hK
  refine hK _ _ ?_
  clear hK
  simp only [List.append]
  clear kM ksM kMM kt kst ktt ku kn knt
  go_wp2_with (first | (refine load_blk (by kernel_rfl) 23 _ rfl _ rfl D8 Tryd.underlying23 rfl info_fl (by rw [u8s_length]; exact lf) ?_) | (refine load_blk (by kernel_rfl) 23 _ rfl _ rfl D5 Tryd.underlying23 rfl info_fl (by rw [u8s_length]; exact lf) ?_))
  refine (kok _).mono ?_; rintro e u15 ⟨rfl, hb⟩
  replace qb := bl_call qb hb
  replace D5 := D5.kept hb
  replace D6 := D6.kept hb
  replace D7 := D7.kept hb
  replace D8 := D8.kept hb
  replace D10 := D10.kept hb
  replace D12 := D12.kept hb
  replace D14 := D14.kept hb
  replace D16 := D16.kept hb
  replace D18 := D18.kept hb
  replace D20 := D20.kept hb
  replace D22 := D22.kept hb
  replace D24 := D24.kept hb
  replace D26 := D26.kept hb
  replace s0 := s0.kept hb
  replace s1 := s1.kept hb
  clear hb
  go_wp2_with (first | (refine load_blk (by kernel_rfl) 23 _ rfl _ rfl D10 Tryd.underlying23 rfl info_fl (by rw [u8s_length]; exact lm) ?_) | (refine load_blk (by kernel_rfl) 23 _ rfl _ rfl D12 Tryd.underlying23 rfl info_fl (by rw [u8s_length]; exact lm) ?_) | (refine load_blk (by kernel_rfl) 23 _ rfl _ rfl D14 Tryd.underlying23 rfl info_fl (by rw [u8s_length]; exact lf) ?_) | (refine load_blk (by kernel_rfl) 23 _ rfl _ rfl D5 Tryd.underlying23 rfl info_fl (by rw [u8s_length]; exact lf) ?_) | (refine load_blk (by kernel_rfl) 23 _ rfl _ rfl D16 Tryd.underlying23 rfl info_fl (by rw [u8s_length]; exact lt) ?_) | (refine load_blk (by kernel_rfl) 23 _ rfl _ rfl D18 Tryd.underlying23 rfl info_fl (by rw [u8s_length]; exact lt) ?_) | (refine load_blk (by kernel_rfl) 23 _ rfl _ rfl D20 Tryd.underlying23 rfl info_fl (by rw [u8s_length]; exact lf) ?_) | (refine load_blk (by kernel_rfl) 33 _ rfl _ rfl D24 Tryd.underlying33 rfl info_6 (by rw [i64s_length]; exact ln) ?_) | (refine load_blk (by kernel_rfl) 33 _ rfl _ rfl D26 Tryd.underlying33 rfl info_6 (by rw [i64s_length]; exact ln) ?_) | (refine load_blk (by kernel_rfl) 23 _ rfl _ rfl D6 Tryd.underlying23 rfl info_fl (by rw [u8s_length]; exact lg) ?_))
  clear D8 D10 D14 D16 D20 D26
  clear nff nmm ntt nnn kok
  refine (dfg _).mono ?_; rintro e u16 ⟨rfl, hb⟩
  replace qb := bl_call qb hb
  replace D5 := D5.kept hb
  replace D6 := D6.kept hb
  replace D7 := D7.kept hb
  replace D12 := D12.kept hb
  replace D18 := D18.kept hb
  replace D22 := D22.kept hb
  replace D24 := D24.kept hb
  replace s0 := s0.kept hb
  replace s1 := s1.kept hb
  clear hb
  go_wp2_with (first | (refine load_blk (by kernel_rfl) 23 _ rfl _ rfl D5 Tryd.underlying23 rfl info_fl (by rw [u8s_length]; exact lf) ?_) | (refine load_blk (by kernel_rfl) 23 _ rfl _ rfl D6 Tryd.underlying23 rfl info_fl (by rw [u8s_length]; exact lg) ?_))
  refine (dsfg _).mono ?_; rintro e u17 ⟨rfl, hb⟩
  replace qb := bl_call qb hb
  replace D5 := D5.kept hb
  replace D6 := D6.kept hb
  replace D7 := D7.kept hb
  replace D12 := D12.kept hb
  replace D18 := D18.kept hb
  replace D22 := D22.kept hb
  replace D24 := D24.kept hb
  replace s0 := s0.kept hb
  replace s1 := s1.kept hb
  clear hb
  go_wp2_with (first | (refine load_blk (by kernel_rfl) 23 _ rfl _ rfl D5 Tryd.underlying23 rfl info_fl (by rw [u8s_length]; exact lf) ?_) | (refine load_blk (by kernel_rfl) 23 _ rfl _ rfl D6 Tryd.underlying23 rfl info_fl (by rw [u8s_length]; exact lg) ?_))
  refine (dgf _).mono ?_; rintro e u18 ⟨rfl, hb⟩
  replace qb := bl_call qb hb
  replace D5 := D5.kept hb
  replace D6 := D6.kept hb
  replace D7 := D7.kept hb
  replace D12 := D12.kept hb
  replace D18 := D18.kept hb
  replace D22 := D22.kept hb
  replace D24 := D24.kept hb
  replace s0 := s0.kept hb
  replace s1 := s1.kept hb
  clear hb
  go_wp2_with (first | (refine load_blk (by kernel_rfl) 23 _ rfl _ rfl D6 Tryd.underlying23 rfl info_fl (by rw [u8s_length]; exact lg) ?_) | (refine load_blk (by kernel_rfl) 23 _ rfl _ rfl D7 Tryd.underlying23 rfl info_fl (by rw [u8s_length]; exact lh) ?_))
  refine (dgh _).mono ?_; rintro e u19 ⟨rfl, hb⟩
  replace qb := bl_call qb hb
  replace D5 := D5.kept hb
  replace D6 := D6.kept hb
  replace D7 := D7.kept hb
  replace D12 := D12.kept hb
  replace D18 := D18.kept hb
  replace D22 := D22.kept hb
  replace D24 := D24.kept hb
  replace s0 := s0.kept hb
  replace s1 := s1.kept hb
  clear hb
  go_wp2_with (first | (refine load_blk (by kernel_rfl) 23 _ rfl _ rfl D5 Tryd.underlying23 rfl info_fl (by rw [u8s_length]; exact lf) ?_) | (refine load_blk (by kernel_rfl) 23 _ rfl _ rfl D7 Tryd.underlying23 rfl info_fl (by rw [u8s_length]; exact lh) ?_))
  refine (dfh _).mono ?_; rintro e u20 ⟨rfl, hb⟩
  replace qb := bl_call qb hb
  replace D5 := D5.kept hb
  replace D6 := D6.kept hb
  replace D7 := D7.kept hb
  replace D12 := D12.kept hb
  replace D18 := D18.kept hb
  replace D22 := D22.kept hb
  replace D24 := D24.kept hb
  replace s0 := s0.kept hb
  replace s1 := s1.kept hb
  clear hb
  go_wp2_with (first | (refine load_blk (by kernel_rfl) 23 _ rfl _ rfl D5 Tryd.underlying23 rfl info_fl (by rw [u8s_length]; exact lf) ?_))
  refine (dff _).mono ?_; rintro e u21 ⟨rfl, hb⟩
  replace qb := bl_call qb hb
  replace D5 := D5.kept hb
  replace D6 := D6.kept hb
  replace D7 := D7.kept hb
  replace D12 := D12.kept hb
  replace D18 := D18.kept hb
  replace D22 := D22.kept hb
  replace D24 := D24.kept hb
  replace s0 := s0.kept hb
  replace s1 := s1.kept hb
  clear hb
  go_wp2_with (first | (refine load_blk (by kernel_rfl) 23 _ rfl _ rfl D18 Tryd.underlying23 rfl info_fl (by rw [u8s_length]; exact lt) ?_) | (refine load_blk (by kernel_rfl) 23 _ rfl _ rfl D22 Tryd.underlying23 rfl info_fl (by rw [u8s_length]; exact lu) ?_))
  have t1 : ¬ (d + d1 < d2) := by omega
  have t2 : decide (d + d1 < d2) = false := decide_eq_false t1
  have t3 : IntKind.i64.wrap (d + d1) = d + d1 := IntWalk.i64_in _ (by omega)
  refine (dtt _).mono ?_; rintro e u22 ⟨rfl, hb⟩
  replace qb := bl_call qb hb
  replace D5 := D5.kept hb
  replace D6 := D6.kept hb
  replace D7 := D7.kept hb
  replace D12 := D12.kept hb
  replace D18 := D18.kept hb
  replace D22 := D22.kept hb
  replace D24 := D24.kept hb
  replace s0 := s0.kept hb
  replace s1 := s1.kept hb
  clear hb
  go_wp2_with (first | (refine load_blk (by kernel_rfl) 23 _ rfl _ rfl D5 Tryd.underlying23 rfl info_fl (by rw [u8s_length]; exact lf) ?_) | (refine load_blk (by kernel_rfl) 23 _ rfl _ rfl D6 Tryd.underlying23 rfl info_fl (by rw [u8s_length]; exact lg) ?_))
  clear D7 D22
  clear dfg dsfg dgf dgh dfh dff dtt t1 t2 t3
  refine (kb _).mono ?_; rintro e u23 ⟨rfl, hb⟩
  replace qb := bl_call qb hb
  replace D5 := D5.kept hb
  replace D6 := D6.kept hb
  replace D12 := D12.kept hb
  replace D18 := D18.kept hb
  replace D24 := D24.kept hb
  replace s0 := s0.kept hb
  replace s1 := s1.kept hb
  clear hb
  have X42 : Blk (u23.alloc (.cells #[.int .u8 0, .int .u8 0, .int .u8 0, .int .u8 0, .int .u8 0, .int .u8 0] 39)) u23.heap.size (u8s zero6) 39 := Blk.mk _ (u8s zero6) _ rfl
  have hq : Below u23.heap.size u23 ((u23.alloc (.cells #[.int .u8 0, .int .u8 0, .int .u8 0, .int .u8 0, .int .u8 0, .int .u8 0] 39)).setRow u23.heap.size (u8s BL).toArray) := bl_setRow (bl_new (Below.refl _ _) _) (Nat.le_refl _) _
  have Y42 := X42.setRow (u8s BL)
  replace qb := bl_call qb hq
  replace D5 := D5.kept hq
  replace D6 := D6.kept hq
  replace D12 := D12.kept hq
  replace D18 := D18.kept hq
  replace D24 := D24.kept hq
  replace s0 := s0.kept hq
  replace s1 := s1.kept hq
  clear hq
  have D42 := Y42
  clear Y42
  go_wp2_with (first | (refine store_blk rfl 39 _ _ rfl _ rfl (ds := u8s BL) rfl X42 info_b6 (by rw [u8s_length]; exact lb) (by rw [u8s_length]; exact zero6_len) (u8s_one _) ?_) | (refine load_blk (by kernel_rfl) 23 _ rfl _ rfl D5 Tryd.underlying23 rfl info_fl (by rw [u8s_length]; exact lf) ?_))
  generalize (u23.alloc (.cells #[.int .u8 0, .int .u8 0, .int .u8 0, .int .u8 0, .int .u8 0, .int .u8 0] 39)).setRow u23.heap.size (u8s BL).toArray = v42 at *
  generalize u23.heap.size = L42 at *
  clear X42
  refine (ksb _).mono ?_; rintro e u24 ⟨rfl, hb⟩
  replace qb := bl_call qb hb
  replace D5 := D5.kept hb
  replace D6 := D6.kept hb
  replace D12 := D12.kept hb
  replace D18 := D18.kept hb
  replace D24 := D24.kept hb
  replace D42 := D42.kept hb
  replace s0 := s0.kept hb
  replace s1 := s1.kept hb
  clear hb
  have X44 : Blk (u24.alloc (.cells #[.int .u8 0, .int .u8 0, .int .u8 0, .int .u8 0, .int .u8 0, .int .u8 0] 39)) u24.heap.size (u8s zero6) 39 := Blk.mk _ (u8s zero6) _ rfl
  have hq : Below u24.heap.size u24 ((u24.alloc (.cells #[.int .u8 0, .int .u8 0, .int .u8 0, .int .u8 0, .int .u8 0, .int .u8 0] 39)).setRow u24.heap.size (u8s BL).toArray) := bl_setRow (bl_new (Below.refl _ _) _) (Nat.le_refl _) _
  have Y44 := X44.setRow (u8s BL)
  replace qb := bl_call qb hq
  replace D5 := D5.kept hq
  replace D6 := D6.kept hq
  replace D12 := D12.kept hq
  replace D18 := D18.kept hq
  replace D24 := D24.kept hq
  replace D42 := D42.kept hq
  replace s0 := s0.kept hq
  replace s1 := s1.kept hq
  clear hq
  have D44 := Y44
  clear Y44
  go_wp2_with (first | (refine store_blk rfl 39 _ _ rfl _ rfl (ds := u8s BL) rfl X44 info_b6 (by rw [u8s_length]; exact lb) (by rw [u8s_length]; exact zero6_len) (u8s_one _) ?_) | (refine load_blk (by kernel_rfl) 23 _ rfl _ rfl D5 Tryd.underlying23 rfl info_fl (by rw [u8s_length]; exact lf) ?_) | (refine load_blk (by kernel_rfl) 23 _ rfl _ rfl D6 Tryd.underlying23 rfl info_fl (by rw [u8s_length]; exact lg) ?_))
  generalize (u24.alloc (.cells #[.int .u8 0, .int .u8 0, .int .u8 0, .int .u8 0, .int .u8 0, .int .u8 0] 39)).setRow u24.heap.size (u8s BL).toArray = v44 at *
  generalize u24.heap.size = L44 at *
  clear X44
  refine (kfar _).mono ?_; rintro e u25 ⟨rfl, hb⟩
  replace qb := bl_call qb hb
  replace D5 := D5.kept hb
  replace D6 := D6.kept hb
  replace D12 := D12.kept hb
  replace D18 := D18.kept hb
  replace D24 := D24.kept hb
  replace D42 := D42.kept hb
  replace D44 := D44.kept hb
  replace s0 := s0.kept hb
  replace s1 := s1.kept hb
  clear hb
  go_wp2_with (first | (refine load_blk (by kernel_rfl) 23 _ rfl _ rfl D5 Tryd.underlying23 rfl info_fl (by rw [u8s_length]; exact lf) ?_) | (refine load_blk (by kernel_rfl) 23 _ rfl _ rfl D6 Tryd.underlying23 rfl info_fl (by rw [u8s_length]; exact lg) ?_))
  refine (ksfar _).mono ?_; rintro e u26 ⟨rfl, hb⟩
  replace qb := bl_call qb hb
  replace D5 := D5.kept hb
  replace D6 := D6.kept hb
  replace D12 := D12.kept hb
  replace D18 := D18.kept hb
  replace D24 := D24.kept hb
  replace D42 := D42.kept hb
  replace D44 := D44.kept hb
  replace s0 := s0.kept hb
  replace s1 := s1.kept hb
  clear hb
  go_wp2_with (first | (refine load_blk (by kernel_rfl) 23 _ rfl _ rfl D5 Tryd.underlying23 rfl info_fl (by rw [u8s_length]; exact lf) ?_) | (refine load_blk (by kernel_rfl) 23 _ rfl _ rfl D6 Tryd.underlying23 rfl info_fl (by rw [u8s_length]; exact lg) ?_))
  refine (klike _).mono ?_; rintro e u27 ⟨rfl, hb⟩
  replace qb := bl_call qb hb
  replace D5 := D5.kept hb
  replace D6 := D6.kept hb
  replace D12 := D12.kept hb
  replace D18 := D18.kept hb
  replace D24 := D24.kept hb
  replace D42 := D42.kept hb
  replace D44 := D44.kept hb
  replace s0 := s0.kept hb
  replace s1 := s1.kept hb
  clear hb
  go_wp2_with (first | (refine load_blk (by kernel_rfl) 23 _ rfl _ rfl D12 Tryd.underlying23 rfl info_fl (by rw [u8s_length]; exact lm) ?_) | (refine load_blk (by kernel_rfl) 23 _ rfl _ rfl D5 Tryd.underlying23 rfl info_fl (by rw [u8s_length]; exact lf) ?_))
  refine (klikem _).mono ?_; rintro e u28 ⟨rfl, hb⟩
  replace qb := bl_call qb hb
  replace D5 := D5.kept hb
  replace D6 := D6.kept hb
  replace D12 := D12.kept hb
  replace D18 := D18.kept hb
  replace D24 := D24.kept hb
  replace D42 := D42.kept hb
  replace D44 := D44.kept hb
  replace s0 := s0.kept hb
  replace s1 := s1.kept hb
  clear hb
  go_wp2_with (first | (refine load_blk (by kernel_rfl) 23 _ rfl _ rfl D18 Tryd.underlying23 rfl info_fl (by rw [u8s_length]; exact lt) ?_) | (refine load_blk (by kernel_rfl) 23 _ rfl _ rfl D5 Tryd.underlying23 rfl info_fl (by rw [u8s_length]; exact lf) ?_))
  have t1 : ¬ (d < kk) := by omega
  have t2 : decide (d < kk) = false := decide_eq_false t1
  refine (kdown _).mono ?_; rintro e u29 ⟨rfl, hb⟩
  replace qb := bl_call qb hb
  replace D5 := D5.kept hb
  replace D6 := D6.kept hb
  replace D12 := D12.kept hb
  replace D18 := D18.kept hb
  replace D24 := D24.kept hb
  replace D42 := D42.kept hb
  replace D44 := D44.kept hb
  replace s0 := s0.kept hb
  replace s1 := s1.kept hb
  clear hb
  go_wp2_with (first | (refine load_blk (by kernel_rfl) 39 _ rfl _ rfl D42 Tryd.underlying39 rfl info_b6 (by rw [u8s_length]; exact lb) ?_) | (refine load_blk (by kernel_rfl) 39 _ rfl _ rfl D44 Tryd.underlying39 rfl info_b6 (by rw [u8s_length]; exact lb) ?_))
  clear D42 D44 D6 D12 D18
  clear kb ksb kfar ksfar klike klikem kdown t1 t2 nbb
  refine (px _ s0).mono ?_; rintro e u30 ⟨⟨x, rfl, x0', x1'⟩, hb⟩
  replace qb := bl_call qb hb
  replace D5 := D5.kept hb
  replace D24 := D24.kept hb
  replace s0 := s0.kept hb
  replace s1 := s1.kept hb
  clear hb
  go_wp2_with (fail)
  refine (py _ s1).mono ?_; rintro e u31 ⟨⟨y, rfl, y0', y1'⟩, hb⟩
  replace qb := bl_call qb hb
  replace D5 := D5.kept hb
  replace D24 := D24.kept hb
  replace s0 := s0.kept hb
  replace s1 := s1.kept hb
  clear hb
  go_wp2_with (fail)
  refine (pc _ s1).mono ?_; rintro e u32 ⟨⟨c, rfl, c0', c1'⟩, hb⟩
  replace qb := bl_call qb hb
  replace D5 := D5.kept hb
  replace D24 := D24.kept hb
  replace s0 := s0.kept hb
  replace s1 := s1.kept hb
  clear hb
  clear s0 s1 px py pc
  obtain ⟨p, rfl⟩ : ∃ p : Nat, c = (p : Int) := ⟨c.toNat, by omega⟩
  obtain ⟨q, hq'⟩ : ∃ q : Nat, q = (p + 1) % 6 := ⟨_, rfl⟩
  have hp6 : p < 6 := by omega
  have hq6 : q < 6 := by omega
  have hpq : p ≠ q := by omega
  have e1 : (((p : Int) + 1)).tmod 6 = (q : Int) := by rw [Int.tmod_eq_emod_of_nonneg (by omega)]; omega
  have e2 : ((p : Int) + 1) % 6 = (q : Int) := by omega
  clear hq'
  have pp := hpf x y p ⟨x0', x1'⟩ ⟨y0', y1'⟩ ⟨c0', c1'⟩
  have rr := hrf p q hp6 hq6 hpq
  have kpaint := kpaint x y p ⟨x0', x1'⟩ ⟨y0', y1'⟩ ⟨c0', c1'⟩
  have kcell := kcell x y p ⟨x0', x1'⟩ ⟨y0', y1'⟩ ⟨c0', c1'⟩
  have kdp := kdp x y p ⟨x0', x1'⟩ ⟨y0', y1'⟩ ⟨c0', c1'⟩
  have krec := krec p q hp6 hq6 hpq
  have knr := knr p q hp6 hq6 hpq
  have lp := pp.2.1.1
  have lr := rr.2.1.1
  have lnr := countL_length (recL f p q) 24
  have nr1 := rr.2.2.1
  have nr2 := rr.2.2.2
  have np := pp.2.2.2.2
  have bn1 := bN p hp6
  have bn2 := bN q hq6
  clear bN
  have e4 : IntKind.i64.wrap ((p : Int) + 1) = (p : Int) + 1 := IntWalk.i64_in _ (by omega)
  have e5 : IntKind.i64.wrap (nth N p + nth N q) = nth N p + nth N q := IntWalk.i64_in _ (by omega)
  clear hpf hrf pp rr
  generalize diffs f (paintL f x y p) 24 = d3 at *
  generalize paintL f x y p = PL at *
  generalize countL (recL f p q) 24 = NR at *
  generalize recL f p q = RL at *
  go_wp2_with (first | (refine load_blk (by kernel_rfl) 23 _ rfl _ rfl D5 Tryd.underlying23 rfl info_fl (by rw [u8s_length]; exact lf) ?_))
  refine (kpaint _).mono ?_; rintro e u33 ⟨rfl, hb⟩
  replace qb := bl_call qb hb
  replace D5 := D5.kept hb
  replace D24 := D24.kept hb
  clear hb
  have X59 : Blk (u33.alloc (.cells #[.int .u8 0, .int .u8 0, .int .u8 0, .int .u8 0, .int .u8 0, .int .u8 0, .int .u8 0, .int .u8 0, .int .u8 0, .int .u8 0, .int .u8 0, .int .u8 0, .int .u8 0, .int .u8 0, .int .u8 0, .int .u8 0, .int .u8 0, .int .u8 0, .int .u8 0, .int .u8 0, .int .u8 0, .int .u8 0, .int .u8 0, .int .u8 0] 23)) u33.heap.size (u8s zero24) 23 := Blk.mk _ (u8s zero24) _ rfl
  have hq : Below u33.heap.size u33 ((u33.alloc (.cells #[.int .u8 0, .int .u8 0, .int .u8 0, .int .u8 0, .int .u8 0, .int .u8 0, .int .u8 0, .int .u8 0, .int .u8 0, .int .u8 0, .int .u8 0, .int .u8 0, .int .u8 0, .int .u8 0, .int .u8 0, .int .u8 0, .int .u8 0, .int .u8 0, .int .u8 0, .int .u8 0, .int .u8 0, .int .u8 0, .int .u8 0, .int .u8 0] 23)).setRow u33.heap.size (u8s PL).toArray) := bl_setRow (bl_new (Below.refl _ _) _) (Nat.le_refl _) _
  have Y59 := X59.setRow (u8s PL)
  replace qb := bl_call qb hq
  replace D5 := D5.kept hq
  replace D24 := D24.kept hq
  clear hq
  have D59 := Y59
  clear Y59
  go_wp2_with (first | (refine store_blk rfl 23 _ _ rfl _ rfl rfl X59 info_fl (by rw [u8s_length]; exact lp) (by rw [u8s_length]; exact zero24_length) (u8s_one _) ?_) | (refine load_blk (by kernel_rfl) 23 _ rfl _ rfl D59 Tryd.underlying23 rfl info_fl (by rw [u8s_length]; exact lp) ?_))
  generalize (u33.alloc (.cells #[.int .u8 0, .int .u8 0, .int .u8 0, .int .u8 0, .int .u8 0, .int .u8 0, .int .u8 0, .int .u8 0, .int .u8 0, .int .u8 0, .int .u8 0, .int .u8 0, .int .u8 0, .int .u8 0, .int .u8 0, .int .u8 0, .int .u8 0, .int .u8 0, .int .u8 0, .int .u8 0, .int .u8 0, .int .u8 0, .int .u8 0, .int .u8 0] 23)).setRow u33.heap.size (u8s PL).toArray = v59 at *
  generalize u33.heap.size = L59 at *
  clear X59
  refine (kcell _).mono ?_; rintro e u34 ⟨rfl, hb⟩
  replace qb := bl_call qb hb
  replace D5 := D5.kept hb
  replace D24 := D24.kept hb
  replace D59 := D59.kept hb
  clear hb
  go_wp2_with (first | (refine load_blk (by kernel_rfl) 23 _ rfl _ rfl D5 Tryd.underlying23 rfl info_fl (by rw [u8s_length]; exact lf) ?_) | (refine load_blk (by kernel_rfl) 23 _ rfl _ rfl D59 Tryd.underlying23 rfl info_fl (by rw [u8s_length]; exact lp) ?_))
  refine (kdp _).mono ?_; rintro e u35 ⟨rfl, hb⟩
  replace qb := bl_call qb hb
  replace D5 := D5.kept hb
  replace D24 := D24.kept hb
  replace D59 := D59.kept hb
  clear hb
  go_wp2_with (first | (refine load_blk (by kernel_rfl) 23 _ rfl _ rfl D5 Tryd.underlying23 rfl info_fl (by rw [u8s_length]; exact lf) ?_))
  refine (krec _).mono ?_; rintro e u36 ⟨rfl, hb⟩
  replace qb := bl_call qb hb
  replace D5 := D5.kept hb
  replace D24 := D24.kept hb
  replace D59 := D59.kept hb
  clear hb
  have X65 : Blk (u36.alloc (.cells #[.int .u8 0, .int .u8 0, .int .u8 0, .int .u8 0, .int .u8 0, .int .u8 0, .int .u8 0, .int .u8 0, .int .u8 0, .int .u8 0, .int .u8 0, .int .u8 0, .int .u8 0, .int .u8 0, .int .u8 0, .int .u8 0, .int .u8 0, .int .u8 0, .int .u8 0, .int .u8 0, .int .u8 0, .int .u8 0, .int .u8 0, .int .u8 0] 23)) u36.heap.size (u8s zero24) 23 := Blk.mk _ (u8s zero24) _ rfl
  have hq : Below u36.heap.size u36 ((u36.alloc (.cells #[.int .u8 0, .int .u8 0, .int .u8 0, .int .u8 0, .int .u8 0, .int .u8 0, .int .u8 0, .int .u8 0, .int .u8 0, .int .u8 0, .int .u8 0, .int .u8 0, .int .u8 0, .int .u8 0, .int .u8 0, .int .u8 0, .int .u8 0, .int .u8 0, .int .u8 0, .int .u8 0, .int .u8 0, .int .u8 0, .int .u8 0, .int .u8 0] 23)).setRow u36.heap.size (u8s RL).toArray) := bl_setRow (bl_new (Below.refl _ _) _) (Nat.le_refl _) _
  have Y65 := X65.setRow (u8s RL)
  replace qb := bl_call qb hq
  replace D5 := D5.kept hq
  replace D24 := D24.kept hq
  replace D59 := D59.kept hq
  clear hq
  have D65 := Y65
  clear Y65
  go_wp2_with (first | (refine store_blk rfl 23 _ _ rfl _ rfl rfl X65 info_fl (by rw [u8s_length]; exact lr) (by rw [u8s_length]; exact zero24_length) (u8s_one _) ?_) | (refine load_blk (by kernel_rfl) 23 _ rfl _ rfl D65 Tryd.underlying23 rfl info_fl (by rw [u8s_length]; exact lr) ?_))
  generalize (u36.alloc (.cells #[.int .u8 0, .int .u8 0, .int .u8 0, .int .u8 0, .int .u8 0, .int .u8 0, .int .u8 0, .int .u8 0, .int .u8 0, .int .u8 0, .int .u8 0, .int .u8 0, .int .u8 0, .int .u8 0, .int .u8 0, .int .u8 0, .int .u8 0, .int .u8 0, .int .u8 0, .int .u8 0, .int .u8 0, .int .u8 0, .int .u8 0, .int .u8 0] 23)).setRow u36.heap.size (u8s RL).toArray = v65 at *
  generalize u36.heap.size = L65 at *
  clear X65
  clear D5 D59
  refine (knr _).mono ?_; rintro e u37 ⟨rfl, hb⟩
  replace qb := bl_call qb hb
  replace D24 := D24.kept hb
  replace D65 := D65.kept hb
  clear hb
  have X67 : Blk (u37.alloc (.cells #[.int .i64 0, .int .i64 0, .int .i64 0, .int .i64 0, .int .i64 0, .int .i64 0] 33)) u37.heap.size (i64s zero6) 33 := Blk.mk _ (i64s zero6) _ rfl
  have hq : Below u37.heap.size u37 ((u37.alloc (.cells #[.int .i64 0, .int .i64 0, .int .i64 0, .int .i64 0, .int .i64 0, .int .i64 0] 33)).setRow u37.heap.size (i64s NR).toArray) := bl_setRow (bl_new (Below.refl _ _) _) (Nat.le_refl _) _
  have Y67 := X67.setRow (i64s NR)
  replace qb := bl_call qb hq
  replace D24 := D24.kept hq
  replace D65 := D65.kept hq
  clear hq
  have D67 := Y67
  clear Y67
  go_wp2_with (refine store_stop2 rfl 33 _ _ rfl _ rfl (ds := i64s NR) rfl X67 info_6 (by rw [i64s_length]; exact lnr) (by rw [i64s_length]; exact zero6_len) (i64s_one _) ?_)
  refine As.mk ?_
  generalize (u37.alloc (.cells #[.int .i64 0, .int .i64 0, .int .i64 0, .int .i64 0, .int .i64 0, .int .i64 0] 33)).setRow u37.heap.size (i64s NR).toArray = v67 at *
  generalize u37.heap.size = L67 at *
  clear X67
  have ca := D67.at p
  have cb := D67.at q
  have cc := D24.at p
  have cd := D24.at q
  rw [i64s_get NR p (by omega), nr1] at ca
  rw [i64s_get NR q (by omega), nr2] at cb
  rw [i64s_get N p (by omega)] at cc
  rw [i64s_get N q (by omega)] at cd
  have np2 : decide (d3 ≤ 1) = true := decide_eq_true np
  go_wp2_with (fail)
  go_quiet (fail)
  go_wp2_with (fail)
  go_ret
  first | exact ⟨rfl, qb⟩ | exact ⟨rfl, bl_drewN qb _⟩ | exact ⟨rfl, qb.drew⟩
end Go.Proofs.YtjppoejkfpeicaaDoor
