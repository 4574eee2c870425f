/- Contracts: spec.l01Made of the three kinds. -/
import Derived.Test.YtjppoejkfpeicaaG1
set_option linter.unusedVariables false
set_option linter.unusedSimpArgs false
namespace Go.Proofs.Ytjppoejkfpeicaa
open Go.RowKit
theorem aC_two (a b : Int) : aC [a, b] = (inR a 0 5 && inR b 0 5) := by simp [aC]

set_option maxHeartbeats 1000000 in
theorem l01Made0_any (a b : Int) (w : World) :
    Calls Try.prog 68 #[.int .i64 a, .int .i64 b, .int .i64 0] w fun e w' => e = .returned (.tuple #[fl (okF (aC [a, b]) (madeL 0 a b)), .int .i64 (codeR (aC [a, b]))]) ∧ Below w.heap.size w w' := by
  have B0 : Blk ((w.alloc (.cells #[.int .u8 0, .int .u8 0, .int .u8 0, .int .u8 0, .int .u8 0, .int .u8 0, .int .u8 0, .int .u8 0, .int .u8 0, .int .u8 0, .int .u8 0, .int .u8 0, .int .u8 0, .int .u8 0, .int .u8 0, .int .u8 0, .int .u8 0, .int .u8 0, .int .u8 0, .int .u8 0, .int .u8 0, .int .u8 0, .int .u8 0, .int .u8 0] 38)).alloc (.cells #[.int .u8 0, .int .u8 0, .int .u8 0, .int .u8 0, .int .u8 0, .int .u8 0, .int .u8 0, .int .u8 0, .int .u8 0, .int .u8 0, .int .u8 0, .int .u8 0, .int .u8 0, .int .u8 0, .int .u8 0, .int .u8 0, .int .u8 0, .int .u8 0, .int .u8 0, .int .u8 0, .int .u8 0, .int .u8 0, .int .u8 0, .int .u8 0] 38)) w.heap.size (u8s zero24) 38 := (Blk.mk _ (u8s zero24) _ rfl).alloc _
  have B1 : Blk ((w.alloc (.cells #[.int .u8 0, .int .u8 0, .int .u8 0, .int .u8 0, .int .u8 0, .int .u8 0, .int .u8 0, .int .u8 0, .int .u8 0, .int .u8 0, .int .u8 0, .int .u8 0, .int .u8 0, .int .u8 0, .int .u8 0, .int .u8 0, .int .u8 0, .int .u8 0, .int .u8 0, .int .u8 0, .int .u8 0, .int .u8 0, .int .u8 0, .int .u8 0] 38)).alloc (.cells #[.int .u8 0, .int .u8 0, .int .u8 0, .int .u8 0, .int .u8 0, .int .u8 0, .int .u8 0, .int .u8 0, .int .u8 0, .int .u8 0, .int .u8 0, .int .u8 0, .int .u8 0, .int .u8 0, .int .u8 0, .int .u8 0, .int .u8 0, .int .u8 0, .int .u8 0, .int .u8 0, .int .u8 0, .int .u8 0, .int .u8 0, .int .u8 0] 38)) (w.heap.size + 1) (u8s zero24) 38 := Blk.mk _ (u8s zero24) _ (by simp)
  have b0 : Below w.heap.size w ((w.alloc (.cells #[.int .u8 0, .int .u8 0, .int .u8 0, .int .u8 0, .int .u8 0, .int .u8 0, .int .u8 0, .int .u8 0, .int .u8 0, .int .u8 0, .int .u8 0, .int .u8 0, .int .u8 0, .int .u8 0, .int .u8 0, .int .u8 0, .int .u8 0, .int .u8 0, .int .u8 0, .int .u8 0, .int .u8 0, .int .u8 0, .int .u8 0, .int .u8 0] 38)).alloc (.cells #[.int .u8 0, .int .u8 0, .int .u8 0, .int .u8 0, .int .u8 0, .int .u8 0, .int .u8 0, .int .u8 0, .int .u8 0, .int .u8 0, .int .u8 0, .int .u8 0, .int .u8 0, .int .u8 0, .int .u8 0, .int .u8 0, .int .u8 0, .int .u8 0, .int .u8 0, .int .u8 0, .int .u8 0, .int .u8 0, .int .u8 0, .int .u8 0] 38)) := bl_new (bl_new (Below.refl _ _) _) _
  have C0 := B0.farRow (g := w.heap.size + 1) (by omega) (u8s zero24).toArray
  have C1 := B1.setRow (u8s zero24)
  have c0 := bl_setRow b0 (g := w.heap.size + 1) (by omega) (u8s zero24).toArray
  rw [aC_two]
  cases h1 : (inR a 0 5 && inR b 0 5)
  · cases h2 : inR a 0 5
    · go_enter Try.func68, Try.ntmps68
      go_wp2_with (first | (refine store_blk rfl 38 _ _ rfl _ rfl (ds := u8s zero24) rfl B1 info_fl (by rfl) (by rfl) (u8s_one _) ?_) | (go_at_call 67; refine (l01Colour_any _ _).mono ?_; rintro e w' ⟨rfl, rfl⟩) | (refine load_blk rfl 38 _ rfl _ rfl C1 Try.underlying38 rfl info_fl (by rw [u8s_length]; exact rfl) ?_) | (refine store_blk rfl 38 _ _ rfl _ rfl (ds := u8s zero24) rfl C0 info_fl (by rfl) (by rfl) (u8s_one _) ?_))
      refine ret_blk_tmp rfl _ rfl (C0.setRow _) Try.underlying38 rfl info_fl (by rfl) rfl ⟨rfl, bl_setRow c0 (by omega) _⟩
    · rw [h2, Bool.true_and] at h1
      go_enter Try.func68, Try.ntmps68
      go_wp2_with (first | (refine store_blk rfl 38 _ _ rfl _ rfl (ds := u8s zero24) rfl B1 info_fl (by rfl) (by rfl) (u8s_one _) ?_) | (go_at_call 67; refine (l01Colour_any _ _).mono ?_; rintro e w' ⟨rfl, rfl⟩) | (refine load_blk rfl 38 _ rfl _ rfl C1 Try.underlying38 rfl info_fl (by rw [u8s_length]; exact rfl) ?_) | (refine store_blk rfl 38 _ _ rfl _ rfl (ds := u8s zero24) rfl C0 info_fl (by rfl) (by rfl) (u8s_one _) ?_))
      refine ret_blk_tmp rfl _ rfl (C0.setRow _) Try.underlying38 rfl info_fl (by rfl) rfl ⟨rfl, bl_setRow c0 (by omega) _⟩
  · obtain ⟨h2, h3⟩ := Bool.and_eq_true_iff.1 h1
    have n1 := ((inR_iff _ _ _).1 h2).1; have n2 := ((inR_iff _ _ _).1 h2).2
    have n3 := ((inR_iff _ _ _).1 h3).1; have n4 := ((inR_iff _ _ _).1 h3).2
    have hz : part (madeF 0 a b) 24 0 = zero24 := part_zero _ _
    have HZ := As.mk hz
    clear hz h1
    go_enter Try.func68, Try.ntmps68
    go_wp2_with (first | (refine store_blk rfl 38 _ _ rfl _ rfl (ds := u8s zero24) rfl B1 info_fl (by rfl) (by rfl) (u8s_one _) ?_) | (go_at_call 67; refine (l01Colour_any _ _).mono ?_; rintro e w' ⟨rfl, rfl⟩))
    go_loopw [9] (fun i wr => ∃ k : Nat, k ≤ 24 ∧ i = .int .i64 k ∧ Blk wr w.heap.size (u8s zero24) 38 ∧ Blk wr (w.heap.size + 1) (u8s (part (madeF 0 a b) 24 k)) 38 ∧ Below w.heap.size w wr) (fun i _ => 24 - (intOf i).toNat)
    case atStart => exact ⟨0, by omega, rfl, C0, by rw [HZ.out]; exact C1, c0⟩
    case round =>
      obtain ⟨k, hk, rfl, g1, g2, hb⟩ := hrel
      clear B0 B1 b0 C0 C1 c0 HZ
      by_cases hlt : k < 24
      · have hlt' : (k : Int) < 24 := by omega
        obtain ⟨v2, c2⟩ := g2.some k (by rw [u8s_length, part_length]; exact hlt)
        have f2 := g2.frozen k
        go_wp2
        all_goals
          go_roundw
          case rel =>
            first
            | (have hm : madeF 0 a b k = b := by
                 try simp only [beq_iff_eq, beq_eq_false_iff_ne] at *
                 unfold madeF other
                 rw [if_pos (by simp only [Bool.or_eq_true, beq_iff_eq]; omega)]
               have e := part_set (madeF 0 a b) 24 k
               rw [hm] at e
               exact ⟨k + 1, by omega, by go_num, (g1.far (by simp) _).far (by simp) _, by have := (g2.set k (.int .u8 a)).set k (.int .u8 b); rw [List.set_set, u8s_set, e] at this; exact this, (hb.setCell (by simp) _).setCell (by simp) _⟩)
            | (have hm : madeF 0 a b k = a := by
                 try simp only [beq_iff_eq, beq_eq_false_iff_ne] at *
                 unfold madeF other
                 rw [if_neg (by simp only [Bool.or_eq_true, beq_iff_eq]; omega)]
               have e := part_set (madeF 0 a b) 24 k
               rw [hm] at e
               exact ⟨k + 1, by omega, by go_num, g1.far (by simp) _, by have := g2.set k (.int .u8 a); rw [u8s_set, e] at this; exact this, hb.setCell (by simp) _⟩)
          case measure => simp [intOf]; omega
      · obtain rfl : k = 24 := by omega
        rw [part_full] at g2
        have hl := madeL_length 0 a b
        change Blk wr (w.heap.size + 1) (u8s (madeL 0 a b)) _ at g2
        go_wp2_with (first | (refine load_blk rfl 38 _ rfl _ rfl g2 Try.underlying38 rfl info_fl (by rw [u8s_length]; exact hl) ?_) | (refine store_blk rfl 38 _ _ rfl _ rfl rfl g1 info_fl (by rw [u8s_length]; exact hl) (by rw [u8s_length]; exact zero24_length) (u8s_one _) ?_))
        refine ret_blk_tmp rfl _ rfl (g1.setRow _) Try.underlying38 rfl info_fl (by rw [u8s_length]; exact hl) rfl ⟨rfl, bl_setRow hb (by omega) _⟩
set_option maxHeartbeats 1000000 in
theorem l01Made1_any (a b : Int) (w : World) :
    Calls Try.prog 68 #[.int .i64 a, .int .i64 b, .int .i64 1] w fun e w' => e = .returned (.tuple #[fl (okF (aC [a, b]) (madeL 1 a b)), .int .i64 (codeR (aC [a, b]))]) ∧ Below w.heap.size w w' := by
  have B0 : Blk ((w.alloc (.cells #[.int .u8 0, .int .u8 0, .int .u8 0, .int .u8 0, .int .u8 0, .int .u8 0, .int .u8 0, .int .u8 0, .int .u8 0, .int .u8 0, .int .u8 0, .int .u8 0, .int .u8 0, .int .u8 0, .int .u8 0, .int .u8 0, .int .u8 0, .int .u8 0, .int .u8 0, .int .u8 0, .int .u8 0, .int .u8 0, .int .u8 0, .int .u8 0] 38)).alloc (.cells #[.int .u8 0, .int .u8 0, .int .u8 0, .int .u8 0, .int .u8 0, .int .u8 0, .int .u8 0, .int .u8 0, .int .u8 0, .int .u8 0, .int .u8 0, .int .u8 0, .int .u8 0, .int .u8 0, .int .u8 0, .int .u8 0, .int .u8 0, .int .u8 0, .int .u8 0, .int .u8 0, .int .u8 0, .int .u8 0, .int .u8 0, .int .u8 0] 38)) w.heap.size (u8s zero24) 38 := (Blk.mk _ (u8s zero24) _ rfl).alloc _
  have B1 : Blk ((w.alloc (.cells #[.int .u8 0, .int .u8 0, .int .u8 0, .int .u8 0, .int .u8 0, .int .u8 0, .int .u8 0, .int .u8 0, .int .u8 0, .int .u8 0, .int .u8 0, .int .u8 0, .int .u8 0, .int .u8 0, .int .u8 0, .int .u8 0, .int .u8 0, .int .u8 0, .int .u8 0, .int .u8 0, .int .u8 0, .int .u8 0, .int .u8 0, .int .u8 0] 38)).alloc (.cells #[.int .u8 0, .int .u8 0, .int .u8 0, .int .u8 0, .int .u8 0, .int .u8 0, .int .u8 0, .int .u8 0, .int .u8 0, .int .u8 0, .int .u8 0, .int .u8 0, .int .u8 0, .int .u8 0, .int .u8 0, .int .u8 0, .int .u8 0, .int .u8 0, .int .u8 0, .int .u8 0, .int .u8 0, .int .u8 0, .int .u8 0, .int .u8 0] 38)) (w.heap.size + 1) (u8s zero24) 38 := Blk.mk _ (u8s zero24) _ (by simp)
  have b0 : Below w.heap.size w ((w.alloc (.cells #[.int .u8 0, .int .u8 0, .int .u8 0, .int .u8 0, .int .u8 0, .int .u8 0, .int .u8 0, .int .u8 0, .int .u8 0, .int .u8 0, .int .u8 0, .int .u8 0, .int .u8 0, .int .u8 0, .int .u8 0, .int .u8 0, .int .u8 0, .int .u8 0, .int .u8 0, .int .u8 0, .int .u8 0, .int .u8 0, .int .u8 0, .int .u8 0] 38)).alloc (.cells #[.int .u8 0, .int .u8 0, .int .u8 0, .int .u8 0, .int .u8 0, .int .u8 0, .int .u8 0, .int .u8 0, .int .u8 0, .int .u8 0, .int .u8 0, .int .u8 0, .int .u8 0, .int .u8 0, .int .u8 0, .int .u8 0, .int .u8 0, .int .u8 0, .int .u8 0, .int .u8 0, .int .u8 0, .int .u8 0, .int .u8 0, .int .u8 0] 38)) := bl_new (bl_new (Below.refl _ _) _) _
  have C0 := B0.farRow (g := w.heap.size + 1) (by omega) (u8s zero24).toArray
  have C1 := B1.setRow (u8s zero24)
  have c0 := bl_setRow b0 (g := w.heap.size + 1) (by omega) (u8s zero24).toArray
  rw [aC_two]
  cases h1 : (inR a 0 5 && inR b 0 5)
  · cases h2 : inR a 0 5
    · go_enter Try.func68, Try.ntmps68
      go_wp2_with (first | (refine store_blk rfl 38 _ _ rfl _ rfl (ds := u8s zero24) rfl B1 info_fl (by rfl) (by rfl) (u8s_one _) ?_) | (go_at_call 67; refine (l01Colour_any _ _).mono ?_; rintro e w' ⟨rfl, rfl⟩) | (refine load_blk rfl 38 _ rfl _ rfl C1 Try.underlying38 rfl info_fl (by rw [u8s_length]; exact rfl) ?_) | (refine store_blk rfl 38 _ _ rfl _ rfl (ds := u8s zero24) rfl C0 info_fl (by rfl) (by rfl) (u8s_one _) ?_))
      refine ret_blk_tmp rfl _ rfl (C0.setRow _) Try.underlying38 rfl info_fl (by rfl) rfl ⟨rfl, bl_setRow c0 (by omega) _⟩
    · rw [h2, Bool.true_and] at h1
      go_enter Try.func68, Try.ntmps68
      go_wp2_with (first | (refine store_blk rfl 38 _ _ rfl _ rfl (ds := u8s zero24) rfl B1 info_fl (by rfl) (by rfl) (u8s_one _) ?_) | (go_at_call 67; refine (l01Colour_any _ _).mono ?_; rintro e w' ⟨rfl, rfl⟩) | (refine load_blk rfl 38 _ rfl _ rfl C1 Try.underlying38 rfl info_fl (by rw [u8s_length]; exact rfl) ?_) | (refine store_blk rfl 38 _ _ rfl _ rfl (ds := u8s zero24) rfl C0 info_fl (by rfl) (by rfl) (u8s_one _) ?_))
      refine ret_blk_tmp rfl _ rfl (C0.setRow _) Try.underlying38 rfl info_fl (by rfl) rfl ⟨rfl, bl_setRow c0 (by omega) _⟩
  · obtain ⟨h2, h3⟩ := Bool.and_eq_true_iff.1 h1
    have n1 := ((inR_iff _ _ _).1 h2).1; have n2 := ((inR_iff _ _ _).1 h2).2
    have n3 := ((inR_iff _ _ _).1 h3).1; have n4 := ((inR_iff _ _ _).1 h3).2
    have hz : part (madeF 1 a b) 24 0 = zero24 := part_zero _ _
    have HZ := As.mk hz
    clear hz h1
    go_enter Try.func68, Try.ntmps68
    go_wp2_with (first | (refine store_blk rfl 38 _ _ rfl _ rfl (ds := u8s zero24) rfl B1 info_fl (by rfl) (by rfl) (u8s_one _) ?_) | (go_at_call 67; refine (l01Colour_any _ _).mono ?_; rintro e w' ⟨rfl, rfl⟩))
    go_loopw [9] (fun i wr => ∃ k : Nat, k ≤ 24 ∧ i = .int .i64 k ∧ Blk wr w.heap.size (u8s zero24) 38 ∧ Blk wr (w.heap.size + 1) (u8s (part (madeF 1 a b) 24 k)) 38 ∧ Below w.heap.size w wr) (fun i _ => 24 - (intOf i).toNat)
    case atStart => exact ⟨0, by omega, rfl, C0, by rw [HZ.out]; exact C1, c0⟩
    case round =>
      obtain ⟨k, hk, rfl, g1, g2, hb⟩ := hrel
      clear B0 B1 b0 C0 C1 c0 HZ
      by_cases hlt : k < 24
      · have hlt' : (k : Int) < 24 := by omega
        obtain ⟨v2, c2⟩ := g2.some k (by rw [u8s_length, part_length]; exact hlt)
        have f2 := g2.frozen k
        go_wp2
        all_goals
          go_roundw
          case rel =>
            first
            | (have hm : madeF 1 a b k = b := by
                 try simp only [beq_iff_eq, beq_eq_false_iff_ne] at *
                 unfold madeF other
                 rw [if_pos (by simp only [Bool.or_eq_true, beq_iff_eq]; omega)]
               have e := part_set (madeF 1 a b) 24 k
               rw [hm] at e
               exact ⟨k + 1, by omega, by go_num, (g1.far (by simp) _).far (by simp) _, by have := (g2.set k (.int .u8 a)).set k (.int .u8 b); rw [List.set_set, u8s_set, e] at this; exact this, (hb.setCell (by simp) _).setCell (by simp) _⟩)
            | (have hm : madeF 1 a b k = a := by
                 try simp only [beq_iff_eq, beq_eq_false_iff_ne] at *
                 unfold madeF other
                 rw [if_neg (by simp only [Bool.or_eq_true, beq_iff_eq]; omega)]
               have e := part_set (madeF 1 a b) 24 k
               rw [hm] at e
               exact ⟨k + 1, by omega, by go_num, g1.far (by simp) _, by have := g2.set k (.int .u8 a); rw [u8s_set, e] at this; exact this, hb.setCell (by simp) _⟩)
          case measure => simp [intOf]; omega
      · obtain rfl : k = 24 := by omega
        rw [part_full] at g2
        have hl := madeL_length 0 a b
        change Blk wr (w.heap.size + 1) (u8s (madeL 1 a b)) _ at g2
        go_wp2_with (first | (refine load_blk rfl 38 _ rfl _ rfl g2 Try.underlying38 rfl info_fl (by rw [u8s_length]; exact hl) ?_) | (refine store_blk rfl 38 _ _ rfl _ rfl rfl g1 info_fl (by rw [u8s_length]; exact hl) (by rw [u8s_length]; exact zero24_length) (u8s_one _) ?_))
        refine ret_blk_tmp rfl _ rfl (g1.setRow _) Try.underlying38 rfl info_fl (by rw [u8s_length]; exact hl) rfl ⟨rfl, bl_setRow hb (by omega) _⟩
set_option maxHeartbeats 1000000 in
theorem l01Made2_any (a b : Int) (w : World) :
    Calls Try.prog 68 #[.int .i64 a, .int .i64 b, .int .i64 2] w fun e w' => e = .returned (.tuple #[fl (okF (aC [a, b]) (madeL 2 a b)), .int .i64 (codeR (aC [a, b]))]) ∧ Below w.heap.size w w' := by
  have B0 : Blk ((w.alloc (.cells #[.int .u8 0, .int .u8 0, .int .u8 0, .int .u8 0, .int .u8 0, .int .u8 0, .int .u8 0, .int .u8 0, .int .u8 0, .int .u8 0, .int .u8 0, .int .u8 0, .int .u8 0, .int .u8 0, .int .u8 0, .int .u8 0, .int .u8 0, .int .u8 0, .int .u8 0, .int .u8 0, .int .u8 0, .int .u8 0, .int .u8 0, .int .u8 0] 38)).alloc (.cells #[.int .u8 0, .int .u8 0, .int .u8 0, .int .u8 0, .int .u8 0, .int .u8 0, .int .u8 0, .int .u8 0, .int .u8 0, .int .u8 0, .int .u8 0, .int .u8 0, .int .u8 0, .int .u8 0, .int .u8 0, .int .u8 0, .int .u8 0, .int .u8 0, .int .u8 0, .int .u8 0, .int .u8 0, .int .u8 0, .int .u8 0, .int .u8 0] 38)) w.heap.size (u8s zero24) 38 := (Blk.mk _ (u8s zero24) _ rfl).alloc _
  have B1 : Blk ((w.alloc (.cells #[.int .u8 0, .int .u8 0, .int .u8 0, .int .u8 0, .int .u8 0, .int .u8 0, .int .u8 0, .int .u8 0, .int .u8 0, .int .u8 0, .int .u8 0, .int .u8 0, .int .u8 0, .int .u8 0, .int .u8 0, .int .u8 0, .int .u8 0, .int .u8 0, .int .u8 0, .int .u8 0, .int .u8 0, .int .u8 0, .int .u8 0, .int .u8 0] 38)).alloc (.cells #[.int .u8 0, .int .u8 0, .int .u8 0, .int .u8 0, .int .u8 0, .int .u8 0, .int .u8 0, .int .u8 0, .int .u8 0, .int .u8 0, .int .u8 0, .int .u8 0, .int .u8 0, .int .u8 0, .int .u8 0, .int .u8 0, .int .u8 0, .int .u8 0, .int .u8 0, .int .u8 0, .int .u8 0, .int .u8 0, .int .u8 0, .int .u8 0] 38)) (w.heap.size + 1) (u8s zero24) 38 := Blk.mk _ (u8s zero24) _ (by simp)
  have b0 : Below w.heap.size w ((w.alloc (.cells #[.int .u8 0, .int .u8 0, .int .u8 0, .int .u8 0, .int .u8 0, .int .u8 0, .int .u8 0, .int .u8 0, .int .u8 0, .int .u8 0, .int .u8 0, .int .u8 0, .int .u8 0, .int .u8 0, .int .u8 0, .int .u8 0, .int .u8 0, .int .u8 0, .int .u8 0, .int .u8 0, .int .u8 0, .int .u8 0, .int .u8 0, .int .u8 0] 38)).alloc (.cells #[.int .u8 0, .int .u8 0, .int .u8 0, .int .u8 0, .int .u8 0, .int .u8 0, .int .u8 0, .int .u8 0, .int .u8 0, .int .u8 0, .int .u8 0, .int .u8 0, .int .u8 0, .int .u8 0, .int .u8 0, .int .u8 0, .int .u8 0, .int .u8 0, .int .u8 0, .int .u8 0, .int .u8 0, .int .u8 0, .int .u8 0, .int .u8 0] 38)) := bl_new (bl_new (Below.refl _ _) _) _
  have C0 := B0.farRow (g := w.heap.size + 1) (by omega) (u8s zero24).toArray
  have C1 := B1.setRow (u8s zero24)
  have c0 := bl_setRow b0 (g := w.heap.size + 1) (by omega) (u8s zero24).toArray
  rw [aC_two]
  cases h1 : (inR a 0 5 && inR b 0 5)
  · cases h2 : inR a 0 5
    · go_enter Try.func68, Try.ntmps68
      go_wp2_with (first | (refine store_blk rfl 38 _ _ rfl _ rfl (ds := u8s zero24) rfl B1 info_fl (by rfl) (by rfl) (u8s_one _) ?_) | (go_at_call 67; refine (l01Colour_any _ _).mono ?_; rintro e w' ⟨rfl, rfl⟩) | (refine load_blk rfl 38 _ rfl _ rfl C1 Try.underlying38 rfl info_fl (by rw [u8s_length]; exact rfl) ?_) | (refine store_blk rfl 38 _ _ rfl _ rfl (ds := u8s zero24) rfl C0 info_fl (by rfl) (by rfl) (u8s_one _) ?_))
      refine ret_blk_tmp rfl _ rfl (C0.setRow _) Try.underlying38 rfl info_fl (by rfl) rfl ⟨rfl, bl_setRow c0 (by omega) _⟩
    · rw [h2, Bool.true_and] at h1
      go_enter Try.func68, Try.ntmps68
      go_wp2_with (first | (refine store_blk rfl 38 _ _ rfl _ rfl (ds := u8s zero24) rfl B1 info_fl (by rfl) (by rfl) (u8s_one _) ?_) | (go_at_call 67; refine (l01Colour_any _ _).mono ?_; rintro e w' ⟨rfl, rfl⟩) | (refine load_blk rfl 38 _ rfl _ rfl C1 Try.underlying38 rfl info_fl (by rw [u8s_length]; exact rfl) ?_) | (refine store_blk rfl 38 _ _ rfl _ rfl (ds := u8s zero24) rfl C0 info_fl (by rfl) (by rfl) (u8s_one _) ?_))
      refine ret_blk_tmp rfl _ rfl (C0.setRow _) Try.underlying38 rfl info_fl (by rfl) rfl ⟨rfl, bl_setRow c0 (by omega) _⟩
  · obtain ⟨h2, h3⟩ := Bool.and_eq_true_iff.1 h1
    have n1 := ((inR_iff _ _ _).1 h2).1; have n2 := ((inR_iff _ _ _).1 h2).2
    have n3 := ((inR_iff _ _ _).1 h3).1; have n4 := ((inR_iff _ _ _).1 h3).2
    have hz : part (madeF 2 a b) 24 0 = zero24 := part_zero _ _
    have HZ := As.mk hz
    clear hz h1
    go_enter Try.func68, Try.ntmps68
    go_wp2_with (first | (refine store_blk rfl 38 _ _ rfl _ rfl (ds := u8s zero24) rfl B1 info_fl (by rfl) (by rfl) (u8s_one _) ?_) | (go_at_call 67; refine (l01Colour_any _ _).mono ?_; rintro e w' ⟨rfl, rfl⟩))
    go_loopw [9] (fun i wr => ∃ k : Nat, k ≤ 24 ∧ i = .int .i64 k ∧ Blk wr w.heap.size (u8s zero24) 38 ∧ Blk wr (w.heap.size + 1) (u8s (part (madeF 2 a b) 24 k)) 38 ∧ Below w.heap.size w wr) (fun i _ => 24 - (intOf i).toNat)
    case atStart => exact ⟨0, by omega, rfl, C0, by rw [HZ.out]; exact C1, c0⟩
    case round =>
      obtain ⟨k, hk, rfl, g1, g2, hb⟩ := hrel
      clear B0 B1 b0 C0 C1 c0 HZ
      by_cases hlt : k < 24
      · have hlt' : (k : Int) < 24 := by omega
        obtain ⟨v2, c2⟩ := g2.some k (by rw [u8s_length, part_length]; exact hlt)
        have f2 := g2.frozen k
        go_wp2
        all_goals
          go_roundw
          case rel =>
            first
            | (have hm : madeF 2 a b k = b := by
                 try simp only [beq_iff_eq, beq_eq_false_iff_ne] at *
                 unfold madeF other
                 rw [if_pos (by simp only [Bool.or_eq_true, beq_iff_eq]; omega)]
               have e := part_set (madeF 2 a b) 24 k
               rw [hm] at e
               exact ⟨k + 1, by omega, by go_num, (g1.far (by simp) _).far (by simp) _, by have := (g2.set k (.int .u8 a)).set k (.int .u8 b); rw [List.set_set, u8s_set, e] at this; exact this, (hb.setCell (by simp) _).setCell (by simp) _⟩)
            | (have hm : madeF 2 a b k = a := by
                 try simp only [beq_iff_eq, beq_eq_false_iff_ne] at *
                 unfold madeF other
                 rw [if_neg (by simp only [Bool.or_eq_true, beq_iff_eq]; omega)]
               have e := part_set (madeF 2 a b) 24 k
               rw [hm] at e
               exact ⟨k + 1, by omega, by go_num, g1.far (by simp) _, by have := g2.set k (.int .u8 a); rw [u8s_set, e] at this; exact this, hb.setCell (by simp) _⟩)
          case measure => simp [intOf]; omega
      · obtain rfl : k = 24 := by omega
        rw [part_full] at g2
        have hl := madeL_length 0 a b
        change Blk wr (w.heap.size + 1) (u8s (madeL 2 a b)) _ at g2
        go_wp2_with (first | (refine load_blk rfl 38 _ rfl _ rfl g2 Try.underlying38 rfl info_fl (by rw [u8s_length]; exact hl) ?_) | (refine store_blk rfl 38 _ _ rfl _ rfl rfl g1 info_fl (by rw [u8s_length]; exact hl) (by rw [u8s_length]; exact zero24_length) (u8s_one _) ?_))
        refine ret_blk_tmp rfl _ rfl (g1.setRow _) Try.underlying38 rfl info_fl (by rw [u8s_length]; exact hl) rfl ⟨rfl, bl_setRow hb (by omega) _⟩
end Go.Proofs.Ytjppoejkfpeicaa
