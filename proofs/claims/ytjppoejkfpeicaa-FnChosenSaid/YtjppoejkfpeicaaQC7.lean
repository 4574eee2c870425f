/- Contracts and plain facts, several texts in one. -/
import Derived.Test.YtjppoejkfpeicaaQC6
import Derived.Test.YtjppoejkfpeicaaQC1
/- Contracts: spec.l01Made of the three kinds. -/
set_option linter.unusedVariables false
set_option linter.unusedSimpArgs false
namespace Go.Proofs.Ytjppoejkfpeicaa
open Go.RowKit
theorem aC_two (a b : Int) : aC [a, b] = (inR a 0 5 && inR b 0 5) := by simp [aC]

set_option maxHeartbeats 1000000 in
theorem l01Made0_any (a b : Int) (w : World) :
    Calls Try.prog 68 #[.int .i64 a, .int .i64 b, .int .i64 0] w fun e w' => e = .returned (.tuple #[fl (okF (aC [a, b]) (madeL 0 a b)), .int .i64 (codeR (aC [a, b]))]) ∧ Below w.heap.size w w' := by
  have B0 : Blk ((w.alloc (.cells #[.int .u8 0, .int .u8 0, .int .u8 0, .int .u8 0, .int .u8 0, .int .u8 0, .int .u8 0, .int .u8 0, .int .u8 0, .int .u8 0, .int .u8 0, .int .u8 0, .int .u8 0, .int .u8 0, .int .u8 0, .int .u8 0, .int .u8 0, .int .u8 0, .int .u8 0, .int .u8 0, .int .u8 0, .int .u8 0, .int .u8 0, .int .u8 0] 38)).alloc (.cells #[.int .u8 0, .int .u8 0, .int .u8 0, .int .u8 0, .int .u8 0, .int .u8 0, .int .u8 0, .int .u8 0, .int .u8 0, .int .u8 0, .int .u8 0, .int .u8 0, .int .u8 0, .int .u8 0, .int .u8 0, .int .u8 0, .int .u8 0, .int .u8 0, .int .u8 0, .int .u8 0, .int .u8 0, .int .u8 0, .int .u8 0, .int .u8 0] 38)) w.heap.size (u8s zero24) 38 := (Blk.mk _ (u8s zero24) _ rfl).alloc _
  have B1 : Blk ((w.alloc (.cells #[.int .u8 0, .int .u8 0, .int .u8 0, .int .u8 0, .int .u8 0, .int .u8 0, .int .u8 0, .int .u8 0, .int .u8 0, .int .u8 0, .int .u8 0, .int .u8 0, .int .u8 0, .int .u8 0, .int .u8 0, .int .u8 0, .int .u8 0, .int .u8 0, .int .u8 0, .int .u8 0, .int .u8 0, .int .u8 0, .int .u8 0, .int .u8 0] 38)).alloc (.cells #[.int .u8 0, .int .u8 0, .int .u8 0, .int .u8 0, .int .u8 0, .int .u8 0, .int .u8 0, .int .u8 0, .int .u8 0, .int .u8 0, .int .u8 0, .int .u8 0, .int .u8 0, .int .u8 0, .int .u8 0, .int .u8 0, .int .u8 0, .int .u8 0, .int .u8 0, .int .u8 0, .int .u8 0, .int .u8 0, .int .u8 0, .int .u8 0] 38)) (w.heap.size + 1) (u8s zero24) 38 := Blk.mk _ (u8s zero24) _ (by simp)
  have b0 : Below w.heap.size w ((w.alloc (.cells #[.int .u8 0, .int .u8 0, .int .u8 0, .int .u8 0, .int .u8 0, .int .u8 0, .int .u8 0, .int .u8 0, .int .u8 0, .int .u8 0, .int .u8 0, .int .u8 0, .int .u8 0, .int .u8 0, .int .u8 0, .int .u8 0, .int .u8 0, .int .u8 0, .int .u8 0, .int .u8 0, .int .u8 0, .int .u8 0, .int .u8 0, .int .u8 0] 38)).alloc (.cells #[.int .u8 0, .int .u8 0, .int .u8 0, .int .u8 0, .int .u8 0, .int .u8 0, .int .u8 0, .int .u8 0, .int .u8 0, .int .u8 0, .int .u8 0, .int .u8 0, .int .u8 0, .int .u8 0, .int .u8 0, .int .u8 0, .int .u8 0, .int .u8 0, .int .u8 0, .int .u8 0, .int .u8 0, .int .u8 0, .int .u8 0, .int .u8 0] 38)) := bl_new (bl_new (Below.refl _ _) _) _
  have C0 := B0.farRow (g := w.heap.size + 1) (by omega) (u8s zero24).toArray
  have C1 := B1.setRow (u8s zero24)
  have c0 := bl_setRow b0 (g := w.heap.size + 1) (by omega) (u8s zero24).toArray
  rw [aC_two]
  cases h1 : (inR a 0 5 && inR b 0 5)
  · cases h2 : inR a 0 5
    · go_enter Try.func68, Try.ntmps68
      go_wp2_with (first | (refine store_blk rfl 38 _ _ rfl _ rfl (ds := u8s zero24) rfl B1 info_fl (by rfl) (by rfl) (u8s_one _) ?_) | (go_at_call 67; refine (l01Colour_any _ _).mono ?_; rintro e w' ⟨rfl, rfl⟩) | (refine load_blk rfl 38 _ rfl _ rfl C1 Try.underlying38 rfl info_fl (by rw [u8s_length]; exact rfl) ?_) | (refine store_blk rfl 38 _ _ rfl _ rfl (ds := u8s zero24) rfl C0 info_fl (by rfl) (by rfl) (u8s_one _) ?_))
      refine ret_blk_tmp rfl _ rfl (C0.setRow _) Try.underlying38 rfl info_fl (by rfl) rfl ⟨rfl, bl_setRow c0 (by omega) _⟩
    · rw [h2, Bool.true_and] at h1
      go_enter Try.func68, Try.ntmps68
      go_wp2_with (first | (refine store_blk rfl 38 _ _ rfl _ rfl (ds := u8s zero24) rfl B1 info_fl (by rfl) (by rfl) (u8s_one _) ?_) | (go_at_call 67; refine (l01Colour_any _ _).mono ?_; rintro e w' ⟨rfl, rfl⟩) | (refine load_blk rfl 38 _ rfl _ rfl C1 Try.underlying38 rfl info_fl (by rw [u8s_length]; exact rfl) ?_) | (refine store_blk rfl 38 _ _ rfl _ rfl (ds := u8s zero24) rfl C0 info_fl (by rfl) (by rfl) (u8s_one _) ?_))
      refine ret_blk_tmp rfl _ rfl (C0.setRow _) Try.underlying38 rfl info_fl (by rfl) rfl ⟨rfl, bl_setRow c0 (by omega) _⟩
  · obtain ⟨h2, h3⟩ := Bool.and_eq_true_iff.1 h1
    have n1 := ((inR_iff _ _ _).1 h2).1; have n2 := ((inR_iff _ _ _).1 h2).2
    have n3 := ((inR_iff _ _ _).1 h3).1; have n4 := ((inR_iff _ _ _).1 h3).2
    have hz : part (madeF 0 a b) 24 0 = zero24 := part_zero _ _
    have HZ := As.mk hz
    clear hz h1
    go_enter Try.func68, Try.ntmps68
    go_wp2_with (first | (refine store_blk rfl 38 _ _ rfl _ rfl (ds := u8s zero24) rfl B1 info_fl (by rfl) (by rfl) (u8s_one _) ?_) | (go_at_call 67; refine (l01Colour_any _ _).mono ?_; rintro e w' ⟨rfl, rfl⟩))
    go_loopw [9] (fun i wr => ∃ k : Nat, k ≤ 24 ∧ i = .int .i64 k ∧ Blk wr w.heap.size (u8s zero24) 38 ∧ Blk wr (w.heap.size + 1) (u8s (part (madeF 0 a b) 24 k)) 38 ∧ Below w.heap.size w wr) (fun i _ => 24 - (intOf i).toNat)
    case atStart => exact ⟨0, by omega, rfl, C0, by rw [HZ.out]; exact C1, c0⟩
    case round =>
      obtain ⟨k, hk, rfl, g1, g2, hb⟩ := hrel
      clear B0 B1 b0 C0 C1 c0 HZ
      by_cases hlt : k < 24
      · have hlt' : (k : Int) < 24 := by omega
        obtain ⟨v2, c2⟩ := g2.some k (by rw [u8s_length, part_length]; exact hlt)
        have f2 := g2.frozen k
        go_wp2
        all_goals
          go_roundw
          case rel =>
            first
            | (have hm : madeF 0 a b k = b := by
                 try simp only [beq_iff_eq, beq_eq_false_iff_ne] at *
                 unfold madeF other
                 rw [if_pos (by simp only [Bool.or_eq_true, beq_iff_eq]; omega)]
               have e := part_set (madeF 0 a b) 24 k
               rw [hm] at e
               exact ⟨k + 1, by omega, by go_num, (g1.far (by simp) _).far (by simp) _, by have := (g2.set k (.int .u8 a)).set k (.int .u8 b); rw [List.set_set, u8s_set, e] at this; exact this, (hb.setCell (by simp) _).setCell (by simp) _⟩)
            | (have hm : madeF 0 a b k = a := by
                 try simp only [beq_iff_eq, beq_eq_false_iff_ne] at *
                 unfold madeF other
                 rw [if_neg (by simp only [Bool.or_eq_true, beq_iff_eq]; omega)]
               have e := part_set (madeF 0 a b) 24 k
               rw [hm] at e
               exact ⟨k + 1, by omega, by go_num, g1.far (by simp) _, by have := g2.set k (.int .u8 a); rw [u8s_set, e] at this; exact this, hb.setCell (by simp) _⟩)
          case measure => simp [intOf]; omega
      · obtain rfl : k = 24 := by omega
        rw [part_full] at g2
        have hl := madeL_length 0 a b
        change Blk wr (w.heap.size + 1) (u8s (madeL 0 a b)) _ at g2
        go_wp2_with (first | (refine load_blk rfl 38 _ rfl _ rfl g2 Try.underlying38 rfl info_fl (by rw [u8s_length]; exact hl) ?_) | (refine store_blk rfl 38 _ _ rfl _ rfl rfl g1 info_fl (by rw [u8s_length]; exact hl) (by rw [u8s_length]; exact zero24_length) (u8s_one _) ?_))
        refine ret_blk_tmp rfl _ rfl (g1.setRow _) Try.underlying38 rfl info_fl (by rw [u8s_length]; exact hl) rfl ⟨rfl, bl_setRow hb (by omega) _⟩
set_option maxHeartbeats 1000000 in
theorem l01Made1_any (a b : Int) (w : World) :
    Calls Try.prog 68 #[.int .i64 a, .int .i64 b, .int .i64 1] w fun e w' => e = .returned (.tuple #[fl (okF (aC [a, b]) (madeL 1 a b)), .int .i64 (codeR (aC [a, b]))]) ∧ Below w.heap.size w w' := by
  have B0 : Blk ((w.alloc (.cells #[.int .u8 0, .int .u8 0, .int .u8 0, .int .u8 0, .int .u8 0, .int .u8 0, .int .u8 0, .int .u8 0, .int .u8 0, .int .u8 0, .int .u8 0, .int .u8 0, .int .u8 0, .int .u8 0, .int .u8 0, .int .u8 0, .int .u8 0, .int .u8 0, .int .u8 0, .int .u8 0, .int .u8 0, .int .u8 0, .int .u8 0, .int .u8 0] 38)).alloc (.cells #[.int .u8 0, .int .u8 0, .int .u8 0, .int .u8 0, .int .u8 0, .int .u8 0, .int .u8 0, .int .u8 0, .int .u8 0, .int .u8 0, .int .u8 0, .int .u8 0, .int .u8 0, .int .u8 0, .int .u8 0, .int .u8 0, .int .u8 0, .int .u8 0, .int .u8 0, .int .u8 0, .int .u8 0, .int .u8 0, .int .u8 0, .int .u8 0] 38)) w.heap.size (u8s zero24) 38 := (Blk.mk _ (u8s zero24) _ rfl).alloc _
  have B1 : Blk ((w.alloc (.cells #[.int .u8 0, .int .u8 0, .int .u8 0, .int .u8 0, .int .u8 0, .int .u8 0, .int .u8 0, .int .u8 0, .int .u8 0, .int .u8 0, .int .u8 0, .int .u8 0, .int .u8 0, .int .u8 0, .int .u8 0, .int .u8 0, .int .u8 0, .int .u8 0, .int .u8 0, .int .u8 0, .int .u8 0, .int .u8 0, .int .u8 0, .int .u8 0] 38)).alloc (.cells #[.int .u8 0, .int .u8 0, .int .u8 0, .int .u8 0, .int .u8 0, .int .u8 0, .int .u8 0, .int .u8 0, .int .u8 0, .int .u8 0, .int .u8 0, .int .u8 0, .int .u8 0, .int .u8 0, .int .u8 0, .int .u8 0, .int .u8 0, .int .u8 0, .int .u8 0, .int .u8 0, .int .u8 0, .int .u8 0, .int .u8 0, .int .u8 0] 38)) (w.heap.size + 1) (u8s zero24) 38 := Blk.mk _ (u8s zero24) _ (by simp)
  have b0 : Below w.heap.size w ((w.alloc (.cells #[.int .u8 0, .int .u8 0, .int .u8 0, .int .u8 0, .int .u8 0, .int .u8 0, .int .u8 0, .int .u8 0, .int .u8 0, .int .u8 0, .int .u8 0, .int .u8 0, .int .u8 0, .int .u8 0, .int .u8 0, .int .u8 0, .int .u8 0, .int .u8 0, .int .u8 0, .int .u8 0, .int .u8 0, .int .u8 0, .int .u8 0, .int .u8 0] 38)).alloc (.cells #[.int .u8 0, .int .u8 0, .int .u8 0, .int .u8 0, .int .u8 0, .int .u8 0, .int .u8 0, .int .u8 0, .int .u8 0, .int .u8 0, .int .u8 0, .int .u8 0, .int .u8 0, .int .u8 0, .int .u8 0, .int .u8 0, .int .u8 0, .int .u8 0, .int .u8 0, .int .u8 0, .int .u8 0, .int .u8 0, .int .u8 0, .int .u8 0] 38)) := bl_new (bl_new (Below.refl _ _) _) _
  have C0 := B0.farRow (g := w.heap.size + 1) (by omega) (u8s zero24).toArray
  have C1 := B1.setRow (u8s zero24)
  have c0 := bl_setRow b0 (g := w.heap.size + 1) (by omega) (u8s zero24).toArray
  rw [aC_two]
  cases h1 : (inR a 0 5 && inR b 0 5)
  · cases h2 : inR a 0 5
    · go_enter Try.func68, Try.ntmps68
      go_wp2_with (first | (refine store_blk rfl 38 _ _ rfl _ rfl (ds := u8s zero24) rfl B1 info_fl (by rfl) (by rfl) (u8s_one _) ?_) | (go_at_call 67; refine (l01Colour_any _ _).mono ?_; rintro e w' ⟨rfl, rfl⟩) | (refine load_blk rfl 38 _ rfl _ rfl C1 Try.underlying38 rfl info_fl (by rw [u8s_length]; exact rfl) ?_) | (refine store_blk rfl 38 _ _ rfl _ rfl (ds := u8s zero24) rfl C0 info_fl (by rfl) (by rfl) (u8s_one _) ?_))
      refine ret_blk_tmp rfl _ rfl (C0.setRow _) Try.underlying38 rfl info_fl (by rfl) rfl ⟨rfl, bl_setRow c0 (by omega) _⟩
    · rw [h2, Bool.true_and] at h1
      go_enter Try.func68, Try.ntmps68
      go_wp2_with (first | (refine store_blk rfl 38 _ _ rfl _ rfl (ds := u8s zero24) rfl B1 info_fl (by rfl) (by rfl) (u8s_one _) ?_) | (go_at_call 67; refine (l01Colour_any _ _).mono ?_; rintro e w' ⟨rfl, rfl⟩) | (refine load_blk rfl 38 _ rfl _ rfl C1 Try.underlying38 rfl info_fl (by rw [u8s_length]; exact rfl) ?_) | (refine store_blk rfl 38 _ _ rfl _ rfl (ds := u8s zero24) rfl C0 info_fl (by rfl) (by rfl) (u8s_one _) ?_))
      refine ret_blk_tmp rfl _ rfl (C0.setRow _) Try.underlying38 rfl info_fl (by rfl) rfl ⟨rfl, bl_setRow c0 (by omega) _⟩
  · obtain ⟨h2, h3⟩ := Bool.and_eq_true_iff.1 h1
    have n1 := ((inR_iff _ _ _).1 h2).1; have n2 := ((inR_iff _ _ _).1 h2).2
    have n3 := ((inR_iff _ _ _).1 h3).1; have n4 := ((inR_iff _ _ _).1 h3).2
    have hz : part (madeF 1 a b) 24 0 = zero24 := part_zero _ _
    have HZ := As.mk hz
    clear hz h1
    go_enter Try.func68, Try.ntmps68
    go_wp2_with (first | (refine store_blk rfl 38 _ _ rfl _ rfl (ds := u8s zero24) rfl B1 info_fl (by rfl) (by rfl) (u8s_one _) ?_) | (go_at_call 67; refine (l01Colour_any _ _).mono ?_; rintro e w' ⟨rfl, rfl⟩))
    go_loopw [9] (fun i wr => ∃ k : Nat, k ≤ 24 ∧ i = .int .i64 k ∧ Blk wr w.heap.size (u8s zero24) 38 ∧ Blk wr (w.heap.size + 1) (u8s (part (madeF 1 a b) 24 k)) 38 ∧ Below w.heap.size w wr) (fun i _ => 24 - (intOf i).toNat)
    case atStart => exact ⟨0, by omega, rfl, C0, by rw [HZ.out]; exact C1, c0⟩
    case round =>
      obtain ⟨k, hk, rfl, g1, g2, hb⟩ := hrel
      clear B0 B1 b0 C0 C1 c0 HZ
      by_cases hlt : k < 24
      · have hlt' : (k : Int) < 24 := by omega
        obtain ⟨v2, c2⟩ := g2.some k (by rw [u8s_length, part_length]; exact hlt)
        have f2 := g2.frozen k
        go_wp2
        all_goals
          go_roundw
          case rel =>
            first
            | (have hm : madeF 1 a b k = b := by
                 try simp only [beq_iff_eq, beq_eq_false_iff_ne] at *
                 unfold madeF other
                 rw [if_pos (by simp only [Bool.or_eq_true, beq_iff_eq]; omega)]
               have e := part_set (madeF 1 a b) 24 k
               rw [hm] at e
               exact ⟨k + 1, by omega, by go_num, (g1.far (by simp) _).far (by simp) _, by have := (g2.set k (.int .u8 a)).set k (.int .u8 b); rw [List.set_set, u8s_set, e] at this; exact this, (hb.setCell (by simp) _).setCell (by simp) _⟩)
            | (have hm : madeF 1 a b k = a := by
                 try simp only [beq_iff_eq, beq_eq_false_iff_ne] at *
                 unfold madeF other
                 rw [if_neg (by simp only [Bool.or_eq_true, beq_iff_eq]; omega)]
               have e := part_set (madeF 1 a b) 24 k
               rw [hm] at e
               exact ⟨k + 1, by omega, by go_num, g1.far (by simp) _, by have := g2.set k (.int .u8 a); rw [u8s_set, e] at this; exact this, hb.setCell (by simp) _⟩)
          case measure => simp [intOf]; omega
      · obtain rfl : k = 24 := by omega
        rw [part_full] at g2
        have hl := madeL_length 0 a b
        change Blk wr (w.heap.size + 1) (u8s (madeL 1 a b)) _ at g2
        go_wp2_with (first | (refine load_blk rfl 38 _ rfl _ rfl g2 Try.underlying38 rfl info_fl (by rw [u8s_length]; exact hl) ?_) | (refine store_blk rfl 38 _ _ rfl _ rfl rfl g1 info_fl (by rw [u8s_length]; exact hl) (by rw [u8s_length]; exact zero24_length) (u8s_one _) ?_))
        refine ret_blk_tmp rfl _ rfl (g1.setRow _) Try.underlying38 rfl info_fl (by rw [u8s_length]; exact hl) rfl ⟨rfl, bl_setRow hb (by omega) _⟩
set_option maxHeartbeats 1000000 in
theorem l01Made2_any (a b : Int) (w : World) :
    Calls Try.prog 68 #[.int .i64 a, .int .i64 b, .int .i64 2] w fun e w' => e = .returned (.tuple #[fl (okF (aC [a, b]) (madeL 2 a b)), .int .i64 (codeR (aC [a, b]))]) ∧ Below w.heap.size w w' := by
  have B0 : Blk ((w.alloc (.cells #[.int .u8 0, .int .u8 0, .int .u8 0, .int .u8 0, .int .u8 0, .int .u8 0, .int .u8 0, .int .u8 0, .int .u8 0, .int .u8 0, .int .u8 0, .int .u8 0, .int .u8 0, .int .u8 0, .int .u8 0, .int .u8 0, .int .u8 0, .int .u8 0, .int .u8 0, .int .u8 0, .int .u8 0, .int .u8 0, .int .u8 0, .int .u8 0] 38)).alloc (.cells #[.int .u8 0, .int .u8 0, .int .u8 0, .int .u8 0, .int .u8 0, .int .u8 0, .int .u8 0, .int .u8 0, .int .u8 0, .int .u8 0, .int .u8 0, .int .u8 0, .int .u8 0, .int .u8 0, .int .u8 0, .int .u8 0, .int .u8 0, .int .u8 0, .int .u8 0, .int .u8 0, .int .u8 0, .int .u8 0, .int .u8 0, .int .u8 0] 38)) w.heap.size (u8s zero24) 38 := (Blk.mk _ (u8s zero24) _ rfl).alloc _
  have B1 : Blk ((w.alloc (.cells #[.int .u8 0, .int .u8 0, .int .u8 0, .int .u8 0, .int .u8 0, .int .u8 0, .int .u8 0, .int .u8 0, .int .u8 0, .int .u8 0, .int .u8 0, .int .u8 0, .int .u8 0, .int .u8 0, .int .u8 0, .int .u8 0, .int .u8 0, .int .u8 0, .int .u8 0, .int .u8 0, .int .u8 0, .int .u8 0, .int .u8 0, .int .u8 0] 38)).alloc (.cells #[.int .u8 0, .int .u8 0, .int .u8 0, .int .u8 0, .int .u8 0, .int .u8 0, .int .u8 0, .int .u8 0, .int .u8 0, .int .u8 0, .int .u8 0, .int .u8 0, .int .u8 0, .int .u8 0, .int .u8 0, .int .u8 0, .int .u8 0, .int .u8 0, .int .u8 0, .int .u8 0, .int .u8 0, .int .u8 0, .int .u8 0, .int .u8 0] 38)) (w.heap.size + 1) (u8s zero24) 38 := Blk.mk _ (u8s zero24) _ (by simp)
  have b0 : Below w.heap.size w ((w.alloc (.cells #[.int .u8 0, .int .u8 0, .int .u8 0, .int .u8 0, .int .u8 0, .int .u8 0, .int .u8 0, .int .u8 0, .int .u8 0, .int .u8 0, .int .u8 0, .int .u8 0, .int .u8 0, .int .u8 0, .int .u8 0, .int .u8 0, .int .u8 0, .int .u8 0, .int .u8 0, .int .u8 0, .int .u8 0, .int .u8 0, .int .u8 0, .int .u8 0] 38)).alloc (.cells #[.int .u8 0, .int .u8 0, .int .u8 0, .int .u8 0, .int .u8 0, .int .u8 0, .int .u8 0, .int .u8 0, .int .u8 0, .int .u8 0, .int .u8 0, .int .u8 0, .int .u8 0, .int .u8 0, .int .u8 0, .int .u8 0, .int .u8 0, .int .u8 0, .int .u8 0, .int .u8 0, .int .u8 0, .int .u8 0, .int .u8 0, .int .u8 0] 38)) := bl_new (bl_new (Below.refl _ _) _) _
  have C0 := B0.farRow (g := w.heap.size + 1) (by omega) (u8s zero24).toArray
  have C1 := B1.setRow (u8s zero24)
  have c0 := bl_setRow b0 (g := w.heap.size + 1) (by omega) (u8s zero24).toArray
  rw [aC_two]
  cases h1 : (inR a 0 5 && inR b 0 5)
  · cases h2 : inR a 0 5
    · go_enter Try.func68, Try.ntmps68
      go_wp2_with (first | (refine store_blk rfl 38 _ _ rfl _ rfl (ds := u8s zero24) rfl B1 info_fl (by rfl) (by rfl) (u8s_one _) ?_) | (go_at_call 67; refine (l01Colour_any _ _).mono ?_; rintro e w' ⟨rfl, rfl⟩) | (refine load_blk rfl 38 _ rfl _ rfl C1 Try.underlying38 rfl info_fl (by rw [u8s_length]; exact rfl) ?_) | (refine store_blk rfl 38 _ _ rfl _ rfl (ds := u8s zero24) rfl C0 info_fl (by rfl) (by rfl) (u8s_one _) ?_))
      refine ret_blk_tmp rfl _ rfl (C0.setRow _) Try.underlying38 rfl info_fl (by rfl) rfl ⟨rfl, bl_setRow c0 (by omega) _⟩
    · rw [h2, Bool.true_and] at h1
      go_enter Try.func68, Try.ntmps68
      go_wp2_with (first | (refine store_blk rfl 38 _ _ rfl _ rfl (ds := u8s zero24) rfl B1 info_fl (by rfl) (by rfl) (u8s_one _) ?_) | (go_at_call 67; refine (l01Colour_any _ _).mono ?_; rintro e w' ⟨rfl, rfl⟩) | (refine load_blk rfl 38 _ rfl _ rfl C1 Try.underlying38 rfl info_fl (by rw [u8s_length]; exact rfl) ?_) | (refine store_blk rfl 38 _ _ rfl _ rfl (ds := u8s zero24) rfl C0 info_fl (by rfl) (by rfl) (u8s_one _) ?_))
      refine ret_blk_tmp rfl _ rfl (C0.setRow _) Try.underlying38 rfl info_fl (by rfl) rfl ⟨rfl, bl_setRow c0 (by omega) _⟩
  · obtain ⟨h2, h3⟩ := Bool.and_eq_true_iff.1 h1
    have n1 := ((inR_iff _ _ _).1 h2).1; have n2 := ((inR_iff _ _ _).1 h2).2
    have n3 := ((inR_iff _ _ _).1 h3).1; have n4 := ((inR_iff _ _ _).1 h3).2
    have hz : part (madeF 2 a b) 24 0 = zero24 := part_zero _ _
    have HZ := As.mk hz
    clear hz h1
    go_enter Try.func68, Try.ntmps68
    go_wp2_with (first | (refine store_blk rfl 38 _ _ rfl _ rfl (ds := u8s zero24) rfl B1 info_fl (by rfl) (by rfl) (u8s_one _) ?_) | (go_at_call 67; refine (l01Colour_any _ _).mono ?_; rintro e w' ⟨rfl, rfl⟩))
    go_loopw [9] (fun i wr => ∃ k : Nat, k ≤ 24 ∧ i = .int .i64 k ∧ Blk wr w.heap.size (u8s zero24) 38 ∧ Blk wr (w.heap.size + 1) (u8s (part (madeF 2 a b) 24 k)) 38 ∧ Below w.heap.size w wr) (fun i _ => 24 - (intOf i).toNat)
    case atStart => exact ⟨0, by omega, rfl, C0, by rw [HZ.out]; exact C1, c0⟩
    case round =>
      obtain ⟨k, hk, rfl, g1, g2, hb⟩ := hrel
      clear B0 B1 b0 C0 C1 c0 HZ
      by_cases hlt : k < 24
      · have hlt' : (k : Int) < 24 := by omega
        obtain ⟨v2, c2⟩ := g2.some k (by rw [u8s_length, part_length]; exact hlt)
        have f2 := g2.frozen k
        go_wp2
        all_goals
          go_roundw
          case rel =>
            first
            | (have hm : madeF 2 a b k = b := by
                 try simp only [beq_iff_eq, beq_eq_false_iff_ne] at *
                 unfold madeF other
                 rw [if_pos (by simp only [Bool.or_eq_true, beq_iff_eq]; omega)]
               have e := part_set (madeF 2 a b) 24 k
               rw [hm] at e
               exact ⟨k + 1, by omega, by go_num, (g1.far (by simp) _).far (by simp) _, by have := (g2.set k (.int .u8 a)).set k (.int .u8 b); rw [List.set_set, u8s_set, e] at this; exact this, (hb.setCell (by simp) _).setCell (by simp) _⟩)
            | (have hm : madeF 2 a b k = a := by
                 try simp only [beq_iff_eq, beq_eq_false_iff_ne] at *
                 unfold madeF other
                 rw [if_neg (by simp only [Bool.or_eq_true, beq_iff_eq]; omega)]
               have e := part_set (madeF 2 a b) 24 k
               rw [hm] at e
               exact ⟨k + 1, by omega, by go_num, g1.far (by simp) _, by have := g2.set k (.int .u8 a); rw [u8s_set, e] at this; exact this, hb.setCell (by simp) _⟩)
          case measure => simp [intOf]; omega
      · obtain rfl : k = 24 := by omega
        rw [part_full] at g2
        have hl := madeL_length 0 a b
        change Blk wr (w.heap.size + 1) (u8s (madeL 2 a b)) _ at g2
        go_wp2_with (first | (refine load_blk rfl 38 _ rfl _ rfl g2 Try.underlying38 rfl info_fl (by rw [u8s_length]; exact hl) ?_) | (refine store_blk rfl 38 _ _ rfl _ rfl rfl g1 info_fl (by rw [u8s_length]; exact hl) (by rw [u8s_length]; exact zero24_length) (u8s_one _) ?_))
        refine ret_blk_tmp rfl _ rfl (g1.setRow _) Try.underlying38 rfl info_fl (by rw [u8s_length]; exact hl) rfl ⟨rfl, bl_setRow hb (by omega) _⟩
end Go.Proofs.Ytjppoejkfpeicaa

/- Contracts: impl.firstOf of two codes; PaintCell, both sides. -/
set_option linter.unusedVariables false
set_option linter.unusedSimpArgs false
namespace Go.Proofs.Ytjppoejkfpeicaa
open Go.RowKit

/-- The first code that is not 0. -/
def first2 (a b : Int) : Int := if a = 0 then b else a
theorem firstOf2_any (a b : Int) (B o c : Nat) (w : World) (hr : w.rangeAt B o (i64s [a, b])) :
    Calls Try.prog 51 #[.slice (some ⟨B, o, none⟩) 2 c] w fun e w' => e = .returned (.int .i64 (first2 a b)) ∧ w = w' := by
  have c0 : w.cell? ⟨B, o + 0, none⟩ = some (.int .i64 a) := hr 0 _ rfl
  have c1 : w.cell? ⟨B, o + 1, none⟩ = some (.int .i64 b) := hr 1 _ rfl
  rw [Nat.add_zero] at c0
  have hF := As.mk (show first2 a b = if a = 0 then b else a from rfl)
  go_enter Try.func51, Try.ntmps51
  go_wp2
  go_loop [7] (fun i => i = .int .i64 0 ∨ i = .int .i64 1 ∧ As (a = 0) ∨ i = .int .i64 2 ∧ As (a = 0) ∧ As (b = 0)) (fun i => 2 - (intOf i).toNat)
  case atStart => exact .inl rfl
  case round =>
    rcases hrel with rfl | ⟨rfl, h⟩ | ⟨rfl, h, h'⟩
    · by_cases ha : a = 0
      · have ha' : (a != 0) = false := by simp [ha]
        go_wp2
        go_round
        case rel => exact .inr (.inl ⟨rfl, ⟨ha⟩⟩)
        case measure => simp [intOf]
      · have ha' : (a != 0) = true := by simp [ha]
        go_wp2
        go_ret
        exact ⟨ret_n (by rw [hF.out, if_neg ha]), rfl⟩
    · by_cases hb : b = 0
      · have hb' : (b != 0) = false := by simp [hb]
        go_wp2
        go_round
        case rel => exact .inr (.inr ⟨rfl, h, ⟨hb⟩⟩)
        case measure => simp [intOf]
      · have hb' : (b != 0) = true := by simp [hb]
        go_wp2
        go_ret
        exact ⟨ret_n (by rw [hF.out, if_pos h.out]), rfl⟩
    · go_wp2
      go_ret
      exact ⟨ret_n (by rw [hF.out, if_pos h.out, h'.out]), rfl⟩

def paintOk (xs : List Int) (x y c : Int) : Bool := vf xs && ((inR x 0 5 && inR y 0 3) && inR c 0 5)
def paintL (xs : List Int) (x y c : Int) : List Int := okF (paintOk xs x y c) (xs.set (x + 6 * y).toNat c)
def paintC (xs : List Int) (x y c : Int) : Int := if vf xs then codeR ((inR x 0 5 && inR y 0 3) && inR c 0 5) else 1
theorem paintL_length (xs : List Int) (x y c : Int) (hx : xs.length = 24) : (paintL xs x y c).length = 24 := okF_length (by rw [List.length_set]; exact hx)
theorem first2_paint (xs : List Int) (x y c : Int) : first2 (cellC xs x y) (if inR c 0 5 then 0 else 2) = paintC xs x y c := by
  unfold first2 cellC paintC codeR
  cases vf xs <;> cases (inR x 0 5 && inR y 0 3) <;> cases inR c 0 5 <;> rfl

end Go.Proofs.Ytjppoejkfpeicaa

/- Contracts: MostDistinct (impl). -/
set_option linter.unusedVariables false
set_option linter.unusedSimpArgs false
namespace Go.Proofs.Ytjppoejkfpeicaa
open Go.RowKit

/-- Flags k and i are far enough from each other. -/
def gF (fs : List (List Int)) (n : Int) (k i : Nat) : Bool := decide (n ≤ farP fs k i)
def mostC (fs : List (List Int)) (n : Int) : Int := first2 (askC fs n) (if fs.length ≤ 12 then 0 else 7)
def mostL (fs : List (List Int)) (n : Int) : List Int := if mostC fs n = 0 then ni (loopS (gF fs n) fs.length 0 [] []) else []
theorem most_ok {fs : List (List Int)} {n : Int} (h : mostC fs n = 0) : askC fs n = 0 ∧ fs.length ≤ 12 := by
  unfold mostC first2 at h
  split at h
  · split at h
    · exact ⟨by assumption, by assumption⟩
    · omega
  · contradiction
theorem rises_lt {n : Nat} : ∀ {x : List Nat} {k : Nat}, risesN n k x → ∀ j i, i < j → j < x.length → x.getD i 0 < x.getD j 0 ∧ x.getD j 0 < n
  | [], _, _, j, i, _, hj => by simp at hj
  | a :: x, k, ⟨h1, h2, h3⟩, 0, i, hi, hj => by omega
  | a :: x, k, ⟨h1, h2, h3⟩, j + 1, i, hi, hj => by
    have hj' : j < x.length := by simpa using hj
    have hm : x.getD j 0 ∈ x := by rw [List.getD_eq_getElem?_getD, List.getElem?_eq_getElem hj']; exact List.getElem_mem hj'
    have hge := rises_ge h3 _ hm
    cases i with
    | zero => simp only [List.getD_cons_zero, List.getD_cons_succ]; omega
    | succ i => simpa using rises_lt h3 j i (by omega) hj'
theorem sizeF_any (A : Option Addr) (n c : Nat) (w : World) (hn : n ≤ 9223372036854775807) : Calls Try.prog 53 #[.slice A n c] w fun e w' => e = .returned (.int .i64 n) ∧ w = w' := by
  go_enter Try.func53, Try.ntmps53
  go_wp2
  go_ret
  exact ⟨rfl, rfl⟩
section
variable {P : Program} {ops : Array Oper} {Q : Exit → Act → World → Prop} {S : World → Prop} {listed : Array Bool} {ts : List Value} {ds : List Deferred} {w : World} {fuel : Nat}
/-- The one operation that may come up is a store into a map. -/
theorem hUpd (i : Nat) {oi : Oper} (hi : ops[i]? = some oi) (hd : oi.dst = none) (hr : Region.ready .any ops listed = [i])
    (hw : Region.wanted oi (yielded ops ts.toArray) = true) (t : TypeId) (m x v : Operand) (ho : oi.op = .mapUpdate t m x v) {vm vx vv : Value}
    (hm : (Act.mk ts.toArray ds).eval m = vm) (hx : (Act.mk ts.toArray ds).eval x = vx) (hv : (Act.mk ts.toArray ds).eval v = vv) {w' : World} (hrun : (Instr.mapUpdate t vm vx vv).run P w = .ok () w')
    (hS : S w') (h2 : wpAnyH P .any ops Q S fuel (listed.setIfInBounds i true) ⟨ts.toArray, ds⟩ w') : wpAnyH P .any ops Q S (fuel + 1) listed ⟨ts.toArray, ds⟩ w := by
  refine wpAnyH_ready (rs := [i]) hr (by simp) (AllReadyH.cons hi (fun K hK => ?_) AllReadyH.nil)
  rw [if_pos hw]
  unfold Oper.wp
  simp only [execOp, ho, hm, hx, hv, hrun, Sem.run_bind, Sem.run_pure, Result.andThen_ok]
  refine hK.out _ _ hS (fun _ => ?_)
  rw [hd]
  exact h2
end
/-- What is kept through a round. -/
def KF (w : World) (B M b o : Nat) (k i : Nat) (fk fi : List Int) (W : World) : Prop :=
  Below w.heap.size w W ∧ W.cell? ⟨B, 0, none⟩ = some (.map (some M)) ∧ W.rangeAt b (o + k * 24) (u8s fk) ∧ W.rangeAt b (o + i * 24) (u8s fi) ∧ w.heap.size ≤ W.heap.size
theorem KF.call {w : World} {B M b o k i : Nat} {fk fi : List Int} {W W' : World} (h : KF w B M b o k i fk fi W) (hb : Below W.heap.size W W') : KF w B M b o k i fk fi W' :=
  ⟨bl_call h.1 hb, (hb.cell (World.block_lt_of_cell? W _ h.2.1)).trans h.2.1, range_kept h.2.2.1 hb, range_kept h.2.2.2.1 hb, Nat.le_trans h.2.2.2.2 hb.size⟩

set_option maxRecDepth 100000 in
set_option maxHeartbeats 4000000 in
theorem MostDistinct_any (fs : List (List Int)) (A : Option Addr) (c : Nat) (n : Int) (w : World) (hs : SlF w A fs) :
    Calls Try.prog 17 #[.slice A fs.length c, .int .i64 n] w fun e w' => Gave64 (mostL fs n) (mostC fs n) w.heap.size e w' ∧ Below w.heap.size w w' := by
  have k1 := setCode_any fs A c n w hs
  have hbig := hs.1
  have HC := As.mk (show mostC fs n = first2 (askC fs n) (if fs.length ≤ 12 then 0 else 7) from rfl)
  by_cases h0 : mostC fs n = 0
  · obtain ⟨ha, h12⟩ := most_ok h0
    obtain ⟨hv, h40⟩ := ask_ok ha
    have HL := As.mk (show mostL fs n = ni (loopS (gF fs n) fs.length 0 [] []) by unfold mostL; rw [if_pos h0])
    have HB := As.mk (best_both (gF fs n) fs.length)
    rw [ha] at k1
    rw [h0]
    obtain ⟨m, hm⟩ : ∃ m, fs.length = m := ⟨_, rfl⟩
    have HM := As.mk hm
    have h12' : (m : Int) ≤ 12 := by omega
    rw [hm] at k1 hbig h12 ⊢
    clear hm h0 ha HC h40
    go_enter Try.func17, Try.ntmps17
    go_wp2_with (fail)
    refine (k1).mono ?_; rintro e w1 ⟨rfl, hb1⟩
    have X2 := Blk.mk w1 (i64s [0, 0]) 2 rfl
    have c1 := bl_new hb1 (.cells #[.int .i64 0, .int .i64 0] 2)
    have key := firstOf2_any 0 0 w1.heap.size 0 2 (w1.alloc (.cells #[.int .i64 0, .int .i64 0] 2)) X2.range
    have hf0 : first2 0 0 = 0 := rfl
    rw [hf0] at key
    have hmm := @run_makeMap Try.prog
    have ksz := fun W => sizeF_any A m c W hbig
    go_wp2_with (first | (go_at_call 52; refine (unless_any _ _ _).mono ?_; rintro e w' ⟨rfl, rfl⟩) | (go_at_call 51; refine (key).mono ?_; rintro e w' ⟨rfl, rfl⟩) | (go_at_call 53; refine (ksz _).mono ?_; rintro e w' ⟨rfl, rfl⟩))
    have hF0 := (FarM.made (w1.alloc (.cells #[.int .i64 0, .int .i64 0] 2)) (gF fs n))
    have hsz : (w1.alloc (.cells #[.int .i64 0, .int .i64 0] 2)).heap.size = w1.heap.size + 1 := by simp
    rw [hsz] at hF0
    have hB0 : ((((w1.alloc (.cells #[.int .i64 0, .int .i64 0] 2)).alloc (.map #[] 0)).alloc (.cells #[.map (some (w1.heap.size + 1))] 70)) : World).cell? ⟨w1.heap.size + 1 + 1, 0, none⟩ = some (.map (some (w1.heap.size + 1))) := by
      have := (Blk.mk ((w1.alloc (.cells #[.int .i64 0, .int .i64 0] 2)).alloc (.map #[] 0)) [.map (some (w1.heap.size + 1))] 70 (b := w1.heap.size + 1 + 1) (by simp)).at 0
      simpa using this
    have hF1 := hF0.kept (bl_new (Below.refl _ _) (.cells #[.map (some (w1.heap.size + 1))] 70))
    have c3 := bl_new (bl_new c1 (.map #[] 0)) (.cells #[.map (some (w1.heap.size + 1))] 70)
    have hs3 := hs.kept c3
    have hge : w.heap.size ≤ w1.heap.size := hb1.size
    generalize ((w1.alloc (.cells #[.int .i64 0, .int .i64 0] 2)).alloc (.map #[] 0)).alloc (.cells #[.map (some (w1.heap.size + 1))] 70) = W0 at *
    clear key hf0 hmm ksz hF0 hsz X2 c1 k1
    obtain ⟨M, hMd⟩ : ∃ M, w1.heap.size + 1 = M := ⟨_, rfl⟩
    rw [hMd] at hF1 hB0 ⊢
    have hMw : w.heap.size ≤ M := by omega
    clear hMd hge hb1
    obtain ⟨B, hBd⟩ : ∃ B, M + 1 = B := ⟨_, rfl⟩
    have hBM := As.mk (show B ≠ M by omega)
    rw [hBd] at hB0 ⊢
    clear hBd
    go_loopw [25] (fun v wr => ∃ i : Nat, i ≤ m ∧ v = .int .i64 i ∧ FarM wr M (i * 12) (gF fs n) (fun k' j => k' < j ∧ j < i) ∧ wr.cell? ⟨B, 0, none⟩ = some (.map (some M)) ∧ Below w.heap.size w wr) (fun v _ => m - (intOf v).toNat)
    case atStart => exact ⟨0, by omega, rfl, hF1.wider (by omega) (fun k' j h => by omega), hB0, c3⟩
    case round =>
      obtain ⟨i, hi, rfl, hF, hB, hb⟩ := hrel
      by_cases hlt : i < m
      · have hlt' : (i : Int) < (m : Int) := by omega
        have hi12 := As.mk (show i < 12 by omega)
        have hi0 : (0 : Int) ≤ (i : Int) := by omega
        go_wp2_with (fail)
        go_loopw [29] (fun v wr => ∃ k : Nat, k ≤ i ∧ v = .int .i64 k ∧ FarM wr M (i * 12 + k) (gF fs n) (fun k' j => (k' < j ∧ j < i) ∨ (j = i ∧ k' < k)) ∧ wr.cell? ⟨B, 0, none⟩ = some (.map (some M)) ∧ Below w.heap.size w wr) (fun v _ => i - (intOf v).toNat)
        case atStart => exact ⟨0, by omega, rfl, hF.wider (by omega) (fun k' j h => by omega), hB, hb⟩
        case round =>
          obtain ⟨k, hk, rfl, hF, hB, hb⟩ := hrel
          by_cases hki : k < i
          · have hki' : (k : Int) < (i : Int) := by omega
            have hkm' : (k : Int) < (m : Int) := by omega
            have hk0 : (0 : Int) ≤ (k : Int) := by omega
            obtain ⟨b, o, rfl, hr⟩ := hs.2.2.2 (by rw [HM.out]; omega)
            have hkf : k < fs.length := by rw [HM.out]; omega
            have hif : i < fs.length := by rw [HM.out]; omega
            have lk := hs.len k hkf
            have li := hs.len i hif
            have hi1 := info_len lk
            have hi2 := info_len li
            have kput := fun W (h : FarM W M (i * 12 + k) (gF fs n) (fun k' j => (k' < j ∧ j < i) ∨ (j = i ∧ k' < k))) => h.put (by have := hi12.out; omega) k i (by have := hi12.out; omega) hi12.out
            have hgv : gF fs n k i = decide (n ≤ diffs (blurL (nthF fs k)) (blurL (nthF fs i)) 6) := rfl
            simp only [hgv] at kput
            have ka := fun W => afar_any (nthF fs k) (nthF fs i) lk li (hs.bytes k hkf) (hs.bytes i hif) (vfs_at hv k hkf) (vfs_at hv i hif) W
            have hbw := As.mk (World.block_lt_of_cell? w _ (hr k _ (nthF_get? fs k hkf) 0 _ (u8s_get _ 0 (by rw [lk]; omega))))
            have S0 : KF w B M b o k i (nthF fs k) (nthF fs i) wr := ⟨hb, hB, range_kept (hr k _ (nthF_get? fs k hkf)) hb, range_kept (hr i _ (nthF_get? fs i hif)) hb, hb.size⟩
            generalize diffs (blurL (nthF fs k)) (blurL (nthF fs i)) 6 = dd at *
            clear hr hgv hB hb hs3
            generalize nthF fs k = fk at *
            generalize nthF fs i = fi at *
            have kput' := As.mk kput
            clear kput
            unfold fl at ka
            unfold KF at *
            go_wp2_with (fail)
            refine wp_region_held_drew (S := (fun W => Below w.heap.size w W ∧ W.cell? ⟨B, 0, none⟩ = some (.map (some M)) ∧ W.rangeAt b (o + k * 24) (u8s fk) ∧ W.rangeAt b (o + i * 24) (u8s fi) ∧ w.heap.size ≤ W.heap.size)) (by kernel_rfl) ⟨S0.1.drew, S0.2.1, S0.2.2.1, S0.2.2.2.1, S0.2.2.2.2⟩ (fun hHeld => ?_)
            have hFd : FarM wr.drew M (i * 12 + k) (gF fs n) (fun k' j => (k' < j ∧ j < i) ∨ (j = i ∧ k' < k)) := hF
            (refine hTake 0 32 (v := .map (some M)) rfl rfl (by kernel_rfl) (by kernel_rfl) (by kernel_rfl) (fun _ _ _ h => h) (Or.inl ⟨by rfl, fun W h => by (have h1 := h.2.1; clear h; go_simp)⟩) hHeld ?_; simp only [List.set_cons_zero, List.set_cons_succ])
            (refine hTake 1 33 (v := .int .i64 (k : Int)) rfl rfl (by kernel_rfl) (by kernel_rfl) (by kernel_rfl) (fun _ _ _ h => h) (Or.inl ⟨by rfl, fun W _ => rfl⟩) hHeld ?_; simp only [List.set_cons_zero, List.set_cons_succ])
            (refine hTake 2 34 (v := .int .i64 (i : Int)) rfl rfl (by kernel_rfl) (by kernel_rfl) (by kernel_rfl) (fun _ _ _ h => h) (Or.inl ⟨by rfl, fun W _ => rfl⟩) hHeld ?_; simp only [List.set_cons_zero, List.set_cons_succ])
            (refine hTake 3 35 (v := .agg #[.int .i64 (k : Int), .int .i64 (i : Int)]) rfl rfl (by kernel_rfl) (by kernel_rfl) (by kernel_rfl) (fun _ _ _ h => h) (Or.inl ⟨by rfl, fun W _ => by go_simp⟩) hHeld ?_; simp only [List.set_cons_zero, List.set_cons_succ])
            (refine hTake 4 36 (v := .slice (some ⟨b, o, none⟩) m c) rfl rfl (by kernel_rfl) (by kernel_rfl) (by kernel_rfl) (fun _ _ _ h => h) (Or.inl ⟨by rfl, fun W _ => rfl⟩) hHeld ?_; simp only [List.set_cons_zero, List.set_cons_succ])
            (refine hTake 5 37 (v := .int .i64 (k : Int)) rfl rfl (by kernel_rfl) (by kernel_rfl) (by kernel_rfl) (fun _ _ _ h => h) (Or.inl ⟨by rfl, fun W _ => rfl⟩) hHeld ?_; simp only [List.set_cons_zero, List.set_cons_succ])
            (refine hTake 6 38 (v := .pointer (some ⟨b, o + k * 24, none⟩)) rfl rfl (by kernel_rfl) (by kernel_rfl) (by kernel_rfl) (fun _ _ _ h => h) (Or.inl ⟨by rfl, fun W _ => by go_simp⟩) hHeld ?_; simp only [List.set_cons_zero, List.set_cons_succ])
            (refine hTake 7 39 rfl rfl (by kernel_rfl) (by kernel_rfl) (by kernel_rfl) (fun _ _ _ h => h) (yieldsIf_load_mid (by rfl) _ _ rfl _ _ rfl (u8s fk) _ (fun W h => h.2.2.1) Try.underlying38 rfl hi1) hHeld ?_; simp only [List.set_cons_zero, List.set_cons_succ])
            (refine hTake 8 40 (v := .slice (some ⟨b, o, none⟩) m c) rfl rfl (by kernel_rfl) (by kernel_rfl) (by kernel_rfl) (fun _ _ _ h => h) (Or.inl ⟨by rfl, fun W _ => rfl⟩) hHeld ?_; simp only [List.set_cons_zero, List.set_cons_succ])
            (refine hTake 9 41 (v := .int .i64 (i : Int)) rfl rfl (by kernel_rfl) (by kernel_rfl) (by kernel_rfl) (fun _ _ _ h => h) (Or.inl ⟨by rfl, fun W _ => rfl⟩) hHeld ?_; simp only [List.set_cons_zero, List.set_cons_succ])
            (refine hTake 10 42 (v := .pointer (some ⟨b, o + i * 24, none⟩)) rfl rfl (by kernel_rfl) (by kernel_rfl) (by kernel_rfl) (fun _ _ _ h => h) (Or.inl ⟨by rfl, fun W _ => by go_simp⟩) hHeld ?_; simp only [List.set_cons_zero, List.set_cons_succ])
            (refine hTake 11 43 rfl rfl (by kernel_rfl) (by kernel_rfl) (by kernel_rfl) (fun _ _ _ h => h) (yieldsIf_load_mid (by rfl) _ _ rfl _ _ rfl (u8s fi) _ (fun W h => h.2.2.2.1) Try.underlying38 rfl hi2) hHeld ?_; simp only [List.set_cons_zero, List.set_cons_succ])
            (refine hTake 13 45 (v := .int .i64 n) rfl rfl (by kernel_rfl) (by kernel_rfl) (by kernel_rfl) (fun _ _ _ h => h) (Or.inl ⟨by rfl, fun W _ => rfl⟩) hHeld ?_; simp only [List.set_cons_zero, List.set_cons_succ])
            refine hCall 12 44 48 rfl rfl (by kernel_rfl) (args := #[.agg (u8s fk).toArray, .agg (u8s fi).toArray]) (by rfl) (by go_simp) (.int .i64 dd) (ka _) (fun wq hq => ⟨KF.call hHeld hq, ?_⟩)
            simp only [List.set_cons_zero, List.set_cons_succ]
            have hFq := hFd.kept hq
            replace hHeld := KF.call hHeld hq
            unfold KF at hHeld
            clear hFd hF
            (refine hTake 14 46 (v := .bool (decide (n ≤ dd))) rfl rfl (by kernel_rfl) (by kernel_rfl) (by kernel_rfl) (fun _ _ _ h => h) (Or.inl ⟨by rfl, fun W _ => by go_simp⟩) hHeld ?_; simp only [List.set_cons_zero, List.set_cons_succ])
            obtain ⟨w2, hrun, hF2, hg2⟩ := kput'.out wq hFq
            have hMq := hFq.lt
            have hne : ∀ x, x ≠ M → some x ≠ some M := fun x h e => h (by injection e)
            have hbM : b ≠ M := by have h1 : b < w.heap.size := hbw.out; omega
            have hBM' : (⟨B, 0, none⟩ : Addr).block ≠ M := hBM.out
            have hHeld2 : Below w.heap.size w w2 ∧ w2.cell? ⟨B, 0, none⟩ = some (.map (some M)) ∧ w2.rangeAt b (o + k * 24) (u8s fk) ∧ w2.rangeAt b (o + i * 24) (u8s fi) ∧ w.heap.size ≤ w2.heap.size :=
              ⟨hHeld.1.grown hg2 hHeld.2.2.2.2 (fun j hj => by simp at hj; omega), hg2.cell hHeld.2.1 (hne _ hBM'), fun j v hv => hg2.cell (hHeld.2.2.1 j v hv) (hne _ hbM), fun j v hv => hg2.cell (hHeld.2.2.2.1 j v hv) (hne _ hbM), Nat.le_trans hHeld.2.2.2.2 hg2.size⟩
            refine hUpd 15 rfl rfl (by kernel_rfl) (by rfl) 70 _ _ _ rfl rfl rfl rfl hrun hHeld2 ?_
            refine wpAnyH_done (by kernel_rfl) ?_ _
            clear hHeld hrun hFq kput' ka hg2
            go_wp2_with (fail)
            go_roundw
            case rel => exact ⟨k + 1, by omega, by go_num, hF2.wider (by omega) (fun k' j h => by omega), hHeld2.2.1, hHeld2.1⟩
            case measure => simp [intOf]; omega
          · obtain rfl : k = i := by omega
            go_wp2_with (fail)
            go_roundw
            case rel => exact ⟨k + 1, by omega, by go_num, hF.wider (by omega) (fun k' j h => by omega), hB, hb⟩
            case measure => simp [intOf]; omega
      · obtain rfl : i = m := by omega
        have kacc := fun W A1 c1 s hc (hW : Below wr.heap.size wr W) hS => MostDistinct1_any (gF fs n) B M (i * 12) i (ownN i s) (rises_lt (own_rises i s)) A1 c1 W hc hS ((hW.cell (World.block_lt_of_cell? wr _ hB)).trans hB) (hF.kept hW)
        have key := longest_any (gF fs n) i h12 55 #[.pointer (some ⟨B, 0, none⟩)] (enters Try.func55 (by kernel_rfl) rfl) wr (fun W A1 c1 s hc hW hS => kacc W A1 c1 s hc hW hS)
        clear kacc hF hs3
        go_wp2_with (fail)
        refine key.mono ?_; rintro e w2 ⟨⟨v, rfl, hO⟩, hb2⟩
        go_wp2_with (fail)
        go_ret2
        have hE : bestN (gF fs n) i (2 ^ i) = loopS (gF fs n) fs.length 0 [] [] := by rw [← HB.out, HM.out]
        exact ⟨⟨_, rfl, by rw [HL.out, ← hE]; exact hO.lower hb.size⟩, bl_call hb hb2⟩
  · have HL := As.mk (show mostL fs n = [] by unfold mostL; rw [if_neg h0])
    generalize hcc : mostC fs n = cc at *
    have h0' : (cc != 0) = true := by simp [h0]
    generalize haa : askC fs n = aa at *
    obtain ⟨m, hm⟩ : ∃ m, fs.length = m := ⟨_, rfl⟩
    have HM := As.mk hm
    rw [hm] at k1 hbig HC ⊢
    clear hm h0 haa hcc
    by_cases h12 : m ≤ 12
    · have h12' : (m : Int) ≤ 12 := by omega
      go_enter Try.func17, Try.ntmps17
      go_wp2_with (fail)
      refine (k1).mono ?_; rintro e w1 ⟨rfl, hb1⟩
      have X2 := Blk.mk w1 (i64s [aa, 0]) 2 rfl
      have c1 := bl_new hb1 (.cells #[.int .i64 aa, .int .i64 0] 2)
      have key := firstOf2_any aa 0 w1.heap.size 0 2 (w1.alloc (.cells #[.int .i64 aa, .int .i64 0] 2)) X2.range
      have hf0 : first2 aa 0 = cc := by rw [HC.out, if_pos h12]
      rw [hf0] at key
      go_wp2_with (first | (go_at_call 52; refine (unless_any _ _ _).mono ?_; rintro e w' ⟨rfl, rfl⟩) | (go_at_call 51; refine (key).mono ?_; rintro e w' ⟨rfl, rfl⟩))
      go_ret2
      exact ⟨⟨_, rfl, by rw [HL.out]; exact Own.nil _ _ _⟩, c1⟩
    · have h12' : ¬ ((m : Int) ≤ 12) := by omega
      go_enter Try.func17, Try.ntmps17
      go_wp2_with (fail)
      refine (k1).mono ?_; rintro e w1 ⟨rfl, hb1⟩
      have X2 := Blk.mk w1 (i64s [aa, 7]) 2 rfl
      have c1 := bl_new hb1 (.cells #[.int .i64 aa, .int .i64 7] 2)
      have key := firstOf2_any aa 7 w1.heap.size 0 2 (w1.alloc (.cells #[.int .i64 aa, .int .i64 7] 2)) X2.range
      have hf0 : first2 aa 7 = cc := by rw [HC.out, if_neg h12]
      rw [hf0] at key
      go_wp2_with (first | (go_at_call 52; refine (unless_any _ _ _).mono ?_; rintro e w' ⟨rfl, rfl⟩) | (go_at_call 51; refine (key).mono ?_; rintro e w' ⟨rfl, rfl⟩))
      go_ret2
      exact ⟨⟨_, rfl, by rw [HL.out]; exact Own.nil _ _ _⟩, c1⟩
end Go.Proofs.Ytjppoejkfpeicaa

/- Many cells appended to a slice that the call itself made. -/
set_option linter.unusedVariables false
namespace Go.Proofs.Ytjppoejkfpeicaa
open Go.RowKit
section
variable {P : Program} {ops : Array Oper} {rest : List Oper} {op : Oper} {a : Act} {Q : Exit → Act → World → Prop}
/-- append(v, s...): s is not empty. -/
theorem appN {w0 W : World} (base : Nat) (hgd : op.guard = none) (s x : Operand) (t e : TypeId) (z : Value) (bytes : Nat)
    (ho : op.op = .call { callee := .builtin .append, args := #[s, x], argTypes := #[t, t] })
    (ht : P.underlying t = some (.slice e)) (hinfo : (P.info? e).map (fun i => (i.zero, i.size, i.bytes)) = some (some z, 1, bytes)) (hz : z.cells.size = 1) (hb0 : 0 < bytes)
    (v : Value) (cs : List Value) (ys : List Value) (b o c m : Nat) (hs : a.eval s = v) (hx : a.eval x = .slice (some ⟨b, o, none⟩) m c) (hm : ys.length = m) (h1 : ∀ u ∈ ys, u.oneCell' = true)
    (HO : Own W base e v cs) (hr : W.rangeAt b o ys) (HB : Below base w0 W) (hbase : base ≤ W.heap.size) (hl : (cs.length + m) * bytes ≤ 140737488355328)
    (h : ∀ v1 w1, Own w1 base e v1 (cs ++ ys) → Below base w0 w1 → W.grownBy w1 v.ownBlock → (v1.ownBlock = v.ownBlock ∨ ∃ b, v1.ownBlock = some b ∧ W.heap.size ≤ b) → wpList P ops Q rest (a.put op.dst v1) w1) :
    wpList P ops Q (op :: rest) a W := by
  obtain ⟨i0, hi, hzz⟩ := Option.map_eq_some_iff.1 hinfo
  simp only [Prod.mk.injEq] at hzz
  obtain ⟨hz0, hz1, hz2⟩ := hzz
  have hlen : cs.length + m ≤ 140737488355328 := Nat.le_trans (Nat.le_mul_of_pos_right _ hb0) hl
  refine wpList_append_own_at W hgd s x t ho base e i0 z 1 bytes ht hi hz0 hz1 hz2 hz (by omega) v cs.length cs hs HO ⟨b, o, none⟩ m c ys hx (by omega)
    (fun j u hu => by have := hr j u hu; rwa [show (⟨b, o, none⟩ : Addr).add j = ⟨b, o + j, none⟩ from Addr.add_mid _ _ _]) h1 (by simp only [maxLen]; omega) hl hbase ?_
  intro v1 w1 hown hg _ hat
  refine h v1 w1 (by unfold Own; rw [List.length_append, hm]; exact hown) (HB.grown hg hbase (fun k hk => Own.ge HO k hk)) hg ?_
  rcases hat with hat | hat
  · exact .inl hat
  · exact .inr ⟨_, hat, Nat.le_refl _⟩
end
theorem info_s : (Try.prog.info? 9).map (fun i => (i.zero, i.size, i.bytes)) = some (some (.string ⟨#[]⟩), 1, 16) := by kernel_rfl
end Go.Proofs.Ytjppoejkfpeicaa
