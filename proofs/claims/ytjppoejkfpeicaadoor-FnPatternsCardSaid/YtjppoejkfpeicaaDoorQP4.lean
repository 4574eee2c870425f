/- Contracts and plain facts, several texts in one. -/
import Derived.Test.YtjppoejkfpeicaaDoorQP3
import Derived.Test.YtjppoejkfpeicaaDoorQP2
import Derived.Test.YtjppoejkfpeicaaDoorQP1
/- Contracts: spec.StripesOf. -/
set_option linter.unusedVariables false
set_option linter.unusedSimpArgs false
namespace Go.Proofs.YtjppoejkfpeicaaDoor
open Go.RowKit

/-- The first k numbers are colours. -/
def aK (xs : List Int) (k : Nat) : Bool := aC (xs.take k)
theorem aK_full (xs : List Int) : aK xs xs.length = aC xs := by unfold aK; rw [List.take_length]
theorem aK_step (xs : List Int) (k : Nat) (h : k < xs.length) : aK xs (k + 1) = (aK xs k && inR (nth xs k) 0 5) := by
  unfold aK aC
  rw [List.take_add_one, List.all_append, nth_get? xs k h]; simp
theorem aK_false (xs : List Int) (k : Nat) (h : aK xs k = false) : aC xs = false := by
  unfold aK aC at *
  rw [List.all_eq_false] at *
  obtain ⟨x, hx, h⟩ := h
  exact ⟨x, List.mem_of_mem_take hx, h⟩

set_option maxHeartbeats 2000000 in
theorem sStripesOf_any (xs : List Int) (up : Bool) (A : Option Addr) (c : Nat) (w : World) (hs : Sl .i64 w A xs) (hbig : xs.length ≤ 1048576) :
    Calls Tryd.prog 57 #[.slice A xs.length c, .bool up] w fun e w' => e = .returned (.tuple #[fl (okF (stripesOk xs up) (stripeL xs up)), .int .i64 (codeR (stripesOk xs up))]) ∧ Below w.heap.size w w' := by
  have hl : (okF (stripesOk xs up) (stripeL xs up)).length = 24 := okF_length (stripeL_length _ _)
  have hsb := fun i => stripe_bd xs up (k := i)
  have B0 : Blk ((w.alloc (.cells #[.int .u8 0, .int .u8 0, .int .u8 0, .int .u8 0, .int .u8 0, .int .u8 0, .int .u8 0, .int .u8 0, .int .u8 0, .int .u8 0, .int .u8 0, .int .u8 0, .int .u8 0, .int .u8 0, .int .u8 0, .int .u8 0, .int .u8 0, .int .u8 0, .int .u8 0, .int .u8 0, .int .u8 0, .int .u8 0, .int .u8 0, .int .u8 0] 23)).alloc (.cells #[.int .u8 0, .int .u8 0, .int .u8 0, .int .u8 0, .int .u8 0, .int .u8 0, .int .u8 0, .int .u8 0, .int .u8 0, .int .u8 0, .int .u8 0, .int .u8 0, .int .u8 0, .int .u8 0, .int .u8 0, .int .u8 0, .int .u8 0, .int .u8 0, .int .u8 0, .int .u8 0, .int .u8 0, .int .u8 0, .int .u8 0, .int .u8 0] 23)) w.heap.size (u8s zero24) 23 := (Blk.mk _ (u8s zero24) _ rfl).alloc _
  have B1 : Blk ((w.alloc (.cells #[.int .u8 0, .int .u8 0, .int .u8 0, .int .u8 0, .int .u8 0, .int .u8 0, .int .u8 0, .int .u8 0, .int .u8 0, .int .u8 0, .int .u8 0, .int .u8 0, .int .u8 0, .int .u8 0, .int .u8 0, .int .u8 0, .int .u8 0, .int .u8 0, .int .u8 0, .int .u8 0, .int .u8 0, .int .u8 0, .int .u8 0, .int .u8 0] 23)).alloc (.cells #[.int .u8 0, .int .u8 0, .int .u8 0, .int .u8 0, .int .u8 0, .int .u8 0, .int .u8 0, .int .u8 0, .int .u8 0, .int .u8 0, .int .u8 0, .int .u8 0, .int .u8 0, .int .u8 0, .int .u8 0, .int .u8 0, .int .u8 0, .int .u8 0, .int .u8 0, .int .u8 0, .int .u8 0, .int .u8 0, .int .u8 0, .int .u8 0] 23)) (w.heap.size + 1) (u8s zero24) 23 := Blk.mk _ (u8s zero24) _ (by simp)
  have b0 : Below w.heap.size w ((w.alloc (.cells #[.int .u8 0, .int .u8 0, .int .u8 0, .int .u8 0, .int .u8 0, .int .u8 0, .int .u8 0, .int .u8 0, .int .u8 0, .int .u8 0, .int .u8 0, .int .u8 0, .int .u8 0, .int .u8 0, .int .u8 0, .int .u8 0, .int .u8 0, .int .u8 0, .int .u8 0, .int .u8 0, .int .u8 0, .int .u8 0, .int .u8 0, .int .u8 0] 23)).alloc (.cells #[.int .u8 0, .int .u8 0, .int .u8 0, .int .u8 0, .int .u8 0, .int .u8 0, .int .u8 0, .int .u8 0, .int .u8 0, .int .u8 0, .int .u8 0, .int .u8 0, .int .u8 0, .int .u8 0, .int .u8 0, .int .u8 0, .int .u8 0, .int .u8 0, .int .u8 0, .int .u8 0, .int .u8 0, .int .u8 0, .int .u8 0, .int .u8 0] 23)) := bl_new (bl_new (Below.refl _ _) _) _
  have C0 := B0.farRow (g := w.heap.size + 1) (by omega) (u8s zero24).toArray
  have C1 := B1.setRow (u8s zero24)
  have c0 := bl_setRow b0 (g := w.heap.size + 1) (by omega) (u8s zero24).toArray
  cases up
  · cases hin : inR xs.length 1 4
    · have hk : stripesOk xs false = false := by unfold stripesOk; simp only [Bool.false_eq_true, if_false, if_true]; rw [hin]; rfl
      rw [hk]
      clear hl hk hsb
      generalize hn : xs.length = n at *
      go_enter Tryd.func57, Tryd.ntmps57
      go_wp2_with (first | (refine store_blk rfl 23 _ _ rfl _ rfl (ds := u8s zero24) rfl B1 info_fl (by rfl) (by rfl) (u8s_one _) ?_) | (go_at_call 78; refine (l00In_any _ _ _ _).mono ?_; rintro e w' ⟨rfl, rfl⟩))
      go_loopw [9, 10] (fun ok i wr => ok = .bool false ∧ i = .int .i64 0 ∧ wr = (((w.alloc (.cells #[.int .u8 0, .int .u8 0, .int .u8 0, .int .u8 0, .int .u8 0, .int .u8 0, .int .u8 0, .int .u8 0, .int .u8 0, .int .u8 0, .int .u8 0, .int .u8 0, .int .u8 0, .int .u8 0, .int .u8 0, .int .u8 0, .int .u8 0, .int .u8 0, .int .u8 0, .int .u8 0, .int .u8 0, .int .u8 0, .int .u8 0, .int .u8 0] 23)).alloc (.cells #[.int .u8 0, .int .u8 0, .int .u8 0, .int .u8 0, .int .u8 0, .int .u8 0, .int .u8 0, .int .u8 0, .int .u8 0, .int .u8 0, .int .u8 0, .int .u8 0, .int .u8 0, .int .u8 0, .int .u8 0, .int .u8 0, .int .u8 0, .int .u8 0, .int .u8 0, .int .u8 0, .int .u8 0, .int .u8 0, .int .u8 0, .int .u8 0] 23)).setRow (w.heap.size + 1) (u8s zero24).toArray)) (fun _ i _ => 0)
      case atStart => exact ⟨rfl, rfl, rfl⟩
      case round =>
        obtain ⟨rfl, rfl, rfl⟩ := hrel
        go_wp2_with (first | (refine load_blk rfl 23 _ rfl _ rfl C1 Tryd.underlying23 rfl info_fl (by rw [u8s_length]; exact rfl) ?_) | (refine store_blk rfl 23 _ _ rfl _ rfl (ds := u8s zero24) rfl C0 info_fl (by rfl) (by rfl) (u8s_one _) ?_))
        all_goals refine ret_blk_tmp rfl _ rfl (C0.setRow _) Tryd.underlying23 rfl info_fl (by rfl) rfl ⟨rfl, bl_setRow c0 (by omega) _⟩
    · have hb1 := (inR_iff _ _ _).1 hin
      have hk : stripesOk xs false = aC xs := by unfold stripesOk; simp only [Bool.false_eq_true, if_false, if_true]; rw [hin]; rfl
      rw [hk] at hl hsb ⊢
      have hA := aK_full xs
      obtain ⟨b, o, rfl, hr⟩ := hs.2 (by omega)
      have hr' := range_kept hr c0
      have HN := As.mk (rfl : xs.length = xs.length)
      generalize hn : xs.length = n at *
      have HN' := As.mk hn
      have n1 : (1 : Int) ≤ (n : Int) := hb1.1
      have n2 : (n : Int) ≤ 4 := hb1.2
      have hlt0 : n ≤ 4 := by omega
      clear hn
      go_enter Tryd.func57, Tryd.ntmps57
      go_wp2_with (first | (refine store_blk rfl 23 _ _ rfl _ rfl (ds := u8s zero24) rfl B1 info_fl (by rfl) (by rfl) (u8s_one _) ?_) | (go_at_call 78; refine (l00In_any _ _ _ _).mono ?_; rintro e w' ⟨rfl, rfl⟩))
      generalize (((w.alloc (.cells #[.int .u8 0, .int .u8 0, .int .u8 0, .int .u8 0, .int .u8 0, .int .u8 0, .int .u8 0, .int .u8 0, .int .u8 0, .int .u8 0, .int .u8 0, .int .u8 0, .int .u8 0, .int .u8 0, .int .u8 0, .int .u8 0, .int .u8 0, .int .u8 0, .int .u8 0, .int .u8 0, .int .u8 0, .int .u8 0, .int .u8 0, .int .u8 0] 23)).alloc (.cells #[.int .u8 0, .int .u8 0, .int .u8 0, .int .u8 0, .int .u8 0, .int .u8 0, .int .u8 0, .int .u8 0, .int .u8 0, .int .u8 0, .int .u8 0, .int .u8 0, .int .u8 0, .int .u8 0, .int .u8 0, .int .u8 0, .int .u8 0, .int .u8 0, .int .u8 0, .int .u8 0, .int .u8 0, .int .u8 0, .int .u8 0, .int .u8 0] 23)).setRow (w.heap.size + 1) (u8s zero24).toArray) = W at *
      clear B0 B1 b0
      go_loopw [9, 10] (fun ok i wr => ∃ k : Nat, k ≤ n ∧ i = .int .i64 k ∧ ok = .bool (aK xs k) ∧ wr = W) (fun _ i _ => n - (intOf i).toNat)
      case atStart => exact ⟨0, by omega, rfl, rfl, rfl⟩
      case round =>
        obtain ⟨k, hk, rfl, rfl, rfl⟩ := hrel
        by_cases hlt : k < n
        · have hlt' : (k : Int) < (n : Int) := by omega
          have ck : wr.cell? ⟨b, o + k, none⟩ = some (.int .i64 (nth xs k)) := hr' k _ (i64s_get xs k (by rw [HN'.out]; omega))
          have hst := As.mk (aK_step xs k (by rw [HN'.out]; omega))
          cases ha : aK xs k
          · have hf : aC xs = false := aK_false xs k ha
            go_wp2_with (first | (refine load_blk rfl 23 _ rfl _ rfl C1 Tryd.underlying23 rfl info_fl (by rw [u8s_length]; exact rfl) ?_) | (refine store_blk rfl 23 _ _ rfl _ rfl (ds := u8s zero24) rfl C0 info_fl (by rfl) (by rfl) (u8s_one _) ?_))
            refine ret_blk_tmp rfl _ rfl (C0.setRow _) Tryd.underlying23 rfl info_fl (by rfl) rfl ⟨by rw [hf]; rfl, bl_setRow c0 (by omega) _⟩
          · go_wp2_with (go_at_call 77; refine (l01Colour_any _ _).mono ?_; rintro e w' ⟨rfl, rfl⟩)
            go_roundw
            case rel => exact ⟨k + 1, by omega, by go_num, by rw [hst.out, ha, Bool.true_and], by trivial⟩
            case measure => simp [intOf]; omega
        · obtain rfl : k = n := by omega
          rw [hA]
          cases ha : aC xs
          · go_wp2_with (first | (refine load_blk rfl 23 _ rfl _ rfl C1 Tryd.underlying23 rfl info_fl (by rw [u8s_length]; exact rfl) ?_) | (refine store_blk rfl 23 _ _ rfl _ rfl (ds := u8s zero24) rfl C0 info_fl (by rfl) (by rfl) (u8s_one _) ?_))
            refine ret_blk_tmp rfl _ rfl (C0.setRow _) Tryd.underlying23 rfl info_fl (by rfl) rfl ⟨by rw [ha]; rfl, bl_setRow c0 (by omega) _⟩
          · have HZ := As.mk (part_zero (stripeF xs false) 24)
            clear hk
            go_wp2
            go_loopw [11] (fun i wr => ∃ k : Nat, k ≤ 24 ∧ i = .int .i64 k ∧ Blk wr w.heap.size (u8s zero24) 23 ∧ Blk wr (w.heap.size + 1) (u8s (part (stripeF xs false) 24 k)) 23 ∧ Below w.heap.size w wr) (fun i _ => 24 - (intOf i).toNat)
            case atStart => exact ⟨0, by omega, rfl, C0, by rw [HZ.out]; exact C1, c0⟩
            case round =>
              obtain ⟨j, hj, rfl, g1, g2, hb⟩ := hrel
              clear C0 C1 c0 HZ
              by_cases hlt : j < 24
              · have hlt' : (j : Int) < 24 := by omega
                have hv := hsb j ha hlt
                have n3 := hv.1; have n4 := hv.2
                obtain ⟨v2, c2⟩ := g2.some j (by rw [u8s_length, part_length]; exact hlt)
                have f2 := g2.frozen j
                have e0 : stripeF xs false j = nth xs ((j / 6) * k / 4) := by unfold stripeF; rw [HN'.out]; rfl
                have e1 : (j : Int) / 6 = (((j / 6) : Nat) : Int) := by omega
                have hx4 : (j / 6) < 4 := by omega
                have hps := As.mk (part_set (stripeF xs false) 24 j)
                rw [e0] at hps n3 n4
                have hm1 : (((j / 6) : Nat) : Int) * (k : Int) = (((j / 6) * k : Nat) : Int) := by rw [Int.natCast_mul]
                have hm2 : (j / 6) * k ≤ 3 * 4 := Nat.mul_le_mul (by omega) hlt0
                have hi := stripe_at ((j / 6)) k 4 hx4 (by omega) (by omega)
                have ci := hr ((j / 6) * k / 4) _ (i64s_get xs _ (by rw [HN'.out]; exact hi))
                have ci' := (hb.cell (World.block_lt_of_cell? w _ ci)).trans ci
                clear ci hv e0
                generalize (j / 6) = q at *
                generalize q * k = y at *
                have hy : (y : Int) / 4 = ((y / 4 : Nat) : Int) := by omega
                have hy2 : (y : Int) ≤ 12 := by omega
                generalize y / 4 = z at *
                have hz : (z : Int) < (k : Int) := by omega
                go_wp2
                go_roundw
                case rel => exact ⟨j + 1, by omega, by go_num, g1.far (by simp) _, by have := g2.set j (.int .u8 (nth xs z)); rw [u8s_set, hps.out] at this; exact this, hb.setCell (by simp) _⟩
                case measure => simp [intOf]; omega
              · obtain rfl : j = 24 := by omega
                rw [part_full] at g2
                change Blk wr (w.heap.size + 1) (u8s (stripeL xs false)) _ at g2
                have hl' := stripeL_length xs false
                go_wp2_with (first | (refine load_blk rfl 23 _ rfl _ rfl g2 Tryd.underlying23 rfl info_fl (by rw [u8s_length]; exact hl') ?_) | (refine store_blk rfl 23 _ _ rfl _ rfl rfl g1 info_fl (by rw [u8s_length]; exact hl') (by rw [u8s_length]; exact zero24_length) (u8s_one _) ?_))
                refine ret_blk_tmp rfl _ rfl (g1.setRow _) Tryd.underlying23 rfl info_fl (by rw [u8s_length]; exact hl') rfl ⟨by rw [ha]; rfl, bl_setRow hb (by omega) _⟩
  · cases hin : inR xs.length 1 6
    · have hk : stripesOk xs true = false := by unfold stripesOk; simp only [Bool.false_eq_true, if_false, if_true]; rw [hin]; rfl
      rw [hk]
      clear hl hk hsb
      generalize hn : xs.length = n at *
      go_enter Tryd.func57, Tryd.ntmps57
      go_wp2_with (first | (refine store_blk rfl 23 _ _ rfl _ rfl (ds := u8s zero24) rfl B1 info_fl (by rfl) (by rfl) (u8s_one _) ?_) | (go_at_call 78; refine (l00In_any _ _ _ _).mono ?_; rintro e w' ⟨rfl, rfl⟩))
      go_loopw [9, 10] (fun ok i wr => ok = .bool false ∧ i = .int .i64 0 ∧ wr = (((w.alloc (.cells #[.int .u8 0, .int .u8 0, .int .u8 0, .int .u8 0, .int .u8 0, .int .u8 0, .int .u8 0, .int .u8 0, .int .u8 0, .int .u8 0, .int .u8 0, .int .u8 0, .int .u8 0, .int .u8 0, .int .u8 0, .int .u8 0, .int .u8 0, .int .u8 0, .int .u8 0, .int .u8 0, .int .u8 0, .int .u8 0, .int .u8 0, .int .u8 0] 23)).alloc (.cells #[.int .u8 0, .int .u8 0, .int .u8 0, .int .u8 0, .int .u8 0, .int .u8 0, .int .u8 0, .int .u8 0, .int .u8 0, .int .u8 0, .int .u8 0, .int .u8 0, .int .u8 0, .int .u8 0, .int .u8 0, .int .u8 0, .int .u8 0, .int .u8 0, .int .u8 0, .int .u8 0, .int .u8 0, .int .u8 0, .int .u8 0, .int .u8 0] 23)).setRow (w.heap.size + 1) (u8s zero24).toArray)) (fun _ i _ => 0)
      case atStart => exact ⟨rfl, rfl, rfl⟩
      case round =>
        obtain ⟨rfl, rfl, rfl⟩ := hrel
        go_wp2_with (first | (refine load_blk rfl 23 _ rfl _ rfl C1 Tryd.underlying23 rfl info_fl (by rw [u8s_length]; exact rfl) ?_) | (refine store_blk rfl 23 _ _ rfl _ rfl (ds := u8s zero24) rfl C0 info_fl (by rfl) (by rfl) (u8s_one _) ?_))
        all_goals refine ret_blk_tmp rfl _ rfl (C0.setRow _) Tryd.underlying23 rfl info_fl (by rfl) rfl ⟨rfl, bl_setRow c0 (by omega) _⟩
    · have hb1 := (inR_iff _ _ _).1 hin
      have hk : stripesOk xs true = aC xs := by unfold stripesOk; simp only [Bool.false_eq_true, if_false, if_true]; rw [hin]; rfl
      rw [hk] at hl hsb ⊢
      have hA := aK_full xs
      obtain ⟨b, o, rfl, hr⟩ := hs.2 (by omega)
      have hr' := range_kept hr c0
      have HN := As.mk (rfl : xs.length = xs.length)
      generalize hn : xs.length = n at *
      have HN' := As.mk hn
      have n1 : (1 : Int) ≤ (n : Int) := hb1.1
      have n2 : (n : Int) ≤ 6 := hb1.2
      have hlt0 : n ≤ 6 := by omega
      clear hn
      go_enter Tryd.func57, Tryd.ntmps57
      go_wp2_with (first | (refine store_blk rfl 23 _ _ rfl _ rfl (ds := u8s zero24) rfl B1 info_fl (by rfl) (by rfl) (u8s_one _) ?_) | (go_at_call 78; refine (l00In_any _ _ _ _).mono ?_; rintro e w' ⟨rfl, rfl⟩))
      generalize (((w.alloc (.cells #[.int .u8 0, .int .u8 0, .int .u8 0, .int .u8 0, .int .u8 0, .int .u8 0, .int .u8 0, .int .u8 0, .int .u8 0, .int .u8 0, .int .u8 0, .int .u8 0, .int .u8 0, .int .u8 0, .int .u8 0, .int .u8 0, .int .u8 0, .int .u8 0, .int .u8 0, .int .u8 0, .int .u8 0, .int .u8 0, .int .u8 0, .int .u8 0] 23)).alloc (.cells #[.int .u8 0, .int .u8 0, .int .u8 0, .int .u8 0, .int .u8 0, .int .u8 0, .int .u8 0, .int .u8 0, .int .u8 0, .int .u8 0, .int .u8 0, .int .u8 0, .int .u8 0, .int .u8 0, .int .u8 0, .int .u8 0, .int .u8 0, .int .u8 0, .int .u8 0, .int .u8 0, .int .u8 0, .int .u8 0, .int .u8 0, .int .u8 0] 23)).setRow (w.heap.size + 1) (u8s zero24).toArray) = W at *
      clear B0 B1 b0
      go_loopw [9, 10] (fun ok i wr => ∃ k : Nat, k ≤ n ∧ i = .int .i64 k ∧ ok = .bool (aK xs k) ∧ wr = W) (fun _ i _ => n - (intOf i).toNat)
      case atStart => exact ⟨0, by omega, rfl, rfl, rfl⟩
      case round =>
        obtain ⟨k, hk, rfl, rfl, rfl⟩ := hrel
        by_cases hlt : k < n
        · have hlt' : (k : Int) < (n : Int) := by omega
          have ck : wr.cell? ⟨b, o + k, none⟩ = some (.int .i64 (nth xs k)) := hr' k _ (i64s_get xs k (by rw [HN'.out]; omega))
          have hst := As.mk (aK_step xs k (by rw [HN'.out]; omega))
          cases ha : aK xs k
          · have hf : aC xs = false := aK_false xs k ha
            go_wp2_with (first | (refine load_blk rfl 23 _ rfl _ rfl C1 Tryd.underlying23 rfl info_fl (by rw [u8s_length]; exact rfl) ?_) | (refine store_blk rfl 23 _ _ rfl _ rfl (ds := u8s zero24) rfl C0 info_fl (by rfl) (by rfl) (u8s_one _) ?_))
            refine ret_blk_tmp rfl _ rfl (C0.setRow _) Tryd.underlying23 rfl info_fl (by rfl) rfl ⟨by rw [hf]; rfl, bl_setRow c0 (by omega) _⟩
          · go_wp2_with (go_at_call 77; refine (l01Colour_any _ _).mono ?_; rintro e w' ⟨rfl, rfl⟩)
            go_roundw
            case rel => exact ⟨k + 1, by omega, by go_num, by rw [hst.out, ha, Bool.true_and], by trivial⟩
            case measure => simp [intOf]; omega
        · obtain rfl : k = n := by omega
          rw [hA]
          cases ha : aC xs
          · go_wp2_with (first | (refine load_blk rfl 23 _ rfl _ rfl C1 Tryd.underlying23 rfl info_fl (by rw [u8s_length]; exact rfl) ?_) | (refine store_blk rfl 23 _ _ rfl _ rfl (ds := u8s zero24) rfl C0 info_fl (by rfl) (by rfl) (u8s_one _) ?_))
            refine ret_blk_tmp rfl _ rfl (C0.setRow _) Tryd.underlying23 rfl info_fl (by rfl) rfl ⟨by rw [ha]; rfl, bl_setRow c0 (by omega) _⟩
          · have HZ := As.mk (part_zero (stripeF xs true) 24)
            clear hk
            go_wp2
            go_loopw [11] (fun i wr => ∃ k : Nat, k ≤ 24 ∧ i = .int .i64 k ∧ Blk wr w.heap.size (u8s zero24) 23 ∧ Blk wr (w.heap.size + 1) (u8s (part (stripeF xs true) 24 k)) 23 ∧ Below w.heap.size w wr) (fun i _ => 24 - (intOf i).toNat)
            case atStart => exact ⟨0, by omega, rfl, C0, by rw [HZ.out]; exact C1, c0⟩
            case round =>
              obtain ⟨j, hj, rfl, g1, g2, hb⟩ := hrel
              clear C0 C1 c0 HZ
              by_cases hlt : j < 24
              · have hlt' : (j : Int) < 24 := by omega
                have hv := hsb j ha hlt
                have n3 := hv.1; have n4 := hv.2
                obtain ⟨v2, c2⟩ := g2.some j (by rw [u8s_length, part_length]; exact hlt)
                have f2 := g2.frozen j
                have e0 : stripeF xs true j = nth xs ((j % 6) * k / 6) := by unfold stripeF; rw [HN'.out]; rfl
                have e1 : (j : Int) % 6 = (((j % 6) : Nat) : Int) := by omega
                have hx4 : (j % 6) < 6 := by omega
                have hps := As.mk (part_set (stripeF xs true) 24 j)
                rw [e0] at hps n3 n4
                have hm1 : (((j % 6) : Nat) : Int) * (k : Int) = (((j % 6) * k : Nat) : Int) := by rw [Int.natCast_mul]
                have hm2 : (j % 6) * k ≤ 5 * 6 := Nat.mul_le_mul (by omega) hlt0
                have hi := stripe_at ((j % 6)) k 6 hx4 (by omega) (by omega)
                have ci := hr ((j % 6) * k / 6) _ (i64s_get xs _ (by rw [HN'.out]; exact hi))
                have ci' := (hb.cell (World.block_lt_of_cell? w _ ci)).trans ci
                clear ci hv e0
                generalize (j % 6) = q at *
                generalize q * k = y at *
                have hy : (y : Int) / 6 = ((y / 6 : Nat) : Int) := by omega
                have hy2 : (y : Int) ≤ 30 := by omega
                generalize y / 6 = z at *
                have hz : (z : Int) < (k : Int) := by omega
                go_wp2
                go_roundw
                case rel => exact ⟨j + 1, by omega, by go_num, g1.far (by simp) _, by have := g2.set j (.int .u8 (nth xs z)); rw [u8s_set, hps.out] at this; exact this, hb.setCell (by simp) _⟩
                case measure => simp [intOf]; omega
              · obtain rfl : j = 24 := by omega
                rw [part_full] at g2
                change Blk wr (w.heap.size + 1) (u8s (stripeL xs true)) _ at g2
                have hl' := stripeL_length xs true
                go_wp2_with (first | (refine load_blk rfl 23 _ rfl _ rfl g2 Tryd.underlying23 rfl info_fl (by rw [u8s_length]; exact hl') ?_) | (refine store_blk rfl 23 _ _ rfl _ rfl rfl g1 info_fl (by rw [u8s_length]; exact hl') (by rw [u8s_length]; exact zero24_length) (u8s_one _) ?_))
                refine ret_blk_tmp rfl _ rfl (g1.setRow _) Tryd.underlying23 rfl info_fl (by rw [u8s_length]; exact hl') rfl ⟨by rw [ha]; rfl, bl_setRow hb (by omega) _⟩
end Go.Proofs.YtjppoejkfpeicaaDoor

/- Contracts: flags that are drawn: l01Made of any kind, one, l01Drawn. -/
set_option linter.unusedVariables false
set_option linter.unusedSimpArgs false
namespace Go.Proofs.YtjppoejkfpeicaaDoor
open Go.RowKit

/-- A valid flag. -/
def Fine (f : List Int) : Prop := f.length = 24 ∧ ∀ x ∈ f, 0 ≤ x ∧ x ≤ 5
theorem Fine.nth {f : List Int} (h : Fine f) (i : Nat) : 0 ≤ nth f i ∧ nth f i ≤ 5 := by
  by_cases hi : i < f.length
  · exact h.2 _ (nth_mem f i hi)
  · rw [nth_out f i (by omega)]; omega
theorem Fine.vf {f : List Int} (h : Fine f) : vf f = true := by
  unfold Go.Proofs.YtjppoejkfpeicaaDoor.vf; rw [List.all_eq_true]
  intro x hx
  have := h.2 x hx
  simpa using this.2
theorem Fine.bytes {f : List Int} (h : Fine f) : Bytes f := fun x hx => by have := h.2 x hx; omega
theorem Fine.of_map (g : Nat → Int) (hg : ∀ i, i < 24 → 0 ≤ g i ∧ g i ≤ 5) : Fine ((List.range 24).map g) := ⟨by simp, fun x hx => by
  obtain ⟨i, hi, rfl⟩ := List.mem_map.1 hx
  exact hg i (List.mem_range.1 hi)⟩
theorem Fine.set {f : List Int} (h : Fine f) (i : Nat) (x : Int) (h0 : 0 ≤ x) (h5 : x ≤ 5) : Fine (f.set i x) := ⟨by rw [List.length_set]; exact h.1, fun y hy => by
  rcases List.mem_or_eq_of_mem_set hy with hy | hy
  · exact h.2 y hy
  · subst hy; exact ⟨h0, h5⟩⟩
theorem Blk.byGrown2 {w w' : World} {b : Nat} {cs : List Value} {t : TypeId} {row : Option Nat} (h : Blk w b cs t) (hg : w.grownBy w' row) (hne : row ≠ Option.some b) : Blk w' b cs t :=
  (hg.block b h.lt (fun e => hne e.symm)).trans h
theorem Src.mono {w : World} {P : Nat} {A : Option Addr} {xs : List Int} {c k k' : Nat} (h : Src w P A xs c k) (hk : k ≤ k') : Src w P A xs c k' := by
  obtain ⟨at', seed, h1, h2⟩ := h
  exact ⟨at', seed, h1, by omega⟩
theorem Src.lt {w : World} {P : Nat} {A : Option Addr} {xs : List Int} {c k : Nat} (h : Src w P A xs c k) : P < w.heap.size := by
  obtain ⟨at', seed, h1, h2⟩ := h
  exact h1.blk.lt
theorem Src.kept {w w' : World} {P : Nat} {A : Option Addr} {xs : List Int} {c k : Nat} (h : Src w P A xs c k) (hb : Below w.heap.size w w') : Src w' P A xs c k := by
  obtain ⟨at', seed, h1, h2⟩ := h
  exact ⟨at', seed, ⟨h1.blk.kept hb, h1.sl.kept hb, h1.len, h1.bytes, h1.at0, h1.seed0, h1.low⟩, h2⟩

set_option maxHeartbeats 1000000 in
theorem one_src (P : Nat) (A : Option Addr) (xs : List Int) (c k : Nat) (hk : k < 999999999) (n : Int) (hn : 2 ≤ n ∧ n ≤ 200) (w : World) (hS : Src w P A xs c k) :
    Calls Tryd.prog 58 #[.pointer (some ⟨P, 0, none⟩), .int .i64 n] w fun e w' => (∃ x : Bool, e = .returned (.bool x)) ∧ Src w' P A xs c (k + 1) ∧ w.grownBy w' (some P) := by
  have key := pick_src P A xs c k hk n hn w hS
  go_enter Tryd.func58, Tryd.ntmps58
  go_wp2_with (fail)
  refine key.mono ?_; rintro e w1 ⟨⟨x, rfl, x0, x1⟩, hS1, hg⟩
  go_wp2_with (fail)
  go_ret
  exact ⟨⟨_, rfl⟩, hS1, hg⟩

set_option maxHeartbeats 1000000 in
theorem l01Made3_any (a b : Int) (ha : 0 ≤ a ∧ a ≤ 5) (hb5 : 0 ≤ b ∧ b ≤ 5) (w : World) :
    Calls Tryd.prog 55 #[.int .i64 a, .int .i64 b, .int .i64 3] w fun e w' => e = .returned (.tuple #[fl (madeL 3 a b), .int .i64 0]) ∧ Below w.heap.size w w' := by
  have B0 : Blk ((w.alloc (.cells #[.int .u8 0, .int .u8 0, .int .u8 0, .int .u8 0, .int .u8 0, .int .u8 0, .int .u8 0, .int .u8 0, .int .u8 0, .int .u8 0, .int .u8 0, .int .u8 0, .int .u8 0, .int .u8 0, .int .u8 0, .int .u8 0, .int .u8 0, .int .u8 0, .int .u8 0, .int .u8 0, .int .u8 0, .int .u8 0, .int .u8 0, .int .u8 0] 23)).alloc (.cells #[.int .u8 0, .int .u8 0, .int .u8 0, .int .u8 0, .int .u8 0, .int .u8 0, .int .u8 0, .int .u8 0, .int .u8 0, .int .u8 0, .int .u8 0, .int .u8 0, .int .u8 0, .int .u8 0, .int .u8 0, .int .u8 0, .int .u8 0, .int .u8 0, .int .u8 0, .int .u8 0, .int .u8 0, .int .u8 0, .int .u8 0, .int .u8 0] 23)) w.heap.size (u8s zero24) 23 := (Blk.mk _ (u8s zero24) _ rfl).alloc _
  have B1 : Blk ((w.alloc (.cells #[.int .u8 0, .int .u8 0, .int .u8 0, .int .u8 0, .int .u8 0, .int .u8 0, .int .u8 0, .int .u8 0, .int .u8 0, .int .u8 0, .int .u8 0, .int .u8 0, .int .u8 0, .int .u8 0, .int .u8 0, .int .u8 0, .int .u8 0, .int .u8 0, .int .u8 0, .int .u8 0, .int .u8 0, .int .u8 0, .int .u8 0, .int .u8 0] 23)).alloc (.cells #[.int .u8 0, .int .u8 0, .int .u8 0, .int .u8 0, .int .u8 0, .int .u8 0, .int .u8 0, .int .u8 0, .int .u8 0, .int .u8 0, .int .u8 0, .int .u8 0, .int .u8 0, .int .u8 0, .int .u8 0, .int .u8 0, .int .u8 0, .int .u8 0, .int .u8 0, .int .u8 0, .int .u8 0, .int .u8 0, .int .u8 0, .int .u8 0] 23)) (w.heap.size + 1) (u8s zero24) 23 := Blk.mk _ (u8s zero24) _ (by simp)
  have b0 : Below w.heap.size w ((w.alloc (.cells #[.int .u8 0, .int .u8 0, .int .u8 0, .int .u8 0, .int .u8 0, .int .u8 0, .int .u8 0, .int .u8 0, .int .u8 0, .int .u8 0, .int .u8 0, .int .u8 0, .int .u8 0, .int .u8 0, .int .u8 0, .int .u8 0, .int .u8 0, .int .u8 0, .int .u8 0, .int .u8 0, .int .u8 0, .int .u8 0, .int .u8 0, .int .u8 0] 23)).alloc (.cells #[.int .u8 0, .int .u8 0, .int .u8 0, .int .u8 0, .int .u8 0, .int .u8 0, .int .u8 0, .int .u8 0, .int .u8 0, .int .u8 0, .int .u8 0, .int .u8 0, .int .u8 0, .int .u8 0, .int .u8 0, .int .u8 0, .int .u8 0, .int .u8 0, .int .u8 0, .int .u8 0, .int .u8 0, .int .u8 0, .int .u8 0, .int .u8 0] 23)) := bl_new (bl_new (Below.refl _ _) _) _
  have C0 := B0.farRow (g := w.heap.size + 1) (by omega) (u8s zero24).toArray
  have C1 := B1.setRow (u8s zero24)
  have c0 := bl_setRow b0 (g := w.heap.size + 1) (by omega) (u8s zero24).toArray
  have h2 : inR a 0 5 = true := (inR_iff _ _ _).2 ha
  have h3 : inR b 0 5 = true := (inR_iff _ _ _).2 hb5
  have n1 := ha.1; have n2 := ha.2
  have n3 := hb5.1; have n4 := hb5.2
  have hz : part (madeF 3 a b) 24 0 = zero24 := part_zero _ _
  have HZ := As.mk hz
  clear hz ha hb5
  go_enter Tryd.func55, Tryd.ntmps55
  go_wp2_with (first | (refine store_blk rfl 23 _ _ rfl _ rfl (ds := u8s zero24) rfl B1 info_fl (by rfl) (by rfl) (u8s_one _) ?_) | (go_at_call 77; refine (l01Colour_any _ _).mono ?_; rintro e w' ⟨rfl, rfl⟩))
  go_loopw [9] (fun i wr => ∃ k : Nat, k ≤ 24 ∧ i = .int .i64 k ∧ Blk wr w.heap.size (u8s zero24) 23 ∧ Blk wr (w.heap.size + 1) (u8s (part (madeF 3 a b) 24 k)) 23 ∧ Below w.heap.size w wr) (fun i _ => 24 - (intOf i).toNat)
  case atStart => exact ⟨0, by omega, rfl, C0, by rw [HZ.out]; exact C1, c0⟩
  case round =>
    obtain ⟨k, hk, rfl, g1, g2, hb⟩ := hrel
    clear B0 B1 b0 C0 C1 c0 HZ
    by_cases hlt : k < 24
    · have hlt' : (k : Int) < 24 := by omega
      obtain ⟨v2, c2⟩ := g2.some k (by rw [u8s_length, part_length]; exact hlt)
      have f2 := g2.frozen k
      have e := As.mk (part_set (madeF 3 a b) 24 k)
      go_wp2
      go_roundw
      case rel => exact ⟨k + 1, by omega, by go_num, g1.far (by simp) _, by have := g2.set k (.int .u8 a); rw [u8s_set] at this; rw [← e.out]; exact this, hb.setCell (by simp) _⟩
      case measure => simp [intOf]; omega
    · obtain rfl : k = 24 := by omega
      rw [part_full] at g2
      have hl : (madeL 3 a b).length = 24 := madeL_length _ _ _
      have g2 : Blk wr (w.heap.size + 1) (u8s (madeL 3 a b)) 23 := g2
      go_wp2_with (first | (refine load_blk rfl 23 _ rfl _ rfl g2 Tryd.underlying23 rfl info_fl (by rw [u8s_length]; exact hl) ?_) | (refine store_blk rfl 23 _ _ rfl _ rfl rfl g1 info_fl (by rw [u8s_length]; exact hl) (by rw [u8s_length]; exact zero24_length) (u8s_one _) ?_))
      refine ret_blk_tmp rfl _ rfl (g1.setRow _) Tryd.underlying23 rfl info_fl (by rw [u8s_length]; exact hl) rfl ⟨rfl, bl_setRow hb (by omega) _⟩

theorem madeL_fine (kind : Nat) (a b : Int) (ha : 0 ≤ a ∧ a ≤ 5) (hb : 0 ≤ b ∧ b ≤ 5) : Fine (madeL kind a b) := Fine.of_map _ fun i _ => by unfold madeF; split <;> omega
theorem l01Made_fine (a b kd : Int) (ha : 0 ≤ a ∧ a ≤ 5) (hb : 0 ≤ b ∧ b ≤ 5) (hk : 0 ≤ kd ∧ kd ≤ 3) (w : World) :
    Calls Tryd.prog 55 #[.int .i64 a, .int .i64 b, .int .i64 kd] w fun e w' => (∃ f, e = .returned (.tuple #[fl f, .int .i64 0]) ∧ Fine f) ∧ Below w.heap.size w w' := by
  have hA : aC [a, b] = true := by rw [aC_two, Bool.and_eq_true]; exact ⟨(inR_iff _ _ _).2 ha, (inR_iff _ _ _).2 hb⟩
  have ho : ∀ ys, okF (aC [a, b]) ys = ys := fun ys => by rw [hA]; rfl
  have hc : codeR (aC [a, b]) = 0 := by rw [hA]; rfl
  rcases (by omega : kd = 0 ∨ kd = 1 ∨ kd = 2 ∨ kd = 3) with rfl | rfl | rfl | rfl
  · refine (l01Made0_any a b w).mono ?_; rintro e w' ⟨rfl, h⟩; rw [ho, hc]; exact ⟨⟨_, rfl, madeL_fine 0 a b ha hb⟩, h⟩
  · refine (l01Made1_any a b w).mono ?_; rintro e w' ⟨rfl, h⟩; rw [ho, hc]; exact ⟨⟨_, rfl, madeL_fine 1 a b ha hb⟩, h⟩
  · refine (l01Made2_any a b w).mono ?_; rintro e w' ⟨rfl, h⟩; rw [ho, hc]; exact ⟨⟨_, rfl, madeL_fine 2 a b ha hb⟩, h⟩
  · refine (l01Made3_any a b ha hb w).mono ?_; rintro e w' ⟨rfl, h⟩; exact ⟨⟨_, rfl, madeL_fine 3 a b ha hb⟩, h⟩
theorem sPlain_fine (a : Int) (ha : 0 ≤ a ∧ a ≤ 5) (w : World) :
    Calls Tryd.prog 56 #[.int .i64 a] w fun e w' => (∃ f, e = .returned (.tuple #[fl f, .int .i64 0]) ∧ Fine f) ∧ Below w.heap.size w w' := by
  have hA : inR a 0 5 = true := (inR_iff _ _ _).2 ha
  refine (sPlainFlag_any a w).mono ?_; rintro e w' ⟨rfl, h⟩
  rw [hA]
  exact ⟨⟨plainL a, rfl, Fine.of_map _ fun i _ => ha⟩, h⟩
theorem sStripes_fine (a b d : Int) (up : Bool) (ha : 0 ≤ a ∧ a ≤ 5) (hb : 0 ≤ b ∧ b ≤ 5) (hd : 0 ≤ d ∧ d ≤ 5) (A : Option Addr) (c : Nat) (w : World) (hs : Sl .i64 w A [a, b, d]) :
    Calls Tryd.prog 57 #[.slice A 3 c, .bool up] w fun e w' => (∃ f, e = .returned (.tuple #[fl f, .int .i64 0]) ∧ Fine f) ∧ Below w.heap.size w w' := by
  have hA : stripesOk [a, b, d] up = true := by
    unfold stripesOk aC
    simp only [Bool.and_eq_true, List.all_cons, List.all_nil, Bool.and_true, inR_iff]
    refine ⟨?_, ha, hb, hd⟩
    simp; split <;> omega
  refine (sStripesOf_any [a, b, d] up A c w hs (by simp)).mono ?_; rintro e w' ⟨rfl, h⟩
  rw [hA]
  refine ⟨⟨stripeL [a, b, d] up, rfl, Fine.of_map _ fun i _ => ?_⟩, h⟩
  have hc : ∀ q, 0 ≤ nth [a, b, d] q ∧ nth [a, b, d] q ≤ 5 := fun q => by
    by_cases hq : q < 3
    · rcases (by omega : q = 0 ∨ q = 1 ∨ q = 2) with rfl | rfl | rfl
      · exact ha
      · exact hb
      · exact hd
    · rw [nth_out _ q (by simp; omega)]; omega
  unfold stripeF
  exact hc _
end Go.Proofs.YtjppoejkfpeicaaDoor

/- Plain facts: the first place of the greatest number; the colours of a flag's blocks. -/
set_option linter.unusedVariables false
namespace Go.Proofs.YtjppoejkfpeicaaDoor
open Go.RowKit

/-- The first place up to k at which f is greatest. -/
def bestUp (f : Nat → Int) : Nat → Nat
  | 0 => 0
  | k + 1 => if f (bestUp f k) < f (k + 1) then k + 1 else bestUp f k
theorem bestUp_le (f : Nat → Int) : ∀ k, bestUp f k ≤ k
  | 0 => Nat.le_refl _
  | k + 1 => by
    have := bestUp_le f k
    unfold bestUp; split <;> omega
theorem bestUp_max (f : Nat → Int) : ∀ k j, j ≤ k → f j ≤ f (bestUp f k)
  | 0, j, h => by obtain rfl : j = 0 := by omega
                  exact Int.le_refl _
  | k + 1, j, h => by
    unfold bestUp
    split
    · rename_i hlt
      rcases Nat.lt_or_eq_of_le h with h' | rfl
      · have := bestUp_max f k j (by omega); omega
      · exact Int.le_refl _
    · rename_i hge
      rcases Nat.lt_or_eq_of_le h with h' | rfl
      · exact bestUp_max f k j (by omega)
      · omega
theorem bestUp_first (f : Nat → Int) : ∀ k j, j < bestUp f k → f j < f (bestUp f k)
  | 0, j, h => by simp [bestUp] at h
  | k + 1, j, h => by
    unfold bestUp at h ⊢
    split
    · rename_i hlt
      rw [if_pos hlt] at h
      have := bestUp_max f k j (by omega); omega
    · rename_i hge
      rw [if_neg hge] at h
      exact bestUp_first f k j h
/-- Where the greatest one stands first. -/
theorem firstIdx_best (f : Nat → Int) (k : Nat) : firstIdx (fun i => f i == f (bestUp f k)) (k + 1) 0 = (bestUp f k : Nat) := by
  rw [firstIdx_hit _ (k + 1) 0 (bestUp f k) (by have := bestUp_le f k; omega) (fun i hi => by
    have := bestUp_first f k i hi
    rw [Nat.zero_add, beq_eq_false_iff_ne]; omega) (by rw [Nat.zero_add]; exact beq_self_eq_true _)]
  simp

/-- Cell k of block b of a flag. -/
def pos (b k : Nat) : Nat := 2 * (b % 3) + 12 * (b / 3) + k % 2 + 6 * (k / 2)
theorem pos_lt (b k : Nat) (hb : b < 6) (hk : k < 4) : pos b k < 24 := by unfold pos; omega
/-- How many of the first m cells of block b are of colour c. -/
def cntB (xs : List Int) (b m c : Nat) : Int := ((List.range m).countP fun i => nth xs (pos b i) == (c : Int) : Nat)
theorem cntB_zero (xs : List Int) (b c : Nat) : cntB xs b 0 c = 0 := rfl
theorem cntB_bd (xs : List Int) (b m c : Nat) : 0 ≤ cntB xs b m c ∧ cntB xs b m c ≤ m := by
  unfold cntB
  have := List.countP_le_length (p := fun i => nth xs (pos b i) == (c : Int)) (l := List.range m)
  rw [List.length_range] at this
  omega
theorem cntB_succ (xs : List Int) (b m c : Nat) : cntB xs b (m + 1) c = cntB xs b m c + if nth xs (pos b m) == (c : Int) then 1 else 0 := by
  unfold cntB
  rw [List.range_succ, List.countP_append, List.countP_singleton]
  split <;> simp
def cntL (xs : List Int) (b m : Nat) : List Int := (List.range 6).map (cntB xs b m)
theorem cntL_length (xs : List Int) (b m : Nat) : (cntL xs b m).length = 6 := by simp [cntL]
theorem cntL_zero (xs : List Int) (b : Nat) : cntL xs b 0 = List.replicate 6 0 := rfl
theorem cntL_nth (xs : List Int) (b m c : Nat) (h : c < 6) : nth (cntL xs b m) c = cntB xs b m c := nth_map_range _ _ _ h
theorem cntL_step (xs : List Int) (b m c : Nat) (h : nth xs (pos b m) = (c : Int)) : (cntL xs b m).set c (cntB xs b m c + 1) = cntL xs b (m + 1) := by
  apply List.ext_getElem
  · simp [cntL]
  · intro i h1 h2
    simp only [List.getElem_set, cntL, List.getElem_map, List.getElem_range, cntB_succ, h]
    by_cases e : c = i
    · subst e; simp
    · rw [if_neg e, if_neg (by simp; omega)]; simp
/-- The colours that are seen from afar. -/
def blurF (xs : List Int) (b : Nat) : Int := (bestUp (cntB xs b 4) 5 : Nat)
def blurL (xs : List Int) : List Int := (List.range 6).map (blurF xs)
theorem blurL_length (xs : List Int) : (blurL xs).length = 6 := by simp [blurL]
theorem blurF_bd (xs : List Int) (b : Nat) : 0 ≤ blurF xs b ∧ blurF xs b ≤ 5 := by
  unfold blurF; have := bestUp_le (cntB xs b 4) 5; omega
end Go.Proofs.YtjppoejkfpeicaaDoor

/- Contracts: spec.l01Blur. -/
set_option linter.unusedVariables false
namespace Go.Proofs.YtjppoejkfpeicaaDoor
open Go.RowKit

theorem info_b6 : (Tryd.prog.info? 39).map (·.size) = some 6 := by kernel_rfl
theorem zero6_length : zero6.length = 6 := rfl

set_option maxRecDepth 20000 in
set_option maxHeartbeats 2000000 in
theorem l01Blur_any (xs : List Int) (hx : xs.length = 24) (rx : Bytes xs) (hv : vf xs = true) (b o : Nat) (w : World) (hr : w.rangeAt b o (u8s xs)) :
    Calls Tryd.prog 44 #[.pointer (some ⟨b, o, none⟩)] w fun e w' => e = .returned (.agg (u8s (blurL xs)).toArray) ∧ Below w.heap.size w w' := by
  have HZ := As.mk (part_zero (blurF xs) 6)
  have B0 : Blk ((w.alloc (.cells #[.int .u8 0, .int .u8 0, .int .u8 0, .int .u8 0, .int .u8 0, .int .u8 0] 39)).alloc (.cells #[.int .u8 0, .int .u8 0, .int .u8 0, .int .u8 0, .int .u8 0, .int .u8 0] 39)) w.heap.size (u8s zero6) 39 := (Blk.mk w (u8s zero6) _ rfl).alloc _
  have B1 : Blk ((w.alloc (.cells #[.int .u8 0, .int .u8 0, .int .u8 0, .int .u8 0, .int .u8 0, .int .u8 0] 39)).alloc (.cells #[.int .u8 0, .int .u8 0, .int .u8 0, .int .u8 0, .int .u8 0, .int .u8 0] 39)) (w.heap.size + 1) (u8s zero6) 39 := Blk.mk _ (u8s zero6) _ (by simp)
  have b0 : Below w.heap.size w ((w.alloc (.cells #[.int .u8 0, .int .u8 0, .int .u8 0, .int .u8 0, .int .u8 0, .int .u8 0] 39)).alloc (.cells #[.int .u8 0, .int .u8 0, .int .u8 0, .int .u8 0, .int .u8 0, .int .u8 0] 39)) := bl_new (bl_new (Below.refl _ _) _) _
  have C0 := B0.farRow (g := w.heap.size + 1) (by omega) (u8s zero6).toArray
  have C1 := B1.setRow (u8s zero6)
  have c0 := bl_setRow b0 (g := w.heap.size + 1) (by omega) (u8s zero6).toArray
  go_enter Tryd.func44, Tryd.ntmps44
  go_wp2_with (refine store_blk rfl 39 _ _ rfl _ rfl (ds := u8s zero6) rfl B1 info_b6 (by rw [u8s_length]; exact rfl) (by rw [u8s_length]; exact rfl) (u8s_one _) ?_)
  go_loopw [4] (fun i wr => ∃ k : Nat, k ≤ 6 ∧ i = .int .i64 k ∧ Blk wr w.heap.size (u8s zero6) 39 ∧ Blk wr (w.heap.size + 1) (u8s (part (blurF xs) 6 k)) 39 ∧ Below w.heap.size w wr) (fun i _ => 6 - (intOf i).toNat)
  case atStart => exact ⟨0, by omega, rfl, C0, by rw [HZ.out]; exact C1, c0⟩
  case round =>
    obtain ⟨k, hk, rfl, g0, g1, hb⟩ := hrel
    clear B0 B1 b0 C0 C1 c0 HZ
    by_cases hlt : k < 6
    · have hlt' : (k : Int) < 6 := by omega
      have E2 : Blk (wr.alloc (.cells #[.int .i64 0, .int .i64 0, .int .i64 0, .int .i64 0, .int .i64 0, .int .i64 0] 33)) wr.heap.size (i64s zero6) 33 := Blk.mk _ (i64s zero6) _ rfl
      have F0 := (g0.alloc (.cells #[.int .i64 0, .int .i64 0, .int .i64 0, .int .i64 0, .int .i64 0, .int .i64 0] 33)).farRow (Nat.ne_of_lt g0.lt) (i64s zero6).toArray
      have F1 := (g1.alloc (.cells #[.int .i64 0, .int .i64 0, .int .i64 0, .int .i64 0, .int .i64 0, .int .i64 0] 33)).farRow (Nat.ne_of_lt g1.lt) (i64s zero6).toArray
      have F2 := E2.setRow (i64s zero6)
      have hs0 := g0.lt
      have hs1 := g1.lt
      have hbs := hb.size
      have fb := bl_setRow (bl_new hb (.cells #[.int .i64 0, .int .i64 0, .int .i64 0, .int .i64 0, .int .i64 0, .int .i64 0] 33)) hbs (i64s zero6).toArray
      go_wp2_with (refine store_blk rfl 33 _ _ rfl _ rfl (ds := i64s zero6) rfl E2 info_6 (by rw [i64s_length]; exact rfl) (by rw [i64s_length]; exact rfl) (i64s_one _) ?_)
      generalize (wr.alloc (.cells #[.int .i64 0, .int .i64 0, .int .i64 0, .int .i64 0, .int .i64 0, .int .i64 0] 33)).setRow wr.heap.size (i64s zero6).toArray = W at *
      generalize hB : wr.heap.size = B at *
      clear E2 g0 g1 hb
      go_loopw [6] (fun i wr => ∃ m : Nat, m ≤ 4 ∧ i = .int .i64 m ∧ Blk wr w.heap.size (u8s zero6) 39 ∧ Blk wr (w.heap.size + 1) (u8s (part (blurF xs) 6 k)) 39 ∧ Blk wr B (i64s (cntL xs k m)) 33 ∧ Below w.heap.size w wr) (fun i _ => 4 - (intOf i).toNat)
      case atStart => exact ⟨0, by omega, rfl, F0, F1, F2, fb⟩
      case round =>
        obtain ⟨m, hm, rfl, g0, g1, g2, hb⟩ := hrel
        clear F0 F1 F2 fb
        by_cases hlt2 : m < 4
        · have hlt2' : (m : Int) < 4 := by omega
          have hP : pos k m = 2 * (k % 3) + 12 * (k / 3) + m % 2 + 6 * (m / 2) := rfl
          have hP24 := pos_lt k m hlt hlt2
          have n1 := (rx.nth (pos k m)).1
          have n2 : nth xs (pos k m) ≤ 5 := vf_nth hv (pos k m) (by omega)
          obtain ⟨c, hc⟩ := Int.eq_ofNat_of_zero_le n1
          have hc6 : c < 6 := by omega
          have hbd := cntB_bd xs k m c
          have hbd1 := hbd.1
          have hbd2 : cntB xs k m c ≤ 4 := by have := hbd.2; omega
          have hst := As.mk (cntL_step xs k m c hc)
          have c0 := hr (pos k m) _ (u8s_get xs _ (by omega))
          have c0' := (hb.cell (World.block_lt_of_cell? w _ c0)).trans c0
          rw [hc] at c0'
          have c2 : wr.cell? ⟨B, c, none⟩ = some (.int .i64 (cntB xs k m c)) := by rw [g2.at, i64s_get _ c (by rw [cntL_length]; exact hc6), cntL_nth xs k m c hc6]
          have f2 := g2.frozen c
          clear c0 hbd n1 n2 hc
          generalize hPP : pos k m = PP at *
          generalize hxx : k % 3 = x at *
          generalize hyy : k / 3 = y at *
          generalize hpp : m % 2 = p at *
          generalize hqq : m / 2 = q at *
          generalize cntB xs k m c = cn at *
          have b1 : x ≤ 2 := by omega
          have b2 : y ≤ 1 := by omega
          have b3 : p ≤ 1 := by omega
          have b4 : q ≤ 1 := by omega
          have hc6' : (c : Int) < 6 := by omega
          have i1 : (0 : Int) ≤ (x : Int) * 2 + p ∧ (x : Int) * 2 + p ≤ 5 := by omega
          have i2 : (0 : Int) ≤ (y : Int) * 2 + q ∧ (y : Int) * 2 + q ≤ 3 := by omega
          have i3 : (0 : Int) ≤ (x : Int) * 2 + p + 6 * ((y : Int) * 2 + q) := by omega
          have i4 : (x : Int) * 2 + p + 6 * ((y : Int) * 2 + q) < 24 := by omega
          go_wp2_with (fail)
          have e1 : ((k : Int)).tmod 3 = (x : Int) := by rw [Int.tmod_eq_emod_of_nonneg (by omega)]; omega
          have e3 : ((m : Int)).tmod 2 = (p : Int) := by rw [Int.tmod_eq_emod_of_nonneg (by omega)]; omega
          have e5 : ((k : Int)) / 3 = (y : Int) := by omega
          have e8 : ((m : Int)) / 2 = (q : Int) := by omega
          have e2 : IntKind.i64.wrap ((x : Int) * 2) = (x : Int) * 2 := IntWalk.i64_in _ (by omega)
          have e4 : IntKind.i64.wrap ((x : Int) * 2 + p) = (x : Int) * 2 + p := IntWalk.i64_in _ (by omega)
          have e6 : IntKind.i64.wrap (y : Int) = (y : Int) := IntWalk.i64_in _ (by omega)
          have e7 : IntKind.i64.wrap ((y : Int) * 2) = (y : Int) * 2 := IntWalk.i64_in _ (by omega)
          have e9 : IntKind.i64.wrap (q : Int) = (q : Int) := IntWalk.i64_in _ (by omega)
          have e10 : IntKind.i64.wrap ((y : Int) * 2 + q) = (y : Int) * 2 + q := IntWalk.i64_in _ (by omega)
          have e11 : ((x : Int) * 2 + p + 6 * ((y : Int) * 2 + q)).toNat = PP := by omega
          have e12 : IntKind.i64.wrap (cn + 1) = cn + 1 := IntWalk.i64_in _ (by omega)
          clear hP hPP
          refine wp_region_still_tail 21 (by kernel_rfl) (by kernel_rfl) ?_
          simp only [List.take_succ_cons, List.take_zero, List.drop_succ_cons, List.drop_zero]
          repeat still_step
          still_call ((l01Index_any _ _ i1 i2 _).mono fun e w' h => ⟨h.1, h.2.symm⟩)
          repeat still_step
          refine wpStill_nil ?_
          clear e1 e2 e3 e4 e5 e6 e7 e8 e9 e10 e11 e12
          go_wp2
          go_roundw
          case rel => exact ⟨m + 1, by omega, by go_num, (g0.far (by simp; omega) _).drew, (g1.far (by simp; omega) _).drew, by have := (g2.set c (.int .i64 (cn + 1))).drew; rw [i64s_set, hst.out] at this; exact this, (hb.setCell (by simp; omega) _).drew⟩
          case measure => simp [intOf]; omega
        · obtain rfl : m = 4 := by omega
          have HF := As.mk (show blurF xs k = (bestUp (cntB xs k 4) 5 : Nat) from rfl)
          have hbf := blurF_bd xs k
          go_wp2
          go_loopw [7, 8] (fun bst i wr' => ∃ j q : Nat, j ≤ 5 ∧ bst = .int .i64 (bestUp (cntB xs k 4) j : Nat) ∧ i = .int .i64 ((j + 1 : Nat) : Int) ∧ wr' = wr.drewN q) (fun _ i _ => 6 - (intOf i).toNat)
          case atStart => exact ⟨0, 0, by omega, rfl, rfl, rfl⟩
          case round =>
            obtain ⟨j, q, hj, rfl, rfl, rfl⟩ := hrel
            have hle := bestUp_le (cntB xs k 4) j
            by_cases hlt3 : j < 5
            · have hlt3' : ((j + 1 : Nat) : Int) < 6 := by omega
              have c1 : wr.cell? ⟨B, j + 1, none⟩ = some (.int .i64 (cntB xs k 4 (j + 1))) := by rw [g2.at, i64s_get _ _ (by rw [cntL_length]; omega), cntL_nth xs k 4 _ (by omega)]
              have c2 : wr.cell? ⟨B, bestUp (cntB xs k 4) j, none⟩ = some (.int .i64 (cntB xs k 4 (bestUp (cntB xs k 4) j))) := by rw [g2.at, i64s_get _ _ (by rw [cntL_length]; omega), cntL_nth xs k 4 _ (by omega)]
              have hS := As.mk (show bestUp (cntB xs k 4) (j + 1) = if cntB xs k 4 (bestUp (cntB xs k 4) j) < cntB xs k 4 (j + 1) then j + 1 else bestUp (cntB xs k 4) j from rfl)
              have hb6 : ((bestUp (cntB xs k 4) j : Nat) : Int) < 6 := by omega
              generalize bestUp (cntB xs k 4) j = u at *
              generalize cntB xs k 4 u = fu at *
              generalize cntB xs k 4 (j + 1) = fj at *
              go_wp2
              go_quiet (fail)
              by_cases hlt4 : fu < fj
              · go_wp2
                go_roundw
                case rel => exact ⟨j + 1, _, by omega, by rw [hS.out, if_pos hlt4], by go_num, rfl⟩
                case measure => simp [intOf]; omega
              · go_wp2
                go_roundw
                case rel => exact ⟨j + 1, _, by omega, by rw [hS.out, if_neg hlt4], by go_num, rfl⟩
                case measure => simp [intOf]; omega
            · obtain rfl : j = 5 := by omega
              have hn1 := hbf.1
              have hn2 := hbf.2
              rw [HF.out] at hn1 hn2
              obtain ⟨v2, c2⟩ := g1.some k (by rw [u8s_length, part_length]; exact hlt)
              have f2 := g1.frozen k
              have hps := As.mk (part_set (blurF xs) 6 k)
              rw [HF.out] at hps
              generalize bestUp (cntB xs k 4) 5 = u at *
              go_wp2
              go_roundw
              case rel => exact ⟨k + 1, by omega, by go_num, (g0.drewN q).far (by simp) _, by have := (g1.drewN q).set k (.int .u8 (u : Nat)); rw [u8s_set, hps.out] at this; exact this, (bl_drewN hb q).setCell (by simp) _⟩
              case measure => simp [intOf]; omega
    · obtain rfl : k = 6 := by omega
      rw [part_full] at g1
      have hl := blurL_length xs
      change Blk wr (w.heap.size + 1) (u8s (blurL xs)) _ at g1
      go_wp2_with (first | (refine load_blk rfl 39 _ rfl _ rfl g1 Tryd.underlying39 rfl info_b6 (by rw [u8s_length]; exact hl) ?_) | (refine store_blk rfl 39 _ _ rfl _ rfl (ds := u8s (blurL xs)) rfl g0 info_b6 (by rw [u8s_length]; exact hl) (by rw [u8s_length]; exact zero6_length) (u8s_one _) ?_))
      refine ret_blk rfl _ rfl (g0.setRow _) Tryd.underlying39 rfl info_b6 (by rw [u8s_length]; exact hl) rfl ⟨rfl, bl_setRow hb (by omega) _⟩
end Go.Proofs.YtjppoejkfpeicaaDoor

/- Contracts: slices.Max and slices.Index over ints. -/
set_option linter.unusedVariables false
namespace Go.Proofs.YtjppoejkfpeicaaDoor
open Go.RowKit

theorem best_max (f : Nat → Int) (k : Nat) : f (bestUp f (k + 1)) = if f (bestUp f k) < f (k + 1) then f (k + 1) else f (bestUp f k) := by
  show f (if f (bestUp f k) < f (k + 1) then k + 1 else bestUp f k) = _
  split <;> rfl
theorem bestUp_congr (f g : Nat → Int) : ∀ k, (∀ j, j ≤ k → f j = g j) → bestUp f k = bestUp g k
  | 0, _ => rfl
  | k + 1, h => by
    have h1 := bestUp_congr f g k (fun j hj => h j (by omega))
    have h2 := bestUp_le g k
    unfold bestUp
    rw [h1, h _ (by omega), h (k + 1) (by omega)]

theorem Max_int (xs : List Int) (h1 : 1 ≤ xs.length) (hbig : xs.length ≤ 1000000) (b o c : Nat) (w : World) (hr : w.rangeAt b o (i64s xs)) :
    Calls Tryd.prog 65 #[.slice (some ⟨b, o, none⟩) xs.length c] w fun e w' => e = .returned (.int .i64 (nth xs (bestUp (nth xs) (xs.length - 1)))) ∧ w = w' := by
  have c0 : w.cell? ⟨b, o + 0, none⟩ = some (.int .i64 (nth xs 0)) := hr 0 _ (i64s_get xs 0 (by omega))
  rw [Nat.add_zero] at c0
  have h1' : (1 : Int) ≤ (xs.length : Int) := by omega
  generalize hn : xs.length = n at *
  have HN := As.mk hn
  clear hn
  go_enter Tryd.func65, Tryd.ntmps65
  go_wp2
  go_loop [3, 4] (fun m i => ∃ k : Nat, k + 1 ≤ n ∧ m = .int .i64 (nth xs (bestUp (nth xs) k)) ∧ i = .int .i64 ((k + 1 : Nat) : Int)) (fun _ i => n - (intOf i).toNat)
  case atStart => exact ⟨0, by omega, rfl, rfl⟩
  case round =>
    obtain ⟨k, hk, rfl, rfl⟩ := hrel
    by_cases hlt : k + 1 < n
    · have hlt' : (((k + 1 : Nat)) : Int) < (n : Int) := by omega
      have ck : w.cell? ⟨b, o + (k + 1), none⟩ = some (.int .i64 (nth xs (k + 1))) := hr (k + 1) _ (i64s_get xs (k + 1) (by rw [HN.out]; omega))
      have hB := As.mk (best_max (nth xs) k)
      go_wp2
      go_round
      case rel => exact ⟨k + 1, by omega, by rw [hB.out], by go_num⟩
      case measure => simp [intOf]; omega
    · obtain rfl : n = k + 1 := by omega
      go_wp2
      go_ret
      exact ⟨rfl, rfl⟩

theorem Index_int (xs : List Int) (v : Int) (hbig : xs.length ≤ 1000000) (b o c : Nat) (w : World) (hr : w.rangeAt b o (i64s xs)) :
    Calls Tryd.prog 64 #[.slice (some ⟨b, o, none⟩) xs.length c, .int .i64 v] w fun e w' => e = .returned (.int .i64 (firstIdx (fun i => nth xs i == v) xs.length 0)) ∧ w = w' := by
  generalize hn : xs.length = n at *
  have HN := As.mk hn
  clear hn
  go_enter Tryd.func64, Tryd.ntmps64
  go_wp2
  go_loop [5, 8] (fun _ i => ∃ k : Nat, k ≤ n ∧ i = .int .i64 k ∧ As (∀ j, j < k → (nth xs j == v) = false)) (fun _ i => n - (intOf i).toNat)
  case atStart => exact ⟨0, by omega, rfl, ⟨fun j hj => by omega⟩⟩
  case round =>
    obtain ⟨k, hk, rfl, H⟩ := hrel
    by_cases hlt : k < n
    · have hlt' : (k : Int) < (n : Int) := by omega
      have ck : w.cell? ⟨b, o + k, none⟩ = some (.int .i64 (nth xs k)) := hr k _ (i64s_get xs k (by rw [HN.out]; omega))
      by_cases he : v = nth xs k
      · have he' : (v == nth xs k) = true := by simp [he]
        have hq : (nth xs k == v) = true := by simp [he]
        have HR := As.mk (firstIdx_hit (fun i => nth xs i == v) n 0 k hlt (by simpa using H.out) (by simpa using hq))
        clear hq he
        go_wp2
        go_ret
        exact ⟨ret_n (by rw [HR.out]; simp), rfl⟩
      · have he' : (v == nth xs k) = false := by simp [he]
        have hq : (nth xs k == v) = false := by simp; exact fun h => he h.symm
        have HQ := As.mk hq
        clear hq he
        go_wp2
        go_round
        case rel => exact ⟨k + 1, by omega, by go_num, ⟨all_succ H.out HQ.out⟩⟩
        case measure => simp [intOf]; omega
    · obtain rfl : k = n := by omega
      go_wp2
      go_ret
      exact ⟨ret_n (by rw [firstIdx_miss _ k 0 (by simpa using H.out)]), rfl⟩
end Go.Proofs.YtjppoejkfpeicaaDoor
