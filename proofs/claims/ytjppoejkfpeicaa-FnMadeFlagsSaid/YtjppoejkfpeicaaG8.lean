/- Contracts: spec.StripesOf. -/
import Derived.Test.YtjppoejkfpeicaaG7
set_option linter.unusedVariables false
set_option linter.unusedSimpArgs false
namespace Go.Proofs.Ytjppoejkfpeicaa
open Go.RowKit

/-- The first k numbers are colours. -/
def aK (xs : List Int) (k : Nat) : Bool := aC (xs.take k)
theorem aK_full (xs : List Int) : aK xs xs.length = aC xs := by unfold aK; rw [List.take_length]
theorem aK_step (xs : List Int) (k : Nat) (h : k < xs.length) : aK xs (k + 1) = (aK xs k && inR (nth xs k) 0 5) := by
  unfold aK aC
  rw [List.take_add_one, List.all_append, nth_get? xs k h]; simp
theorem aK_false (xs : List Int) (k : Nat) (h : aK xs k = false) : aC xs = false := by
  unfold aK aC at *
  rw [List.all_eq_false] at *
  obtain ⟨x, hx, h⟩ := h
  exact ⟨x, List.mem_of_mem_take hx, h⟩

set_option maxHeartbeats 2000000 in
theorem sStripesOf_any (xs : List Int) (up : Bool) (A : Option Addr) (c : Nat) (w : World) (hs : Sl .i64 w A xs) (hbig : xs.length ≤ 1048576) :
    Calls Try.prog 25 #[.slice A xs.length c, .bool up] w fun e w' => e = .returned (.tuple #[fl (okF (stripesOk xs up) (stripeL xs up)), .int .i64 (codeR (stripesOk xs up))]) ∧ Below w.heap.size w w' := by
  have hl : (okF (stripesOk xs up) (stripeL xs up)).length = 24 := okF_length (stripeL_length _ _)
  have hsb := fun i => stripe_bd xs up (k := i)
  have B0 : Blk ((w.alloc (.cells #[.int .u8 0, .int .u8 0, .int .u8 0, .int .u8 0, .int .u8 0, .int .u8 0, .int .u8 0, .int .u8 0, .int .u8 0, .int .u8 0, .int .u8 0, .int .u8 0, .int .u8 0, .int .u8 0, .int .u8 0, .int .u8 0, .int .u8 0, .int .u8 0, .int .u8 0, .int .u8 0, .int .u8 0, .int .u8 0, .int .u8 0, .int .u8 0] 38)).alloc (.cells #[.int .u8 0, .int .u8 0, .int .u8 0, .int .u8 0, .int .u8 0, .int .u8 0, .int .u8 0, .int .u8 0, .int .u8 0, .int .u8 0, .int .u8 0, .int .u8 0, .int .u8 0, .int .u8 0, .int .u8 0, .int .u8 0, .int .u8 0, .int .u8 0, .int .u8 0, .int .u8 0, .int .u8 0, .int .u8 0, .int .u8 0, .int .u8 0] 38)) w.heap.size (u8s zero24) 38 := (Blk.mk _ (u8s zero24) _ rfl).alloc _
  have B1 : Blk ((w.alloc (.cells #[.int .u8 0, .int .u8 0, .int .u8 0, .int .u8 0, .int .u8 0, .int .u8 0, .int .u8 0, .int .u8 0, .int .u8 0, .int .u8 0, .int .u8 0, .int .u8 0, .int .u8 0, .int .u8 0, .int .u8 0, .int .u8 0, .int .u8 0, .int .u8 0, .int .u8 0, .int .u8 0, .int .u8 0, .int .u8 0, .int .u8 0, .int .u8 0] 38)).alloc (.cells #[.int .u8 0, .int .u8 0, .int .u8 0, .int .u8 0, .int .u8 0, .int .u8 0, .int .u8 0, .int .u8 0, .int .u8 0, .int .u8 0, .int .u8 0, .int .u8 0, .int .u8 0, .int .u8 0, .int .u8 0, .int .u8 0, .int .u8 0, .int .u8 0, .int .u8 0, .int .u8 0, .int .u8 0, .int .u8 0, .int .u8 0, .int .u8 0] 38)) (w.heap.size + 1) (u8s zero24) 38 := Blk.mk _ (u8s zero24) _ (by simp)
  have b0 : Below w.heap.size w ((w.alloc (.cells #[.int .u8 0, .int .u8 0, .int .u8 0, .int .u8 0, .int .u8 0, .int .u8 0, .int .u8 0, .int .u8 0, .int .u8 0, .int .u8 0, .int .u8 0, .int .u8 0, .int .u8 0, .int .u8 0, .int .u8 0, .int .u8 0, .int .u8 0, .int .u8 0, .int .u8 0, .int .u8 0, .int .u8 0, .int .u8 0, .int .u8 0, .int .u8 0] 38)).alloc (.cells #[.int .u8 0, .int .u8 0, .int .u8 0, .int .u8 0, .int .u8 0, .int .u8 0, .int .u8 0, .int .u8 0, .int .u8 0, .int .u8 0, .int .u8 0, .int .u8 0, .int .u8 0, .int .u8 0, .int .u8 0, .int .u8 0, .int .u8 0, .int .u8 0, .int .u8 0, .int .u8 0, .int .u8 0, .int .u8 0, .int .u8 0, .int .u8 0] 38)) := bl_new (bl_new (Below.refl _ _) _) _
  have C0 := B0.farRow (g := w.heap.size + 1) (by omega) (u8s zero24).toArray
  have C1 := B1.setRow (u8s zero24)
  have c0 := bl_setRow b0 (g := w.heap.size + 1) (by omega) (u8s zero24).toArray
  cases up
  · cases hin : inR xs.length 1 4
    · have hk : stripesOk xs false = false := by unfold stripesOk; simp only [Bool.false_eq_true, if_false, if_true]; rw [hin]; rfl
      rw [hk]
      clear hl hk hsb
      generalize hn : xs.length = n at *
      go_enter Try.func25, Try.ntmps25
      go_wp2_with (first | (refine store_blk rfl 38 _ _ rfl _ rfl (ds := u8s zero24) rfl B1 info_fl (by rfl) (by rfl) (u8s_one _) ?_) | (go_at_call 66; refine (l00In_any _ _ _ _).mono ?_; rintro e w' ⟨rfl, rfl⟩))
      go_loopw [9, 10] (fun ok i wr => ok = .bool false ∧ i = .int .i64 0 ∧ wr = (((w.alloc (.cells #[.int .u8 0, .int .u8 0, .int .u8 0, .int .u8 0, .int .u8 0, .int .u8 0, .int .u8 0, .int .u8 0, .int .u8 0, .int .u8 0, .int .u8 0, .int .u8 0, .int .u8 0, .int .u8 0, .int .u8 0, .int .u8 0, .int .u8 0, .int .u8 0, .int .u8 0, .int .u8 0, .int .u8 0, .int .u8 0, .int .u8 0, .int .u8 0] 38)).alloc (.cells #[.int .u8 0, .int .u8 0, .int .u8 0, .int .u8 0, .int .u8 0, .int .u8 0, .int .u8 0, .int .u8 0, .int .u8 0, .int .u8 0, .int .u8 0, .int .u8 0, .int .u8 0, .int .u8 0, .int .u8 0, .int .u8 0, .int .u8 0, .int .u8 0, .int .u8 0, .int .u8 0, .int .u8 0, .int .u8 0, .int .u8 0, .int .u8 0] 38)).setRow (w.heap.size + 1) (u8s zero24).toArray)) (fun _ i _ => 0)
      case atStart => exact ⟨rfl, rfl, rfl⟩
      case round =>
        obtain ⟨rfl, rfl, rfl⟩ := hrel
        go_wp2_with (first | (refine load_blk rfl 38 _ rfl _ rfl C1 Try.underlying38 rfl info_fl (by rw [u8s_length]; exact rfl) ?_) | (refine store_blk rfl 38 _ _ rfl _ rfl (ds := u8s zero24) rfl C0 info_fl (by rfl) (by rfl) (u8s_one _) ?_))
        all_goals refine ret_blk_tmp rfl _ rfl (C0.setRow _) Try.underlying38 rfl info_fl (by rfl) rfl ⟨rfl, bl_setRow c0 (by omega) _⟩
    · have hb1 := (inR_iff _ _ _).1 hin
      have hk : stripesOk xs false = aC xs := by unfold stripesOk; simp only [Bool.false_eq_true, if_false, if_true]; rw [hin]; rfl
      rw [hk] at hl hsb ⊢
      have hA := aK_full xs
      obtain ⟨b, o, rfl, hr⟩ := hs.2 (by omega)
      have hr' := range_kept hr c0
      have HN := As.mk (rfl : xs.length = xs.length)
      generalize hn : xs.length = n at *
      have HN' := As.mk hn
      have n1 : (1 : Int) ≤ (n : Int) := hb1.1
      have n2 : (n : Int) ≤ 4 := hb1.2
      have hlt0 : n ≤ 4 := by omega
      clear hn
      go_enter Try.func25, Try.ntmps25
      go_wp2_with (first | (refine store_blk rfl 38 _ _ rfl _ rfl (ds := u8s zero24) rfl B1 info_fl (by rfl) (by rfl) (u8s_one _) ?_) | (go_at_call 66; refine (l00In_any _ _ _ _).mono ?_; rintro e w' ⟨rfl, rfl⟩))
      generalize (((w.alloc (.cells #[.int .u8 0, .int .u8 0, .int .u8 0, .int .u8 0, .int .u8 0, .int .u8 0, .int .u8 0, .int .u8 0, .int .u8 0, .int .u8 0, .int .u8 0, .int .u8 0, .int .u8 0, .int .u8 0, .int .u8 0, .int .u8 0, .int .u8 0, .int .u8 0, .int .u8 0, .int .u8 0, .int .u8 0, .int .u8 0, .int .u8 0, .int .u8 0] 38)).alloc (.cells #[.int .u8 0, .int .u8 0, .int .u8 0, .int .u8 0, .int .u8 0, .int .u8 0, .int .u8 0, .int .u8 0, .int .u8 0, .int .u8 0, .int .u8 0, .int .u8 0, .int .u8 0, .int .u8 0, .int .u8 0, .int .u8 0, .int .u8 0, .int .u8 0, .int .u8 0, .int .u8 0, .int .u8 0, .int .u8 0, .int .u8 0, .int .u8 0] 38)).setRow (w.heap.size + 1) (u8s zero24).toArray) = W at *
      clear B0 B1 b0
      go_loopw [9, 10] (fun ok i wr => ∃ k : Nat, k ≤ n ∧ i = .int .i64 k ∧ ok = .bool (aK xs k) ∧ wr = W) (fun _ i _ => n - (intOf i).toNat)
      case atStart => exact ⟨0, by omega, rfl, rfl, rfl⟩
      case round =>
        obtain ⟨k, hk, rfl, rfl, rfl⟩ := hrel
        by_cases hlt : k < n
        · have hlt' : (k : Int) < (n : Int) := by omega
          have ck : wr.cell? ⟨b, o + k, none⟩ = some (.int .i64 (nth xs k)) := hr' k _ (i64s_get xs k (by rw [HN'.out]; omega))
          have hst := As.mk (aK_step xs k (by rw [HN'.out]; omega))
          cases ha : aK xs k
          · have hf : aC xs = false := aK_false xs k ha
            go_wp2_with (first | (refine load_blk rfl 38 _ rfl _ rfl C1 Try.underlying38 rfl info_fl (by rw [u8s_length]; exact rfl) ?_) | (refine store_blk rfl 38 _ _ rfl _ rfl (ds := u8s zero24) rfl C0 info_fl (by rfl) (by rfl) (u8s_one _) ?_))
            refine ret_blk_tmp rfl _ rfl (C0.setRow _) Try.underlying38 rfl info_fl (by rfl) rfl ⟨by rw [hf]; rfl, bl_setRow c0 (by omega) _⟩
          · go_wp2_with (go_at_call 67; refine (l01Colour_any _ _).mono ?_; rintro e w' ⟨rfl, rfl⟩)
            go_roundw
            case rel => exact ⟨k + 1, by omega, by go_num, by rw [hst.out, ha, Bool.true_and], by trivial⟩
            case measure => simp [intOf]; omega
        · obtain rfl : k = n := by omega
          rw [hA]
          cases ha : aC xs
          · go_wp2_with (first | (refine load_blk rfl 38 _ rfl _ rfl C1 Try.underlying38 rfl info_fl (by rw [u8s_length]; exact rfl) ?_) | (refine store_blk rfl 38 _ _ rfl _ rfl (ds := u8s zero24) rfl C0 info_fl (by rfl) (by rfl) (u8s_one _) ?_))
            refine ret_blk_tmp rfl _ rfl (C0.setRow _) Try.underlying38 rfl info_fl (by rfl) rfl ⟨by rw [ha]; rfl, bl_setRow c0 (by omega) _⟩
          · have HZ := As.mk (part_zero (stripeF xs false) 24)
            clear hk
            go_wp2
            go_loopw [11] (fun i wr => ∃ k : Nat, k ≤ 24 ∧ i = .int .i64 k ∧ Blk wr w.heap.size (u8s zero24) 38 ∧ Blk wr (w.heap.size + 1) (u8s (part (stripeF xs false) 24 k)) 38 ∧ Below w.heap.size w wr) (fun i _ => 24 - (intOf i).toNat)
            case atStart => exact ⟨0, by omega, rfl, C0, by rw [HZ.out]; exact C1, c0⟩
            case round =>
              obtain ⟨j, hj, rfl, g1, g2, hb⟩ := hrel
              clear C0 C1 c0 HZ
              by_cases hlt : j < 24
              · have hlt' : (j : Int) < 24 := by omega
                have hv := hsb j ha hlt
                have n3 := hv.1; have n4 := hv.2
                obtain ⟨v2, c2⟩ := g2.some j (by rw [u8s_length, part_length]; exact hlt)
                have f2 := g2.frozen j
                have e0 : stripeF xs false j = nth xs ((j / 6) * k / 4) := by unfold stripeF; rw [HN'.out]; rfl
                have e1 : (j : Int) / 6 = (((j / 6) : Nat) : Int) := by omega
                have hx4 : (j / 6) < 4 := by omega
                have hps := As.mk (part_set (stripeF xs false) 24 j)
                rw [e0] at hps n3 n4
                have hm1 : (((j / 6) : Nat) : Int) * (k : Int) = (((j / 6) * k : Nat) : Int) := by rw [Int.natCast_mul]
                have hm2 : (j / 6) * k ≤ 3 * 4 := Nat.mul_le_mul (by omega) hlt0
                have hi := stripe_at ((j / 6)) k 4 hx4 (by omega) (by omega)
                have ci := hr ((j / 6) * k / 4) _ (i64s_get xs _ (by rw [HN'.out]; exact hi))
                have ci' := (hb.cell (World.block_lt_of_cell? w _ ci)).trans ci
                clear ci hv e0
                generalize (j / 6) = q at *
                generalize q * k = y at *
                have hy : (y : Int) / 4 = ((y / 4 : Nat) : Int) := by omega
                have hy2 : (y : Int) ≤ 12 := by omega
                generalize y / 4 = z at *
                have hz : (z : Int) < (k : Int) := by omega
                go_wp2
                go_roundw
                case rel => exact ⟨j + 1, by omega, by go_num, g1.far (by simp) _, by have := g2.set j (.int .u8 (nth xs z)); rw [u8s_set, hps.out] at this; exact this, hb.setCell (by simp) _⟩
                case measure => simp [intOf]; omega
              · obtain rfl : j = 24 := by omega
                rw [part_full] at g2
                change Blk wr (w.heap.size + 1) (u8s (stripeL xs false)) _ at g2
                have hl' := stripeL_length xs false
                go_wp2_with (first | (refine load_blk rfl 38 _ rfl _ rfl g2 Try.underlying38 rfl info_fl (by rw [u8s_length]; exact hl') ?_) | (refine store_blk rfl 38 _ _ rfl _ rfl rfl g1 info_fl (by rw [u8s_length]; exact hl') (by rw [u8s_length]; exact zero24_length) (u8s_one _) ?_))
                refine ret_blk_tmp rfl _ rfl (g1.setRow _) Try.underlying38 rfl info_fl (by rw [u8s_length]; exact hl') rfl ⟨by rw [ha]; rfl, bl_setRow hb (by omega) _⟩
  · cases hin : inR xs.length 1 6
    · have hk : stripesOk xs true = false := by unfold stripesOk; simp only [Bool.false_eq_true, if_false, if_true]; rw [hin]; rfl
      rw [hk]
      clear hl hk hsb
      generalize hn : xs.length = n at *
      go_enter Try.func25, Try.ntmps25
      go_wp2_with (first | (refine store_blk rfl 38 _ _ rfl _ rfl (ds := u8s zero24) rfl B1 info_fl (by rfl) (by rfl) (u8s_one _) ?_) | (go_at_call 66; refine (l00In_any _ _ _ _).mono ?_; rintro e w' ⟨rfl, rfl⟩))
      go_loopw [9, 10] (fun ok i wr => ok = .bool false ∧ i = .int .i64 0 ∧ wr = (((w.alloc (.cells #[.int .u8 0, .int .u8 0, .int .u8 0, .int .u8 0, .int .u8 0, .int .u8 0, .int .u8 0, .int .u8 0, .int .u8 0, .int .u8 0, .int .u8 0, .int .u8 0, .int .u8 0, .int .u8 0, .int .u8 0, .int .u8 0, .int .u8 0, .int .u8 0, .int .u8 0, .int .u8 0, .int .u8 0, .int .u8 0, .int .u8 0, .int .u8 0] 38)).alloc (.cells #[.int .u8 0, .int .u8 0, .int .u8 0, .int .u8 0, .int .u8 0, .int .u8 0, .int .u8 0, .int .u8 0, .int .u8 0, .int .u8 0, .int .u8 0, .int .u8 0, .int .u8 0, .int .u8 0, .int .u8 0, .int .u8 0, .int .u8 0, .int .u8 0, .int .u8 0, .int .u8 0, .int .u8 0, .int .u8 0, .int .u8 0, .int .u8 0] 38)).setRow (w.heap.size + 1) (u8s zero24).toArray)) (fun _ i _ => 0)
      case atStart => exact ⟨rfl, rfl, rfl⟩
      case round =>
        obtain ⟨rfl, rfl, rfl⟩ := hrel
        go_wp2_with (first | (refine load_blk rfl 38 _ rfl _ rfl C1 Try.underlying38 rfl info_fl (by rw [u8s_length]; exact rfl) ?_) | (refine store_blk rfl 38 _ _ rfl _ rfl (ds := u8s zero24) rfl C0 info_fl (by rfl) (by rfl) (u8s_one _) ?_))
        all_goals refine ret_blk_tmp rfl _ rfl (C0.setRow _) Try.underlying38 rfl info_fl (by rfl) rfl ⟨rfl, bl_setRow c0 (by omega) _⟩
    · have hb1 := (inR_iff _ _ _).1 hin
      have hk : stripesOk xs true = aC xs := by unfold stripesOk; simp only [Bool.false_eq_true, if_false, if_true]; rw [hin]; rfl
      rw [hk] at hl hsb ⊢
      have hA := aK_full xs
      obtain ⟨b, o, rfl, hr⟩ := hs.2 (by omega)
      have hr' := range_kept hr c0
      have HN := As.mk (rfl : xs.length = xs.length)
      generalize hn : xs.length = n at *
      have HN' := As.mk hn
      have n1 : (1 : Int) ≤ (n : Int) := hb1.1
      have n2 : (n : Int) ≤ 6 := hb1.2
      have hlt0 : n ≤ 6 := by omega
      clear hn
      go_enter Try.func25, Try.ntmps25
      go_wp2_with (first | (refine store_blk rfl 38 _ _ rfl _ rfl (ds := u8s zero24) rfl B1 info_fl (by rfl) (by rfl) (u8s_one _) ?_) | (go_at_call 66; refine (l00In_any _ _ _ _).mono ?_; rintro e w' ⟨rfl, rfl⟩))
      generalize (((w.alloc (.cells #[.int .u8 0, .int .u8 0, .int .u8 0, .int .u8 0, .int .u8 0, .int .u8 0, .int .u8 0, .int .u8 0, .int .u8 0, .int .u8 0, .int .u8 0, .int .u8 0, .int .u8 0, .int .u8 0, .int .u8 0, .int .u8 0, .int .u8 0, .int .u8 0, .int .u8 0, .int .u8 0, .int .u8 0, .int .u8 0, .int .u8 0, .int .u8 0] 38)).alloc (.cells #[.int .u8 0, .int .u8 0, .int .u8 0, .int .u8 0, .int .u8 0, .int .u8 0, .int .u8 0, .int .u8 0, .int .u8 0, .int .u8 0, .int .u8 0, .int .u8 0, .int .u8 0, .int .u8 0, .int .u8 0, .int .u8 0, .int .u8 0, .int .u8 0, .int .u8 0, .int .u8 0, .int .u8 0, .int .u8 0, .int .u8 0, .int .u8 0] 38)).setRow (w.heap.size + 1) (u8s zero24).toArray) = W at *
      clear B0 B1 b0
      go_loopw [9, 10] (fun ok i wr => ∃ k : Nat, k ≤ n ∧ i = .int .i64 k ∧ ok = .bool (aK xs k) ∧ wr = W) (fun _ i _ => n - (intOf i).toNat)
      case atStart => exact ⟨0, by omega, rfl, rfl, rfl⟩
      case round =>
        obtain ⟨k, hk, rfl, rfl, rfl⟩ := hrel
        by_cases hlt : k < n
        · have hlt' : (k : Int) < (n : Int) := by omega
          have ck : wr.cell? ⟨b, o + k, none⟩ = some (.int .i64 (nth xs k)) := hr' k _ (i64s_get xs k (by rw [HN'.out]; omega))
          have hst := As.mk (aK_step xs k (by rw [HN'.out]; omega))
          cases ha : aK xs k
          · have hf : aC xs = false := aK_false xs k ha
            go_wp2_with (first | (refine load_blk rfl 38 _ rfl _ rfl C1 Try.underlying38 rfl info_fl (by rw [u8s_length]; exact rfl) ?_) | (refine store_blk rfl 38 _ _ rfl _ rfl (ds := u8s zero24) rfl C0 info_fl (by rfl) (by rfl) (u8s_one _) ?_))
            refine ret_blk_tmp rfl _ rfl (C0.setRow _) Try.underlying38 rfl info_fl (by rfl) rfl ⟨by rw [hf]; rfl, bl_setRow c0 (by omega) _⟩
          · go_wp2_with (go_at_call 67; refine (l01Colour_any _ _).mono ?_; rintro e w' ⟨rfl, rfl⟩)
            go_roundw
            case rel => exact ⟨k + 1, by omega, by go_num, by rw [hst.out, ha, Bool.true_and], by trivial⟩
            case measure => simp [intOf]; omega
        · obtain rfl : k = n := by omega
          rw [hA]
          cases ha : aC xs
          · go_wp2_with (first | (refine load_blk rfl 38 _ rfl _ rfl C1 Try.underlying38 rfl info_fl (by rw [u8s_length]; exact rfl) ?_) | (refine store_blk rfl 38 _ _ rfl _ rfl (ds := u8s zero24) rfl C0 info_fl (by rfl) (by rfl) (u8s_one _) ?_))
            refine ret_blk_tmp rfl _ rfl (C0.setRow _) Try.underlying38 rfl info_fl (by rfl) rfl ⟨by rw [ha]; rfl, bl_setRow c0 (by omega) _⟩
          · have HZ := As.mk (part_zero (stripeF xs true) 24)
            clear hk
            go_wp2
            go_loopw [11] (fun i wr => ∃ k : Nat, k ≤ 24 ∧ i = .int .i64 k ∧ Blk wr w.heap.size (u8s zero24) 38 ∧ Blk wr (w.heap.size + 1) (u8s (part (stripeF xs true) 24 k)) 38 ∧ Below w.heap.size w wr) (fun i _ => 24 - (intOf i).toNat)
            case atStart => exact ⟨0, by omega, rfl, C0, by rw [HZ.out]; exact C1, c0⟩
            case round =>
              obtain ⟨j, hj, rfl, g1, g2, hb⟩ := hrel
              clear C0 C1 c0 HZ
              by_cases hlt : j < 24
              · have hlt' : (j : Int) < 24 := by omega
                have hv := hsb j ha hlt
                have n3 := hv.1; have n4 := hv.2
                obtain ⟨v2, c2⟩ := g2.some j (by rw [u8s_length, part_length]; exact hlt)
                have f2 := g2.frozen j
                have e0 : stripeF xs true j = nth xs ((j % 6) * k / 6) := by unfold stripeF; rw [HN'.out]; rfl
                have e1 : (j : Int) % 6 = (((j % 6) : Nat) : Int) := by omega
                have hx4 : (j % 6) < 6 := by omega
                have hps := As.mk (part_set (stripeF xs true) 24 j)
                rw [e0] at hps n3 n4
                have hm1 : (((j % 6) : Nat) : Int) * (k : Int) = (((j % 6) * k : Nat) : Int) := by rw [Int.natCast_mul]
                have hm2 : (j % 6) * k ≤ 5 * 6 := Nat.mul_le_mul (by omega) hlt0
                have hi := stripe_at ((j % 6)) k 6 hx4 (by omega) (by omega)
                have ci := hr ((j % 6) * k / 6) _ (i64s_get xs _ (by rw [HN'.out]; exact hi))
                have ci' := (hb.cell (World.block_lt_of_cell? w _ ci)).trans ci
                clear ci hv e0
                generalize (j % 6) = q at *
                generalize q * k = y at *
                have hy : (y : Int) / 6 = ((y / 6 : Nat) : Int) := by omega
                have hy2 : (y : Int) ≤ 30 := by omega
                generalize y / 6 = z at *
                have hz : (z : Int) < (k : Int) := by omega
                go_wp2
                go_roundw
                case rel => exact ⟨j + 1, by omega, by go_num, g1.far (by simp) _, by have := g2.set j (.int .u8 (nth xs z)); rw [u8s_set, hps.out] at this; exact this, hb.setCell (by simp) _⟩
                case measure => simp [intOf]; omega
              · obtain rfl : j = 24 := by omega
                rw [part_full] at g2
                change Blk wr (w.heap.size + 1) (u8s (stripeL xs true)) _ at g2
                have hl' := stripeL_length xs true
                go_wp2_with (first | (refine load_blk rfl 38 _ rfl _ rfl g2 Try.underlying38 rfl info_fl (by rw [u8s_length]; exact hl') ?_) | (refine store_blk rfl 38 _ _ rfl _ rfl rfl g1 info_fl (by rw [u8s_length]; exact hl') (by rw [u8s_length]; exact zero24_length) (u8s_one _) ?_))
                refine ret_blk_tmp rfl _ rfl (g1.setRow _) Try.underlying38 rfl info_fl (by rw [u8s_length]; exact hl') rfl ⟨by rw [ha]; rfl, bl_setRow hb (by omega) _⟩
end Go.Proofs.Ytjppoejkfpeicaa
