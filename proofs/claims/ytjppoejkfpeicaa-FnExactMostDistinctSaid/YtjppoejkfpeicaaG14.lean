/- Contracts: (impl.Flag).blur. -/
import Derived.Test.YtjppoejkfpeicaaG12
import Derived.Test.YtjppoejkfpeicaaG13
set_option linter.unusedVariables false
namespace Go.Proofs.Ytjppoejkfpeicaa
open Go.RowKit

theorem info_i6 : (Try.prog.info? 110).map (·.size) = some 6 := by kernel_rfl
/-- Where the cells of block b stand. -/
def posL (b : Nat) : List Int := (List.range 4).map fun m => ((pos b m : Nat) : Int)
theorem posL_length (b : Nat) : (posL b).length = 4 := by simp [posL]
theorem posL_at (b : Nat) : posL b = [2 * ((b : Int) % 3) + 12 * ((b : Int) / 3), 2 * ((b : Int) % 3) + 12 * ((b : Int) / 3) + 1, 2 * ((b : Int) % 3) + 12 * ((b : Int) / 3) + 6, 2 * ((b : Int) % 3) + 12 * ((b : Int) / 3) + 6 + 1] := by
  apply List.ext_getElem
  · simp [posL]
  · intro i h1 h2
    simp only [posL, List.getElem_map, List.getElem_range, pos]
    have : i = 0 ∨ i = 1 ∨ i = 2 ∨ i = 3 := by simp [posL] at h1; omega
    rcases this with rfl | rfl | rfl | rfl <;> simp <;> omega
theorem posL_nth (b m : Nat) (h : m < 4) : nth (posL b) m = ((pos b m : Nat) : Int) := nth_map_range _ _ _ h
theorem blur_idx (xs : List Int) (b : Nat) : firstIdx (fun i => nth (cntL xs b 4) i == nth (cntL xs b 4) (bestUp (nth (cntL xs b 4)) 5)) 6 0 = blurF xs b := by
  rw [firstIdx_best (nth (cntL xs b 4)) 5]
  unfold blurF
  rw [bestUp_congr (nth (cntL xs b 4)) (cntB xs b 4) 5 (fun j hj => cntL_nth xs b 4 j (by omega))]

set_option maxRecDepth 20000 in
set_option maxHeartbeats 2000000 in
theorem blur_any (xs : List Int) (hx : xs.length = 24) (rx : Bytes xs) (hv : vf xs = true) (w : World) :
    Calls Try.prog 84 #[fl xs] w fun e w' => e = .returned (.agg (u8s (blurL xs)).toArray) ∧ Below w.heap.size w w' := by
  unfold fl
  have HZ := As.mk (part_zero (blurF xs) 6)
  have A0 : Blk (((w.alloc (.cells (u8s xs).toArray 38)).alloc (.cells #[.int .u8 0, .int .u8 0, .int .u8 0, .int .u8 0, .int .u8 0, .int .u8 0] 94)).alloc (.cells #[.int .u8 0, .int .u8 0, .int .u8 0, .int .u8 0, .int .u8 0, .int .u8 0] 94)) w.heap.size (u8s xs) 38 := ((Blk.new _ _ _).alloc _).alloc _
  have B0 : Blk (((w.alloc (.cells (u8s xs).toArray 38)).alloc (.cells #[.int .u8 0, .int .u8 0, .int .u8 0, .int .u8 0, .int .u8 0, .int .u8 0] 94)).alloc (.cells #[.int .u8 0, .int .u8 0, .int .u8 0, .int .u8 0, .int .u8 0, .int .u8 0] 94)) (w.heap.size + 1) (u8s zero6) 94 := (Blk.mk _ (u8s zero6) _ (by simp)).alloc _
  have B1 : Blk (((w.alloc (.cells (u8s xs).toArray 38)).alloc (.cells #[.int .u8 0, .int .u8 0, .int .u8 0, .int .u8 0, .int .u8 0, .int .u8 0] 94)).alloc (.cells #[.int .u8 0, .int .u8 0, .int .u8 0, .int .u8 0, .int .u8 0, .int .u8 0] 94)) (w.heap.size + 1 + 1) (u8s zero6) 94 := Blk.mk _ (u8s zero6) _ (by simp)
  have b0 : Below w.heap.size w (((w.alloc (.cells (u8s xs).toArray 38)).alloc (.cells #[.int .u8 0, .int .u8 0, .int .u8 0, .int .u8 0, .int .u8 0, .int .u8 0] 94)).alloc (.cells #[.int .u8 0, .int .u8 0, .int .u8 0, .int .u8 0, .int .u8 0, .int .u8 0] 94)) := bl_new (bl_new (bl_new (Below.refl _ _) _) _) _
  have D0 := A0.farRow (g := w.heap.size + 1 + 1) (by omega) (u8s zero6).toArray
  have C0 := B0.farRow (g := w.heap.size + 1 + 1) (by omega) (u8s zero6).toArray
  have C1 := B1.setRow (u8s zero6)
  have c0 := bl_setRow b0 (g := w.heap.size + 1 + 1) (by omega) (u8s zero6).toArray
  go_enter Try.func84, Try.ntmps84
  go_wp2_with (refine store_blk rfl 94 _ _ rfl _ rfl (ds := u8s zero6) rfl B1 info_b6 (by rw [u8s_length]; exact rfl) (by rw [u8s_length]; exact rfl) (u8s_one _) ?_)
  go_loopw [10] (fun i wr => ∃ k : Nat, k ≤ 6 ∧ i = .int .i64 k ∧ Blk wr w.heap.size (u8s xs) 38 ∧ Blk wr (w.heap.size + 1) (u8s zero6) 94 ∧ Blk wr (w.heap.size + 1 + 1) (u8s (part (blurF xs) 6 k)) 94 ∧ Below w.heap.size w wr) (fun i _ => 6 - (intOf i).toNat)
  case atStart => exact ⟨0, by omega, rfl, D0, C0, by rw [HZ.out]; exact C1, c0⟩
  case round =>
    obtain ⟨k, hk, rfl, g, g0, g1, hb⟩ := hrel
    clear A0 B0 B1 b0 D0 C0 C1 c0 HZ
    by_cases hlt : k < 6
    · have hlt' : (k : Int) < 6 := by omega
      have E2 : Blk (wr.alloc (.cells #[.int .i64 0, .int .i64 0, .int .i64 0, .int .i64 0, .int .i64 0, .int .i64 0] 110)) wr.heap.size (i64s zero6) 110 := Blk.mk _ (i64s zero6) _ rfl
      have Fx := (g.alloc (.cells #[.int .i64 0, .int .i64 0, .int .i64 0, .int .i64 0, .int .i64 0, .int .i64 0] 110)).farRow (Nat.ne_of_lt g.lt) (i64s zero6).toArray
      have F0 := (g0.alloc (.cells #[.int .i64 0, .int .i64 0, .int .i64 0, .int .i64 0, .int .i64 0, .int .i64 0] 110)).farRow (Nat.ne_of_lt g0.lt) (i64s zero6).toArray
      have F1 := (g1.alloc (.cells #[.int .i64 0, .int .i64 0, .int .i64 0, .int .i64 0, .int .i64 0, .int .i64 0] 110)).farRow (Nat.ne_of_lt g1.lt) (i64s zero6).toArray
      have F2 := E2.setRow (i64s zero6)
      have hs0 := g.lt
      have hs1 := g1.lt
      have hbs := hb.size
      have fb := bl_setRow (bl_new hb (.cells #[.int .i64 0, .int .i64 0, .int .i64 0, .int .i64 0, .int .i64 0, .int .i64 0] 110)) hbs (i64s zero6).toArray
      have hsz : ((wr.alloc (.cells #[.int .i64 0, .int .i64 0, .int .i64 0, .int .i64 0, .int .i64 0, .int .i64 0] 110)).setRow wr.heap.size (i64s zero6).toArray).heap.size = wr.heap.size + 1 := by simp
      go_wp2_with (refine store_blk rfl 110 _ _ rfl _ rfl (ds := i64s zero6) rfl E2 info_i6 (by rw [i64s_length]; exact rfl) (by rw [i64s_length]; exact rfl) (i64s_one _) ?_)
      have hP := posL_at k
      generalize 2 * ((k : Int) % 3) + 12 * ((k : Int) / 3) = F at *
      have W2 : Blk (((wr.alloc (.cells #[.int .i64 0, .int .i64 0, .int .i64 0, .int .i64 0, .int .i64 0, .int .i64 0] 110)).setRow wr.heap.size (i64s zero6).toArray).alloc (.cells #[.int .i64 F, .int .i64 (F + 1), .int .i64 (F + 6), .int .i64 (F + 6 + 1)] 3)) (wr.heap.size + 1) (i64s (posL k)) 3 := by
        rw [hP]; exact Blk.mk _ (i64s [F, F + 1, F + 6, F + 6 + 1]) _ hsz.symm
      replace Fx := Fx.alloc (.cells #[.int .i64 F, .int .i64 (F + 1), .int .i64 (F + 6), .int .i64 (F + 6 + 1)] 3)
      replace F0 := F0.alloc (.cells #[.int .i64 F, .int .i64 (F + 1), .int .i64 (F + 6), .int .i64 (F + 6 + 1)] 3)
      replace F1 := F1.alloc (.cells #[.int .i64 F, .int .i64 (F + 1), .int .i64 (F + 6), .int .i64 (F + 6 + 1)] 3)
      replace F2 := F2.alloc (.cells #[.int .i64 F, .int .i64 (F + 1), .int .i64 (F + 6), .int .i64 (F + 6 + 1)] 3)
      replace fb := bl_new fb (.cells #[.int .i64 F, .int .i64 (F + 1), .int .i64 (F + 6), .int .i64 (F + 6 + 1)] 3)
      generalize ((wr.alloc (.cells #[.int .i64 0, .int .i64 0, .int .i64 0, .int .i64 0, .int .i64 0, .int .i64 0] 110)).setRow wr.heap.size (i64s zero6).toArray).alloc (.cells #[.int .i64 F, .int .i64 (F + 1), .int .i64 (F + 6), .int .i64 (F + 6 + 1)] 3) = W at *
      generalize wr.heap.size = B at *
      clear E2 g g0 g1 hb hP hsz
      go_loopw [31] (fun i wr => ∃ m : Nat, m ≤ 4 ∧ i = .int .i64 m ∧ Blk wr w.heap.size (u8s xs) 38 ∧ Blk wr (w.heap.size + 1) (u8s zero6) 94 ∧ Blk wr (w.heap.size + 1 + 1) (u8s (part (blurF xs) 6 k)) 94 ∧ Blk wr B (i64s (cntL xs k m)) 110 ∧ Blk wr (B + 1) (i64s (posL k)) 3 ∧ Below w.heap.size w wr) (fun i _ => 4 - (intOf i).toNat)
      case atStart => exact ⟨0, by omega, rfl, Fx, F0, F1, F2, W2, fb⟩
      case round =>
        obtain ⟨m, hm, rfl, g, g0, g1, g2, g3, hb⟩ := hrel
        clear Fx F0 F1 F2 W2 fb
        by_cases hlt2 : m < 4
        · have hlt2' : (m : Int) < 4 := by omega
          have hP24 := pos_lt k m hlt hlt2
          have n1 := (rx.nth (pos k m)).1
          have n2 : nth xs (pos k m) ≤ 5 := vf_nth hv (pos k m) (by omega)
          obtain ⟨c, hc⟩ := Int.eq_ofNat_of_zero_le n1
          have hc6 : c < 6 := by omega
          have hbd := cntB_bd xs k m c
          have hbd1 := hbd.1
          have hbd2 : cntB xs k m c ≤ 4 := by have := hbd.2; omega
          have hst := As.mk (cntL_step xs k m c hc)
          have cp : wr.cell? ⟨B + 1, m, none⟩ = some (.int .i64 ((pos k m : Nat) : Int)) := by rw [g3.at, i64s_get _ m (by rw [posL_length]; exact hlt2), posL_nth k m hlt2]
          have c0 : wr.cell? ⟨w.heap.size, pos k m, none⟩ = some (.int .u8 c) := by rw [g.at, u8s_get xs _ (by omega), hc]
          have c2 : wr.cell? ⟨B, c, none⟩ = some (.int .i64 (cntB xs k m c)) := by rw [g2.at, i64s_get _ c (by rw [cntL_length]; exact hc6), cntL_nth xs k m c hc6]
          have f2 := g2.frozen c
          clear hbd n1 n2 hc
          generalize pos k m = PP at *
          generalize cntB xs k m c = cn at *
          have hc6' : (c : Int) < 6 := by omega
          have hp6' : (PP : Int) < 24 := by omega
          go_wp2
          go_roundw
          case rel => exact ⟨m + 1, by omega, by go_num, g.far (by simp; omega) _, g0.far (by simp; omega) _, g1.far (by simp; omega) _, by have := g2.set c (.int .i64 (cn + 1)); rw [i64s_set, hst.out] at this; exact this, g3.far (by simp) _, hb.setCell (by simp; omega) _⟩
          case measure => simp [intOf]; omega
        · obtain rfl : m = 4 := by omega
          have hbf := blurF_bd xs k
          have n1 := hbf.1; have n2 := hbf.2
          obtain ⟨v2, c2⟩ := g1.some k (by rw [u8s_length, part_length]; exact hlt)
          have f2 := g1.frozen k
          have hps := As.mk (part_set (blurF xs) 6 k)
          have kI := blur_idx xs k
          have kM := fun W h => Max_int (cntL xs k 4) (by simp [cntL]) (by simp [cntL]) B 0 6 W h
          have kX := fun W h => Index_int (cntL xs k 4) (nth (cntL xs k 4) (bestUp (nth (cntL xs k 4)) 5)) (by simp [cntL]) B 0 6 W h
          have hR := g2.drew.range
          rw [cntL_length] at kM kX
          rw [kI] at kX
          simp only [Nat.reduceSub] at kM
          generalize nth (cntL xs k 4) (bestUp (nth (cntL xs k 4)) 5) = mx at *
          generalize blurF xs k = bf at *
          go_wp2_with (fail)
          have e1 : IntKind.u8.wrap bf = bf := IntWalk.u8_in _ (by omega)
          refine wp_region_still_tail 7 (by kernel_rfl) (by kernel_rfl) ?_
          simp only [List.take_succ_cons, List.take_zero, List.drop_succ_cons, List.drop_zero]
          repeat still_step
          still_call ((kM _ hR).mono fun e w' h => ⟨h.1, h.2.symm⟩)
          repeat still_step
          still_call ((kX _ hR).mono fun e w' h => ⟨h.1, h.2.symm⟩)
          repeat still_step
          refine wpStill_nil ?_
          clear e1
          go_wp2
          go_roundw
          case rel => exact ⟨k + 1, by omega, by go_num, (g.far (by simp; omega) _).drew, (g0.far (by simp) _).drew, by have := (g1.set k (.int .u8 bf)).drew; rw [u8s_set, hps.out] at this; exact this, (hb.setCell (by simp; omega) _).drew⟩
          case measure => simp [intOf]; omega
    · obtain rfl : k = 6 := by omega
      rw [part_full] at g1
      have hl := blurL_length xs
      change Blk wr (w.heap.size + 1 + 1) (u8s (blurL xs)) _ at g1
      go_wp2_with (first | (refine load_blk rfl 94 _ rfl _ rfl g1 Try.underlying94 rfl info_b6 (by rw [u8s_length]; exact hl) ?_) | (refine store_blk rfl 94 _ _ rfl _ rfl (ds := u8s (blurL xs)) rfl g0 info_b6 (by rw [u8s_length]; exact hl) (by rw [u8s_length]; exact zero6_length) (u8s_one _) ?_))
      refine ret_blk rfl _ rfl (g0.setRow _) Try.underlying94 rfl info_b6 (by rw [u8s_length]; exact hl) rfl ⟨rfl, bl_setRow hb (by omega) _⟩
end Go.Proofs.Ytjppoejkfpeicaa
