/- Contracts: spec.l01Blur. -/
import Derived.Test.YtjppoejkfpeicaaBm
import Derived.Test.YtjppoejkfpeicaaF14
import Derived.Test.YtjppoejkfpeicaaF11
set_option linter.unusedVariables false
namespace Go.Proofs.Ytjppoejkfpeicaa
open Go.RowKit

theorem info_b6 : (Try.prog.info? 94).map (·.size) = some 6 := by kernel_rfl
theorem zero6_length : zero6.length = 6 := rfl

set_option maxRecDepth 20000 in
set_option maxHeartbeats 2000000 in
theorem l01Blur_any (xs : List Int) (hx : xs.length = 24) (rx : Bytes xs) (hv : vf xs = true) (b o : Nat) (w : World) (hr : w.rangeAt b o (u8s xs)) :
    Calls Try.prog 96 #[.pointer (some ⟨b, o, none⟩)] w fun e w' => e = .returned (.agg (u8s (blurL xs)).toArray) ∧ Below w.heap.size w w' := by
  have HZ := As.mk (part_zero (blurF xs) 6)
  have B0 : Blk ((w.alloc (.cells #[.int .u8 0, .int .u8 0, .int .u8 0, .int .u8 0, .int .u8 0, .int .u8 0] 94)).alloc (.cells #[.int .u8 0, .int .u8 0, .int .u8 0, .int .u8 0, .int .u8 0, .int .u8 0] 94)) w.heap.size (u8s zero6) 94 := (Blk.mk w (u8s zero6) _ rfl).alloc _
  have B1 : Blk ((w.alloc (.cells #[.int .u8 0, .int .u8 0, .int .u8 0, .int .u8 0, .int .u8 0, .int .u8 0] 94)).alloc (.cells #[.int .u8 0, .int .u8 0, .int .u8 0, .int .u8 0, .int .u8 0, .int .u8 0] 94)) (w.heap.size + 1) (u8s zero6) 94 := Blk.mk _ (u8s zero6) _ (by simp)
  have b0 : Below w.heap.size w ((w.alloc (.cells #[.int .u8 0, .int .u8 0, .int .u8 0, .int .u8 0, .int .u8 0, .int .u8 0] 94)).alloc (.cells #[.int .u8 0, .int .u8 0, .int .u8 0, .int .u8 0, .int .u8 0, .int .u8 0] 94)) := bl_new (bl_new (Below.refl _ _) _) _
  have C0 := B0.farRow (g := w.heap.size + 1) (by omega) (u8s zero6).toArray
  have C1 := B1.setRow (u8s zero6)
  have c0 := bl_setRow b0 (g := w.heap.size + 1) (by omega) (u8s zero6).toArray
  go_enter Try.func96, Try.ntmps96
  go_wp2_with (refine store_blk rfl 94 _ _ rfl _ rfl (ds := u8s zero6) rfl B1 info_b6 (by rw [u8s_length]; exact rfl) (by rw [u8s_length]; exact rfl) (u8s_one _) ?_)
  go_loopw [4] (fun i wr => ∃ k : Nat, k ≤ 6 ∧ i = .int .i64 k ∧ Blk wr w.heap.size (u8s zero6) 94 ∧ Blk wr (w.heap.size + 1) (u8s (part (blurF xs) 6 k)) 94 ∧ Below w.heap.size w wr) (fun i _ => 6 - (intOf i).toNat)
  case atStart => exact ⟨0, by omega, rfl, C0, by rw [HZ.out]; exact C1, c0⟩
  case round =>
    obtain ⟨k, hk, rfl, g0, g1, hb⟩ := hrel
    clear B0 B1 b0 C0 C1 c0 HZ
    by_cases hlt : k < 6
    · have hlt' : (k : Int) < 6 := by omega
      have E2 : Blk (wr.alloc (.cells #[.int .i64 0, .int .i64 0, .int .i64 0, .int .i64 0, .int .i64 0, .int .i64 0] 44)) wr.heap.size (i64s zero6) 44 := Blk.mk _ (i64s zero6) _ rfl
      have F0 := (g0.alloc (.cells #[.int .i64 0, .int .i64 0, .int .i64 0, .int .i64 0, .int .i64 0, .int .i64 0] 44)).farRow (Nat.ne_of_lt g0.lt) (i64s zero6).toArray
      have F1 := (g1.alloc (.cells #[.int .i64 0, .int .i64 0, .int .i64 0, .int .i64 0, .int .i64 0, .int .i64 0] 44)).farRow (Nat.ne_of_lt g1.lt) (i64s zero6).toArray
      have F2 := E2.setRow (i64s zero6)
      have hs0 := g0.lt
      have hs1 := g1.lt
      have hbs := hb.size
      have fb := bl_setRow (bl_new hb (.cells #[.int .i64 0, .int .i64 0, .int .i64 0, .int .i64 0, .int .i64 0, .int .i64 0] 44)) hbs (i64s zero6).toArray
      go_wp2_with (refine store_blk rfl 44 _ _ rfl _ rfl (ds := i64s zero6) rfl E2 info_6 (by rw [i64s_length]; exact rfl) (by rw [i64s_length]; exact rfl) (i64s_one _) ?_)
      generalize (wr.alloc (.cells #[.int .i64 0, .int .i64 0, .int .i64 0, .int .i64 0, .int .i64 0, .int .i64 0] 44)).setRow wr.heap.size (i64s zero6).toArray = W at *
      generalize hB : wr.heap.size = B at *
      clear E2 g0 g1 hb
      go_loopw [6] (fun i wr => ∃ m : Nat, m ≤ 4 ∧ i = .int .i64 m ∧ Blk wr w.heap.size (u8s zero6) 94 ∧ Blk wr (w.heap.size + 1) (u8s (part (blurF xs) 6 k)) 94 ∧ Blk wr B (i64s (cntL xs k m)) 44 ∧ Below w.heap.size w wr) (fun i _ => 4 - (intOf i).toNat)
      case atStart => exact ⟨0, by omega, rfl, F0, F1, F2, fb⟩
      case round =>
        obtain ⟨m, hm, rfl, g0, g1, g2, hb⟩ := hrel
        clear F0 F1 F2 fb
        by_cases hlt2 : m < 4
        · have hlt2' : (m : Int) < 4 := by omega
          have hP : pos k m = 2 * (k % 3) + 12 * (k / 3) + m % 2 + 6 * (m / 2) := rfl
          have hP24 := pos_lt k m hlt hlt2
          have n1 := (rx.nth (pos k m)).1
          have n2 : nth xs (pos k m) ≤ 5 := vf_nth hv (pos k m) (by omega)
          obtain ⟨c, hc⟩ := Int.eq_ofNat_of_zero_le n1
          have hc6 : c < 6 := by omega
          have hbd := cntB_bd xs k m c
          have hbd1 := hbd.1
          have hbd2 : cntB xs k m c ≤ 4 := by have := hbd.2; omega
          have hst := As.mk (cntL_step xs k m c hc)
          have c0 := hr (pos k m) _ (u8s_get xs _ (by omega))
          have c0' := (hb.cell (World.block_lt_of_cell? w _ c0)).trans c0
          rw [hc] at c0'
          have c2 : wr.cell? ⟨B, c, none⟩ = some (.int .i64 (cntB xs k m c)) := by rw [g2.at, i64s_get _ c (by rw [cntL_length]; exact hc6), cntL_nth xs k m c hc6]
          have f2 := g2.frozen c
          clear c0 hbd n1 n2 hc
          generalize hPP : pos k m = PP at *
          generalize hxx : k % 3 = x at *
          generalize hyy : k / 3 = y at *
          generalize hpp : m % 2 = p at *
          generalize hqq : m / 2 = q at *
          generalize cntB xs k m c = cn at *
          have b1 : x ≤ 2 := by omega
          have b2 : y ≤ 1 := by omega
          have b3 : p ≤ 1 := by omega
          have b4 : q ≤ 1 := by omega
          have hc6' : (c : Int) < 6 := by omega
          have i1 : (0 : Int) ≤ (x : Int) * 2 + p ∧ (x : Int) * 2 + p ≤ 5 := by omega
          have i2 : (0 : Int) ≤ (y : Int) * 2 + q ∧ (y : Int) * 2 + q ≤ 3 := by omega
          have i3 : (0 : Int) ≤ (x : Int) * 2 + p + 6 * ((y : Int) * 2 + q) := by omega
          have i4 : (x : Int) * 2 + p + 6 * ((y : Int) * 2 + q) < 24 := by omega
          go_wp2_with (fail)
          have e1 : ((k : Int)).tmod 3 = (x : Int) := by rw [Int.tmod_eq_emod_of_nonneg (by omega)]; omega
          have e3 : ((m : Int)).tmod 2 = (p : Int) := by rw [Int.tmod_eq_emod_of_nonneg (by omega)]; omega
          have e5 : ((k : Int)) / 3 = (y : Int) := by omega
          have e8 : ((m : Int)) / 2 = (q : Int) := by omega
          have e2 : IntKind.i64.wrap ((x : Int) * 2) = (x : Int) * 2 := IntWalk.i64_in _ (by omega)
          have e4 : IntKind.i64.wrap ((x : Int) * 2 + p) = (x : Int) * 2 + p := IntWalk.i64_in _ (by omega)
          have e6 : IntKind.i64.wrap (y : Int) = (y : Int) := IntWalk.i64_in _ (by omega)
          have e7 : IntKind.i64.wrap ((y : Int) * 2) = (y : Int) * 2 := IntWalk.i64_in _ (by omega)
          have e9 : IntKind.i64.wrap (q : Int) = (q : Int) := IntWalk.i64_in _ (by omega)
          have e10 : IntKind.i64.wrap ((y : Int) * 2 + q) = (y : Int) * 2 + q := IntWalk.i64_in _ (by omega)
          have e11 : ((x : Int) * 2 + p + 6 * ((y : Int) * 2 + q)).toNat = PP := by omega
          have e12 : IntKind.i64.wrap (cn + 1) = cn + 1 := IntWalk.i64_in _ (by omega)
          clear hP hPP
          refine wp_region_still_tail 21 (by kernel_rfl) (by kernel_rfl) ?_
          simp only [List.take_succ_cons, List.take_zero, List.drop_succ_cons, List.drop_zero]
          repeat still_step
          still_call ((l01Index_any _ _ i1 i2 _).mono fun e w' h => ⟨h.1, h.2.symm⟩)
          repeat still_step
          refine wpStill_nil ?_
          clear e1 e2 e3 e4 e5 e6 e7 e8 e9 e10 e11 e12
          go_wp2
          go_roundw
          case rel => exact ⟨m + 1, by omega, by go_num, (g0.far (by simp; omega) _).drew, (g1.far (by simp; omega) _).drew, by have := (g2.set c (.int .i64 (cn + 1))).drew; rw [i64s_set, hst.out] at this; exact this, (hb.setCell (by simp; omega) _).drew⟩
          case measure => simp [intOf]; omega
        · obtain rfl : m = 4 := by omega
          have HF := As.mk (show blurF xs k = (bestUp (cntB xs k 4) 5 : Nat) from rfl)
          have hbf := blurF_bd xs k
          go_wp2
          go_loopw [7, 8] (fun bst i wr' => ∃ j q : Nat, j ≤ 5 ∧ bst = .int .i64 (bestUp (cntB xs k 4) j : Nat) ∧ i = .int .i64 ((j + 1 : Nat) : Int) ∧ wr' = wr.drewN q) (fun _ i _ => 6 - (intOf i).toNat)
          case atStart => exact ⟨0, 0, by omega, rfl, rfl, rfl⟩
          case round =>
            obtain ⟨j, q, hj, rfl, rfl, rfl⟩ := hrel
            have hle := bestUp_le (cntB xs k 4) j
            by_cases hlt3 : j < 5
            · have hlt3' : ((j + 1 : Nat) : Int) < 6 := by omega
              have c1 : wr.cell? ⟨B, j + 1, none⟩ = some (.int .i64 (cntB xs k 4 (j + 1))) := by rw [g2.at, i64s_get _ _ (by rw [cntL_length]; omega), cntL_nth xs k 4 _ (by omega)]
              have c2 : wr.cell? ⟨B, bestUp (cntB xs k 4) j, none⟩ = some (.int .i64 (cntB xs k 4 (bestUp (cntB xs k 4) j))) := by rw [g2.at, i64s_get _ _ (by rw [cntL_length]; omega), cntL_nth xs k 4 _ (by omega)]
              have hS := As.mk (show bestUp (cntB xs k 4) (j + 1) = if cntB xs k 4 (bestUp (cntB xs k 4) j) < cntB xs k 4 (j + 1) then j + 1 else bestUp (cntB xs k 4) j from rfl)
              have hb6 : ((bestUp (cntB xs k 4) j : Nat) : Int) < 6 := by omega
              generalize bestUp (cntB xs k 4) j = u at *
              generalize cntB xs k 4 u = fu at *
              generalize cntB xs k 4 (j + 1) = fj at *
              go_wp2
              go_quiet (fail)
              by_cases hlt4 : fu < fj
              · go_wp2
                go_roundw
                case rel => exact ⟨j + 1, _, by omega, by rw [hS.out, if_pos hlt4], by go_num, rfl⟩
                case measure => simp [intOf]; omega
              · go_wp2
                go_roundw
                case rel => exact ⟨j + 1, _, by omega, by rw [hS.out, if_neg hlt4], by go_num, rfl⟩
                case measure => simp [intOf]; omega
            · obtain rfl : j = 5 := by omega
              have hn1 := hbf.1
              have hn2 := hbf.2
              rw [HF.out] at hn1 hn2
              obtain ⟨v2, c2⟩ := g1.some k (by rw [u8s_length, part_length]; exact hlt)
              have f2 := g1.frozen k
              have hps := As.mk (part_set (blurF xs) 6 k)
              rw [HF.out] at hps
              generalize bestUp (cntB xs k 4) 5 = u at *
              go_wp2
              go_roundw
              case rel => exact ⟨k + 1, by omega, by go_num, (g0.drewN q).far (by simp) _, by have := (g1.drewN q).set k (.int .u8 (u : Nat)); rw [u8s_set, hps.out] at this; exact this, (bl_drewN hb q).setCell (by simp) _⟩
              case measure => simp [intOf]; omega
    · obtain rfl : k = 6 := by omega
      rw [part_full] at g1
      have hl := blurL_length xs
      change Blk wr (w.heap.size + 1) (u8s (blurL xs)) _ at g1
      go_wp2_with (first | (refine load_blk rfl 94 _ rfl _ rfl g1 Try.underlying94 rfl info_b6 (by rw [u8s_length]; exact hl) ?_) | (refine store_blk rfl 94 _ _ rfl _ rfl (ds := u8s (blurL xs)) rfl g0 info_b6 (by rw [u8s_length]; exact hl) (by rw [u8s_length]; exact zero6_length) (u8s_one _) ?_))
      refine ret_blk rfl _ rfl (g0.setRow _) Try.underlying94 rfl info_b6 (by rw [u8s_length]; exact hl) rfl ⟨rfl, bl_setRow hb (by omega) _⟩
end Go.Proofs.Ytjppoejkfpeicaa
