/- Contracts: NearestPair, both sides. -/
import Derived.Test.YtbekebjmnccbkaaG22
set_option linter.unusedVariables false
set_option linter.unusedSimpArgs false
namespace Go.Proofs.Ytbekebjmnccbkaa
open Go.RowKit

theorem ask_zero (fs : List (List Int)) : askC fs 0 = setC fs := by
  unfold askC
  by_cases h : setC fs = 0
  · rw [if_pos h, h]; rfl
  · rw [if_neg h]
/-- The nearest pair of a set. -/
def nearR (fs : List (List Int)) : Int × Int × Int := if setC fs = 0 ∧ 2 ≤ fs.length then allN (farP fs) fs.length none3 fs.length else (0, 0, 0)
def nearC (fs : List (List Int)) : Int := if setC fs = 0 then (if 2 ≤ fs.length then 0 else 6) else setC fs
theorem ret_4 {a b c d : Int} {e : Ending} (h : e = .returned (.tuple #[.int .i64 a, .int .i64 b, .int .i64 c, .int .i64 d])) : e = .returned (.tuple #[.int .i64 a, .int .i64 b, .int .i64 c, .int .i64 d]) := h

set_option maxHeartbeats 1000000 in
theorem NearestPair_any (fs : List (List Int)) (A : Option Addr) (c : Nat) (w : World) (hs : SlF w A fs) :
    Calls Try.prog 46 #[.slice A fs.length c] w fun e w' => e = .returned (.tuple #[.int .i64 (nearR fs).1, .int .i64 (nearR fs).2.1, .int .i64 (nearR fs).2.2, .int .i64 (nearC fs)]) ∧ Below w.heap.size w w' := by
  have V0 : Blk (w.alloc (.cells #[.slice A fs.length c] 54)) w.heap.size [.slice A fs.length c] 54 := Blk.mk _ [_] _ rfl
  have b0 := bl_new (Below.refl _ w) (.cells #[.slice A fs.length c] 54)
  have hs1 := hs.kept b0
  have k1 := setCode_any fs A c 0 (w.alloc (.cells #[.slice A fs.length c] 54)) hs1
  rw [ask_zero] at k1
  have hbig := hs.1
  by_cases h0 : setC fs = 0
  · obtain ⟨hv, h40⟩ := ask_ok (fs := fs) (n := 0) (by rw [ask_zero]; exact h0)
    have hR : nearR fs = if 2 ≤ fs.length then allN (farP fs) fs.length none3 fs.length else (0, 0, 0) := by unfold nearR; simp [h0]
    have hC : nearC fs = if 2 ≤ fs.length then 0 else 6 := by unfold nearC; rw [if_pos h0]
    have hok := near_ok (farP fs) fs.length (fun x y _ _ => (farP_bd fs x y).1)
    have kn := fun (W : World) (hW : SlF W A fs) (hC : W.cell? ⟨w.heap.size, 0, none⟩ = some (.slice A fs.length c)) => nearest_any 78 #[.pointer (some ⟨w.heap.size, 0, none⟩)] (enters Try.func78 (by kernel_rfl) rfl) fs.length (by omega) (farP fs) W
      (fun W' i k hik hk hb => NearestPair1_any fs hv h40 A c w.heap.size i k hik hk W' (hW.kept hb) ((hb.cell (World.block_lt_of_cell? W _ hC)).trans hC))
    rw [h0] at k1
    rw [hok] at kn
    by_cases h2 : 2 ≤ fs.length
    · rw [if_pos h2] at hR hC
      rw [show decide (2 ≤ fs.length) = true by simp [h2]] at kn
      rw [hR, hC]
      clear hR hC h0 hok
      generalize (allN (farP fs) fs.length none3 fs.length).1 = ra at *
      generalize (allN (farP fs) fs.length none3 fs.length).2.1 = rb at *
      generalize (allN (farP fs) fs.length none3 fs.length).2.2 = rl at *
      go_enter Try.func46, Try.ntmps46
      have c0 := V0.at 0
      simp only [List.getElem?_cons_zero] at c0
      go_wp2_with (fail)
      refine (k1).mono ?_; rintro e w1 ⟨rfl, hb1⟩
      have V1 := V0.kept hb1
      have c1 := V1.at 0
      simp only [List.getElem?_cons_zero] at c1
      go_wp2_with (fail)
      refine (kn _ (hs1.kept hb1) c1).mono ?_; rintro e w2 ⟨rfl, hb2⟩
      go_wp2_with (fail)
      refine bodyPost_ret (results_tmp4 rfl _ _ _) rfl ?_
      exact ⟨rfl, bl_call (bl_call b0 hb1) hb2⟩
    · rw [if_neg h2] at hR hC
      rw [show decide (2 ≤ fs.length) = false by simp; omega] at kn
      rw [hR, hC]
      clear hR hC h0 hok
      generalize (allN (farP fs) fs.length none3 fs.length).1 = ra at *
      generalize (allN (farP fs) fs.length none3 fs.length).2.1 = rb at *
      generalize (allN (farP fs) fs.length none3 fs.length).2.2 = rl at *
      go_enter Try.func46, Try.ntmps46
      have c0 := V0.at 0
      simp only [List.getElem?_cons_zero] at c0
      go_wp2_with (fail)
      refine (k1).mono ?_; rintro e w1 ⟨rfl, hb1⟩
      have V1 := V0.kept hb1
      have c1 := V1.at 0
      simp only [List.getElem?_cons_zero] at c1
      go_wp2_with (fail)
      refine (kn _ (hs1.kept hb1) c1).mono ?_; rintro e w2 ⟨rfl, hb2⟩
      go_wp2_with (fail)
      refine bodyPost_ret (results_tmp4 rfl _ _ _) rfl ?_
      exact ⟨rfl, bl_call (bl_call b0 hb1) hb2⟩
  · have hR : nearR fs = (0, 0, 0) := by unfold nearR; simp [h0]
    have hC : nearC fs = setC fs := by unfold nearC; rw [if_neg h0]
    rw [hR, hC]
    generalize setC fs = cc at *
    have h0' : (cc != 0) = true := by simp [h0]
    clear h0 hR hC
    go_enter Try.func46, Try.ntmps46
    have c0 := V0.at 0
    simp only [List.getElem?_cons_zero] at c0
    go_wp2_with (fail)
    refine (k1).mono ?_; rintro e w1 ⟨rfl, hb1⟩
    go_wp2_with (fail)
    refine bodyPost_ret (results_tmp4 rfl _ _ _) rfl ?_
    exact ⟨rfl, bl_call b0 hb1⟩

set_option maxRecDepth 100000 in
set_option maxHeartbeats 2000000 in
theorem sNearestPair_any (fs : List (List Int)) (A : Option Addr) (c : Nat) (w : World) (hs : SlF w A fs) :
    Calls Try.prog 45 #[.slice A fs.length c] w fun e w' => e = .returned (.tuple #[.int .i64 (nearR fs).1, .int .i64 (nearR fs).2.1, .int .i64 (nearR fs).2.2, .int .i64 (nearC fs)]) ∧ Below w.heap.size w w' := by
  have k1 := l01Set_any fs A c w hs
  have hbig := hs.1
  by_cases h0 : setC fs = 0
  · obtain ⟨hv, h40⟩ := ask_ok (fs := fs) (n := 0) (by rw [ask_zero]; exact h0)
    have hR : nearR fs = if 2 ≤ fs.length then allN (farP fs) fs.length none3 fs.length else (0, 0, 0) := by unfold nearR; simp [h0]
    have hC : nearC fs = if 2 ≤ fs.length then 0 else 6 := by unfold nearC; rw [if_pos h0]
    rw [h0] at k1
    by_cases h2 : 2 ≤ fs.length
    · rw [if_pos h2] at hR hC
      have hd : ∀ x y, x < y → y < fs.length → 0 ≤ farP fs x y := fun x y _ _ => (farP_bd fs x y).1
      obtain ⟨m1, hm1⟩ : ∃ m1, fs.length = m1 + 1 := ⟨fs.length - 1, by omega⟩
      have hfirst := all_first (farP fs) fs.length (farP_bd fs 0 1).1 h2 m1
      rw [← hm1] at hfirst
      rw [hR, hC, hfirst]
      clear hR hC h0 hfirst hm1
      have hpos := all_pos (farP fs) fs.length hd (0, 1, farP fs 0 1) (farP_bd fs 0 1).1
      generalize hm : fs.length = m at *
      have HM := As.mk hm
      clear hm
      have h2' : (2 : Int) ≤ (m : Int) := by omega
      have HP := As.mk hpos
      have HD := As.mk hd
      clear hpos hd
      go_enter Try.func45, Try.ntmps45
      go_wp2_with (go_at_call 77; refine (k1).mono ?_; rintro e w' ⟨rfl, rfl⟩)
      obtain ⟨b, o, rfl, hr0⟩ := hs.2.2.2 (by rw [HM.out]; omega)
      have h0m : 0 < fs.length := by rw [HM.out]; omega
      have h1m : 1 < fs.length := by rw [HM.out]; omega
      have hz0 : (0 : Int) < (m : Int) := by omega
      have hz1 : (1 : Int) < (m : Int) := by omega
      have key := fun W h h' => l01Far_any (nthF fs 0) (nthF fs 1) (hs.len 0 h0m) (hs.len 1 h1m) (hs.bytes 0 h0m) (hs.bytes 1 h1m) (vfs_at hv 0 h0m) (vfs_at hv 1 h1m) b o b (o + 24) W h h'
      have S0 : Below w.heap.size w w ∧ w.rangeAt b o (u8s (nthF fs 0)) ∧ w.rangeAt b (o + 24) (u8s (nthF fs 1)) := ⟨Below.refl _ _, by have := hr0 0 _ (nthF_get? fs 0 h0m); simpa using this, by have := hr0 1 _ (nthF_get? fs 1 h1m); simpa using this⟩
      have HF0 := As.mk (show farP fs 0 1 = diffs (blurL (nthF fs 0)) (blurL (nthF fs 1)) 6 from rfl)
      generalize diffs (blurL (nthF fs 0)) (blurL (nthF fs 1)) 6 = d0 at *
      clear hr0
      refine wp_region_held_drew (S := (fun W => Below w.heap.size w W ∧ W.rangeAt b o (u8s (nthF fs 0)) ∧ W.rangeAt b (o + 24) (u8s (nthF fs 1)))) (by kernel_rfl) ⟨S0.1.drew, S0.2.1, S0.2.2⟩ (fun hHeld => ?_)
      (refine hTake 0 21 (v := .slice (some ⟨b, o, none⟩) m c) rfl rfl (by kernel_rfl) (by kernel_rfl) (by kernel_rfl) (fun _ _ _ h => h) (Or.inl ⟨by rfl, fun W _ => rfl⟩) hHeld ?_; simp only [List.set_cons_zero, List.set_cons_succ])
      (refine hTake 2 23 (v := .slice (some ⟨b, o, none⟩) m c) rfl rfl (by kernel_rfl) (by kernel_rfl) (by kernel_rfl) (fun _ _ _ h => h) (Or.inl ⟨by rfl, fun W _ => rfl⟩) hHeld ?_; simp only [List.set_cons_zero, List.set_cons_succ])
      have hm0 : ¬ m = 0 := by omega
      (refine hTake 1 22 (v := .pointer (some ⟨b, o, none⟩)) rfl rfl (by kernel_rfl) (by kernel_rfl) (by kernel_rfl) (fun _ _ _ h => h) (Or.inl ⟨by rfl, fun W h => by (clear h; go_simp; try exact fun h => absurd h hm0)⟩) hHeld ?_; simp only [List.set_cons_zero, List.set_cons_succ])
      (refine hTake 3 24 (v := .pointer (some ⟨b, o + 24, none⟩)) rfl rfl (by kernel_rfl) (by kernel_rfl) (by kernel_rfl) (fun _ _ _ h => h) (Or.inl ⟨by rfl, fun W _ => by go_simp⟩) hHeld ?_; simp only [List.set_cons_zero, List.set_cons_succ])
      refine hCall 4 25 69 rfl rfl (by kernel_rfl) (args := #[.pointer (some ⟨b, o, none⟩), .pointer (some ⟨b, o + 24, none⟩)]) (by rfl) (by go_simp) (.int .i64 d0) (key _ hHeld.2.1 hHeld.2.2) (fun wq hq => ⟨keepR hHeld hq, ?_⟩)
      simp only [List.set_cons_zero, List.set_cons_succ]
      replace hHeld := keepR hHeld hq
      (refine hTake 5 9 (v := .int .i64 d0) rfl rfl (by kernel_rfl) (by kernel_rfl) (by kernel_rfl) (fun _ _ _ h => h) (Or.inl ⟨by rfl, fun W _ => rfl⟩) hHeld ?_; simp only [List.set_cons_zero, List.set_cons_succ])
      refine wpAnyH_done (by kernel_rfl) ?_ _
      have hb0 := hHeld.1
      clear S0 key hHeld hq k1
      go_wp2
      go_loopw [7, 8, 9, 10] (fun va vb vl vi wr => ∃ i : Nat, i ≤ m ∧ vi = .int .i64 i ∧ va = .int .i64 (allN (farP fs) m (0, 1, farP fs 0 1) i).1 ∧ vb = .int .i64 (allN (farP fs) m (0, 1, farP fs 0 1) i).2.1 ∧ vl = .int .i64 (allN (farP fs) m (0, 1, farP fs 0 1) i).2.2 ∧ Below w.heap.size w wr) (fun _ _ _ vi _ => m - (intOf vi).toNat)
      case atStart => exact ⟨0, by omega, rfl, rfl, rfl, by rw [← HF0.out]; rfl, hb0⟩
      case round =>
        obtain ⟨i, hi, rfl, rfl, rfl, rfl, hb⟩ := hrel
        clear hb0
        by_cases hlt : i < m
        · have hlt' : (i : Int) < (m : Int) := by omega
          have hS := As.mk (show allN (farP fs) m (0, 1, farP fs 0 1) (i + 1) = rowN (farP fs) i (m - (i + 1)) (allN (farP fs) m (0, 1, farP fs 0 1) i) from rfl)
          have hs0 := As.mk (HP.out i hi)
          generalize allN (farP fs) m (0, 1, farP fs 0 1) i = s0 at *
          go_wp2
          go_loopw [7, 8, 9, 11] (fun va vb vl vk wr => ∃ j : Nat, i + 1 + j ≤ m ∧ vk = .int .i64 ((i + 1 + j : Nat) : Int) ∧ va = .int .i64 (rowN (farP fs) i j s0).1 ∧ vb = .int .i64 (rowN (farP fs) i j s0).2.1 ∧ vl = .int .i64 (rowN (farP fs) i j s0).2.2 ∧ Below w.heap.size w wr) (fun _ _ _ vk _ => m - (intOf vk).toNat)
          case atStart => exact ⟨0, by omega, by simp, rfl, rfl, rfl, hb⟩
          case round =>
            obtain ⟨j, hj, rfl, rfl, rfl, rfl, hb⟩ := hrel
            have hR := As.mk (show rowN (farP fs) i (j + 1) s0 = stepN (farP fs) i (i + 1 + j) (rowN (farP fs) i j s0) from rfl)
            by_cases hlt2 : i + 1 + j < m
            · have hpos := row_pos (farP fs) m i HD.out s0 hs0.out j hj
              have hT := As.mk (show stepN (farP fs) i (i + 1 + j) (rowN (farP fs) i j s0) = if (rowN (farP fs) i j s0).2.2 < 0 ∨ farP fs i (i + 1 + j) < (rowN (farP fs) i j s0).2.2 then ((i : Int), ((i + 1 + j : Nat) : Int), farP fs i (i + 1 + j)) else rowN (farP fs) i j s0 from rfl)
              generalize hk : i + 1 + j = k at *
              generalize rowN (farP fs) i j s0 = s at *
              have hlt3 : (k : Int) < (m : Int) := by omega
              have hsW := hs.kept hb
              have him : i < fs.length := by rw [HM.out]; omega
              have hkm : k < fs.length := by rw [HM.out]; omega
              obtain ⟨b', o', hbo, hr⟩ := hsW.2.2.2 (by omega)
              obtain ⟨rfl, rfl⟩ : b = b' ∧ o = o' := by cases hbo; exact ⟨rfl, rfl⟩
              have key := fun W h h' => l01Far_any (nthF fs i) (nthF fs k) (hs.len i him) (hs.len k hkm) (hs.bytes i him) (hs.bytes k hkm) (vfs_at hv i him) (vfs_at hv k hkm) b (o + i * 24) b (o + k * 24) W h h'
              have S0 : Below w.heap.size w wr ∧ wr.rangeAt b (o + i * 24) (u8s (nthF fs i)) ∧ wr.rangeAt b (o + k * 24) (u8s (nthF fs k)) := ⟨hb, hr i _ (nthF_get? fs i him), hr k _ (nthF_get? fs k hkm)⟩
              have HF : farP fs i k = diffs (blurL (nthF fs i)) (blurL (nthF fs k)) 6 := rfl
              rw [HF] at hT
              generalize diffs (blurL (nthF fs i)) (blurL (nthF fs k)) 6 = dd at *
              clear hr hsW hkm him hbo HF
              generalize nthF fs i = fi at *
              generalize nthF fs k = fk at *
              go_wp2_with (fail)
              refine wp_region_held_drew (S := (fun W => Below w.heap.size w W ∧ W.rangeAt b (o + i * 24) (u8s fi) ∧ W.rangeAt b (o + k * 24) (u8s fk))) (by kernel_rfl) ⟨S0.1.drew, S0.2.1, S0.2.2⟩ (fun hHeld => ?_)
              (refine hTake 0 40 (v := .slice (some ⟨b, o, none⟩) m c) rfl rfl (by kernel_rfl) (by kernel_rfl) (by kernel_rfl) (fun _ _ _ h => h) (Or.inl ⟨by rfl, fun W _ => rfl⟩) hHeld ?_; simp only [List.set_cons_zero, List.set_cons_succ])
              (refine hTake 1 41 (v := .int .i64 (i : Int)) rfl rfl (by kernel_rfl) (by kernel_rfl) (by kernel_rfl) (fun _ _ _ h => h) (Or.inl ⟨by rfl, fun W _ => rfl⟩) hHeld ?_; simp only [List.set_cons_zero, List.set_cons_succ])
              (refine hTake 3 43 (v := .slice (some ⟨b, o, none⟩) m c) rfl rfl (by kernel_rfl) (by kernel_rfl) (by kernel_rfl) (fun _ _ _ h => h) (Or.inl ⟨by rfl, fun W _ => rfl⟩) hHeld ?_; simp only [List.set_cons_zero, List.set_cons_succ])
              (refine hTake 4 44 (v := .int .i64 (k : Int)) rfl rfl (by kernel_rfl) (by kernel_rfl) (by kernel_rfl) (fun _ _ _ h => h) (Or.inl ⟨by rfl, fun W _ => rfl⟩) hHeld ?_; simp only [List.set_cons_zero, List.set_cons_succ])
              (refine hTake 2 42 (v := .pointer (some ⟨b, o + i * 24, none⟩)) rfl rfl (by kernel_rfl) (by kernel_rfl) (by kernel_rfl) (fun _ _ _ h => h) (Or.inl ⟨by rfl, fun W _ => by go_simp⟩) hHeld ?_; simp only [List.set_cons_zero, List.set_cons_succ])
              (refine hTake 5 45 (v := .pointer (some ⟨b, o + k * 24, none⟩)) rfl rfl (by kernel_rfl) (by kernel_rfl) (by kernel_rfl) (fun _ _ _ h => h) (Or.inl ⟨by rfl, fun W _ => by go_simp⟩) hHeld ?_; simp only [List.set_cons_zero, List.set_cons_succ])
              refine hCall 6 46 69 rfl rfl (by kernel_rfl) (args := #[.pointer (some ⟨b, o + i * 24, none⟩), .pointer (some ⟨b, o + k * 24, none⟩)]) (by rfl) (by go_simp) (.int .i64 dd) (key _ hHeld.2.1 hHeld.2.2) (fun wq hq => ⟨keepR hHeld hq, ?_⟩)
              simp only [List.set_cons_zero, List.set_cons_succ]
              replace hHeld := keepR hHeld hq
              (refine hTake 7 12 (v := .int .i64 dd) rfl rfl (by kernel_rfl) (by kernel_rfl) (by kernel_rfl) (fun _ _ _ h => h) (Or.inl ⟨by rfl, fun W _ => rfl⟩) hHeld ?_; simp only [List.set_cons_zero, List.set_cons_succ])
              refine wpAnyH_done (by kernel_rfl) ?_ _
              have hb2 := hHeld.1
              clear hHeld hq key S0
              by_cases ht : dd < s.2.2
              · have hN : rowN (farP fs) i (j + 1) s0 = ((i : Int), ((k : Nat) : Int), dd) := by rw [hR.out, hT.out, if_pos (.inr ht)]
                go_wp2
                go_roundw
                case rel => exact ⟨j + 1, by omega, congrArg (Value.int IntKind.i64) (by omega), by rw [hN], by rw [hN], by rw [hN], hb2⟩
                case measure => simp [intOf]; omega
              · have hN : rowN (farP fs) i (j + 1) s0 = s := by rw [hR.out, hT.out, if_neg (by omega)]
                go_wp2
                go_roundw
                case rel => exact ⟨j + 1, by omega, congrArg (Value.int IntKind.i64) (by omega), by rw [hN], by rw [hN], by rw [hN], hb2⟩
                case measure => simp [intOf]; omega
            · have hj' : j = m - (i + 1) := by omega
              subst hj'
              rw [← hS.out]
              have e1 : ¬ ((i + 1 + (m - (i + 1)) : Nat) : Int) < (m : Int) := by omega
              go_wp2
              go_roundw
              case rel => exact ⟨i + 1, by omega, by go_num, rfl, rfl, rfl, hb⟩
              case measure => simp [intOf]; omega
        · obtain rfl : i = m := by omega
          go_wp2
          refine bodyPost_ret (results_tmp4 rfl _ _ _) rfl ?_
          exact ⟨rfl, hb⟩
    · rw [if_neg h2] at hR hC
      rw [hR, hC]
      clear hR hC h0
      have h2' : (fs.length : Int) < 2 := by omega
      go_enter Try.func45, Try.ntmps45
      go_wp2_with (go_at_call 77; refine (k1).mono ?_; rintro e w' ⟨rfl, rfl⟩)
      refine bodyPost_ret (results_tmp4 rfl _ _ _) rfl ?_
      exact ⟨rfl, Below.refl _ _⟩
  · have hR : nearR fs = (0, 0, 0) := by unfold nearR; simp [h0]
    have hC : nearC fs = setC fs := by unfold nearC; rw [if_neg h0]
    rw [hR, hC]
    generalize setC fs = cc at *
    have h0' : (cc != 0) = true := by simp [h0]
    clear h0 hR hC
    go_enter Try.func45, Try.ntmps45
    go_wp2_with (go_at_call 77; refine (k1).mono ?_; rintro e w' ⟨rfl, rfl⟩)
    refine bodyPost_ret (results_tmp4 rfl _ _ _) rfl ?_
    exact ⟨rfl, Below.refl _ _⟩
end Go.Proofs.Ytbekebjmnccbkaa
