/- Contracts: AreDistinct, both sides. -/
import Derived.Test.YtbekebjmnccbkaaG21
import Derived.Test.YtbekebjmnccbkaaNr
set_option linter.unusedVariables false
set_option linter.unusedSimpArgs false
namespace Go.Proofs.Ytbekebjmnccbkaa
open Go.RowKit

theorem farP_bd (fs : List (List Int)) (i k : Nat) : 0 ≤ farP fs i k ∧ farP fs i k ≤ 6 := diffs_bd _ _ 6
/-- What AreDistinct answers. -/
def distB (fs : List (List Int)) (n : Int) : Bool := decide (askC fs n = 0) && apart (farP fs) fs.length n
theorem ask_ok {fs : List (List Int)} {n : Int} (h : askC fs n = 0) : vfs fs = true ∧ fs.length ≤ 40 := by
  unfold askC setC at h
  cases h1 : vfs fs
  · rw [h1] at h; simp at h
  · refine ⟨rfl, ?_⟩
    rw [h1] at h
    by_cases h2 : 40 < fs.length
    · simp [h2] at h
    · omega
theorem keepR {w W W' : World} {b1 o1 b2 o2 : Nat} {c1 c2 : List Value} (h : Below w.heap.size w W ∧ W.rangeAt b1 o1 c1 ∧ W.rangeAt b2 o2 c2) (hb : Below W.heap.size W W') :
    Below w.heap.size w W' ∧ W'.rangeAt b1 o1 c1 ∧ W'.rangeAt b2 o2 c2 := ⟨bl_call h.1 hb, range_kept h.2.1 hb, range_kept h.2.2 hb⟩

set_option maxHeartbeats 1000000 in
theorem AreDistinct_any (fs : List (List Int)) (A : Option Addr) (c : Nat) (n : Int) (w : World) (hs : SlF w A fs) :
    Calls Try.prog 43 #[.slice A fs.length c, .int .i64 n] w fun e w' => e = .returned (.tuple #[.bool (distB fs n), .int .i64 (askC fs n)]) ∧ Below w.heap.size w w' := by
  have V0 : Blk (w.alloc (.cells #[.slice A fs.length c] 54)) w.heap.size [.slice A fs.length c] 54 := Blk.mk _ [_] _ rfl
  have b0 := bl_new (Below.refl _ w) (.cells #[.slice A fs.length c] 54)
  have hs1 := hs.kept b0
  have k1 := setCode_any fs A c n (w.alloc (.cells #[.slice A fs.length c] 54)) hs1
  have hbig := hs.1
  by_cases h0 : askC fs n = 0
  · obtain ⟨hv, h40⟩ := ask_ok h0
    have hD : distB fs n = apart (farP fs) fs.length n := by unfold distB; rw [h0]; simp
    have hA := near_apart (farP fs) fs.length n (fun x y _ _ => (farP_bd fs x y).1)
    have kn := fun (W : World) (hW : SlF W A fs) (hC : W.cell? ⟨w.heap.size, 0, none⟩ = some (.slice A fs.length c)) => nearest_any 76 #[.pointer (some ⟨w.heap.size, 0, none⟩)] (enters Try.func76 (by kernel_rfl) rfl) fs.length (by omega) (farP fs) W
      (fun W' i k hik hk hb => AreDistinct1_any fs hv h40 A c w.heap.size i k hik hk W' (hW.kept hb) ((hb.cell (World.block_lt_of_cell? W _ hC)).trans hC))
    rw [h0] at k1 ⊢
    rw [hD, ← hA]
    clear hD hA h0
    generalize (allN (farP fs) fs.length none3 fs.length).1 = ra at *
    generalize (allN (farP fs) fs.length none3 fs.length).2.1 = rb at *
    generalize (allN (farP fs) fs.length none3 fs.length).2.2 = rl at *
    have hl40 : (fs.length : Int) ≤ 40 := by omega
    by_cases h1 : 0 ≤ rl
    · by_cases h2 : n ≤ rl
      all_goals
        go_enter Try.func43, Try.ntmps43
        have c0 := V0.at 0
        simp only [List.getElem?_cons_zero] at c0
        go_wp2_with (fail)
        refine (k1).mono ?_; rintro e w1 ⟨rfl, hb1⟩
        have V1 := V0.kept hb1
        have c1 := V1.at 0
        simp only [List.getElem?_cons_zero] at c1
        go_wp2_with (fail)
        refine (kn _ (hs1.kept hb1) c1).mono ?_; rintro e w2 ⟨rfl, hb2⟩
        go_wp2_with (fail)
        go_ret2
        exact ⟨ret_b2 (by simp [h1, h2]) rfl, bl_call (bl_call b0 hb1) hb2⟩
    · go_enter Try.func43, Try.ntmps43
      have c0 := V0.at 0
      simp only [List.getElem?_cons_zero] at c0
      go_wp2_with (fail)
      refine (k1).mono ?_; rintro e w1 ⟨rfl, hb1⟩
      have V1 := V0.kept hb1
      have c1 := V1.at 0
      simp only [List.getElem?_cons_zero] at c1
      go_wp2_with (fail)
      refine (kn _ (hs1.kept hb1) c1).mono ?_; rintro e w2 ⟨rfl, hb2⟩
      go_wp2_with (fail)
      go_ret2
      exact ⟨ret_b2 (by simp [h1]) rfl, bl_call (bl_call b0 hb1) hb2⟩
  · have hD : distB fs n = false := by unfold distB; simp [h0]
    rw [hD]
    generalize askC fs n = cc at *
    have h0' : (cc != 0) = true := by simp [h0]
    clear h0 hD
    go_enter Try.func43, Try.ntmps43
    have c0 := V0.at 0
    simp only [List.getElem?_cons_zero] at c0
    go_wp2_with (fail)
    refine (k1).mono ?_; rintro e w1 ⟨rfl, hb1⟩
    go_wp2_with (fail)
    go_ret2
    exact ⟨rfl, bl_call b0 hb1⟩

set_option maxRecDepth 100000 in
set_option maxHeartbeats 2000000 in
theorem sAreDistinct_any (fs : List (List Int)) (A : Option Addr) (c : Nat) (n : Int) (w : World) (hs : SlF w A fs) :
    Calls Try.prog 41 #[.slice A fs.length c, .int .i64 n] w fun e w' => e = .returned (.tuple #[.bool (distB fs n), .int .i64 (askC fs n)]) ∧ Below w.heap.size w w' := by
  have k1 := l01Asked_any fs A c n w hs
  have hbig := hs.1
  by_cases h0 : askC fs n = 0
  · obtain ⟨hv, h40⟩ := ask_ok h0
    have hD : distB fs n = apart (farP fs) fs.length n := by unfold distB; rw [h0]; simp
    have hA := apart_iff (farP fs) fs.length n
    rw [h0] at k1 ⊢
    rw [hD]
    clear hD h0
    generalize apart (farP fs) fs.length n = ap at *
    generalize hm : fs.length = m at *
    have HM := As.mk hm
    clear hm
    go_enter Try.func41, Try.ntmps41
    go_wp2_with (go_at_call 73; refine (k1).mono ?_; rintro e w' ⟨rfl, rfl⟩)
    go_loopw [7] (fun vi wr => ∃ i : Nat, i ≤ m ∧ vi = .int .i64 i ∧ Below w.heap.size w wr ∧ As (∀ x y, x < y → y < i → n ≤ farP fs x y)) (fun vi _ => m - (intOf vi).toNat)
    case atStart => exact ⟨0, by omega, rfl, Below.refl _ _, ⟨fun x y _ h => by omega⟩⟩
    case round =>
      obtain ⟨i, hi, rfl, hb, H⟩ := hrel
      by_cases hlt : i < m
      · have hlt' : (i : Int) < (m : Int) := by omega
        have HA := As.mk hA
        clear hA
        go_wp2
        go_loopw [8] (fun vk wr => ∃ k : Nat, k ≤ i ∧ vk = .int .i64 k ∧ Below w.heap.size w wr ∧ As (∀ x, x < k → n ≤ farP fs x i)) (fun vk _ => i - (intOf vk).toNat)
        case atStart => exact ⟨0, by omega, rfl, hb, ⟨fun x h => by omega⟩⟩
        case round =>
          obtain ⟨k, hk, rfl, hb, G⟩ := hrel
          by_cases hlt2 : k < i
          · have hlt2' : (k : Int) < (i : Int) := by omega
            have hlt3' : (k : Int) < (m : Int) := by omega
            have hsW := hs.kept hb
            have hkm : k < fs.length := by rw [HM.out]; omega
            have him : i < fs.length := by rw [HM.out]; omega
            obtain ⟨b, o, rfl, hr⟩ := hsW.2.2.2 (by omega)
            have key := fun W h h' => l01Far_any (nthF fs k) (nthF fs i) (hs.len k hkm) (hs.len i him) (hs.bytes k hkm) (hs.bytes i him) (vfs_at hv k hkm) (vfs_at hv i him) b (o + k * 24) b (o + i * 24) W h h'
            have S0 : Below w.heap.size w wr ∧ wr.rangeAt b (o + k * 24) (u8s (nthF fs k)) ∧ wr.rangeAt b (o + i * 24) (u8s (nthF fs i)) := ⟨hb, hr k _ (nthF_get? fs k hkm), hr i _ (nthF_get? fs i him)⟩
            have HF := As.mk (show farP fs k i = diffs (blurL (nthF fs k)) (blurL (nthF fs i)) 6 from rfl)
            generalize diffs (blurL (nthF fs k)) (blurL (nthF fs i)) 6 = dd at *
            clear hr hsW hkm him
            generalize nthF fs k = fk at *
            generalize nthF fs i = fi at *
            go_wp2_with (fail)
            refine wp_region_held_drew (S := (fun W => Below w.heap.size w W ∧ W.rangeAt b (o + k * 24) (u8s fk) ∧ W.rangeAt b (o + i * 24) (u8s fi))) (by kernel_rfl) ⟨S0.1.drew, S0.2.1, S0.2.2⟩ (fun hHeld => ?_)
            (refine hTake 0 26 (v := .slice (some ⟨b, o, none⟩) m c) rfl rfl (by kernel_rfl) (by kernel_rfl) (by kernel_rfl) (fun _ _ _ h => h) (Or.inl ⟨by rfl, fun W _ => rfl⟩) hHeld ?_; simp only [List.set_cons_zero, List.set_cons_succ])
            (refine hTake 1 27 (v := .int .i64 (k : Int)) rfl rfl (by kernel_rfl) (by kernel_rfl) (by kernel_rfl) (fun _ _ _ h => h) (Or.inl ⟨by rfl, fun W _ => rfl⟩) hHeld ?_; simp only [List.set_cons_zero, List.set_cons_succ])
            (refine hTake 3 29 (v := .slice (some ⟨b, o, none⟩) m c) rfl rfl (by kernel_rfl) (by kernel_rfl) (by kernel_rfl) (fun _ _ _ h => h) (Or.inl ⟨by rfl, fun W _ => rfl⟩) hHeld ?_; simp only [List.set_cons_zero, List.set_cons_succ])
            (refine hTake 4 30 (v := .int .i64 (i : Int)) rfl rfl (by kernel_rfl) (by kernel_rfl) (by kernel_rfl) (fun _ _ _ h => h) (Or.inl ⟨by rfl, fun W _ => rfl⟩) hHeld ?_; simp only [List.set_cons_zero, List.set_cons_succ])
            (refine hTake 7 33 (v := .int .i64 n) rfl rfl (by kernel_rfl) (by kernel_rfl) (by kernel_rfl) (fun _ _ _ h => h) (Or.inl ⟨by rfl, fun W _ => rfl⟩) hHeld ?_; simp only [List.set_cons_zero, List.set_cons_succ])
            (refine hTake 2 28 (v := .pointer (some ⟨b, o + k * 24, none⟩)) rfl rfl (by kernel_rfl) (by kernel_rfl) (by kernel_rfl) (fun _ _ _ h => h) (Or.inl ⟨by rfl, fun W _ => by go_simp⟩) hHeld ?_; simp only [List.set_cons_zero, List.set_cons_succ])
            (refine hTake 5 31 (v := .pointer (some ⟨b, o + i * 24, none⟩)) rfl rfl (by kernel_rfl) (by kernel_rfl) (by kernel_rfl) (fun _ _ _ h => h) (Or.inl ⟨by rfl, fun W _ => by go_simp⟩) hHeld ?_; simp only [List.set_cons_zero, List.set_cons_succ])
            refine hCall 6 32 69 rfl rfl (by kernel_rfl) (args := #[.pointer (some ⟨b, o + k * 24, none⟩), .pointer (some ⟨b, o + i * 24, none⟩)]) (by rfl) (by go_simp) (.int .i64 dd) (key _ hHeld.2.1 hHeld.2.2) (fun wq hq => ⟨keepR hHeld hq, ?_⟩)
            simp only [List.set_cons_zero, List.set_cons_succ]
            replace hHeld := keepR hHeld hq
            (refine hTake 8 34 (v := .bool (decide (dd < n))) rfl rfl (by kernel_rfl) (by kernel_rfl) (by kernel_rfl) (fun _ _ _ h => h) (Or.inl ⟨by rfl, fun W _ => by go_simp⟩) hHeld ?_; simp only [List.set_cons_zero, List.set_cons_succ])
            refine wpAnyH_done (by kernel_rfl) ?_ _
            by_cases hd : dd < n
            · have hap : ap = false := by
                cases h : ap with
                | false => rfl
                | true => have := (HA.out.1 h) k i hlt2 hlt; rw [HF.out] at this; omega
              go_wp2_with (fail)
              go_ret2
              exact ⟨ret_b2 hap.symm rfl, hHeld.1⟩
            · have hg : n ≤ farP fs k i := by rw [HF.out]; omega
              have HG := As.mk (all_succ (p := fun x => n ≤ farP fs x i) G.out hg)
              clear hg
              go_wp2_with (fail)
              go_roundw
              case rel => exact ⟨k + 1, by omega, by go_num, hHeld.1, HG⟩
              case measure => simp [intOf]; omega
          · obtain rfl : k = i := by omega
            go_wp2
            go_roundw
            case rel => exact ⟨k + 1, by omega, by go_num, hb, ⟨fun x y hxy hy => by
              rcases Nat.lt_or_eq_of_le (Nat.le_of_lt_succ hy) with h | rfl
              · exact H.out x y hxy h
              · exact G.out x hxy⟩⟩
            case measure => simp [intOf]; omega
      · obtain rfl : i = m := by omega
        have hap : ap = true := hA.2 H.out
        go_wp2
        go_ret2
        exact ⟨ret_b2 hap.symm rfl, hb⟩
  · have hD : distB fs n = false := by unfold distB; simp [h0]
    rw [hD]
    generalize askC fs n = cc at *
    have h0' : (cc != 0) = true := by simp [h0]
    clear h0 hD
    go_enter Try.func41, Try.ntmps41
    go_wp2_with (go_at_call 73; refine (k1).mono ?_; rintro e w' ⟨rfl, rfl⟩)
    go_ret2
    exact ⟨rfl, Below.refl _ _⟩
end Go.Proofs.Ytbekebjmnccbkaa
