/- Contracts: AreDistinct, both sides. -/
import Derived.Test.YtjppoejkfpeicaaG21
import Derived.Test.YtjppoejkfpeicaaNr
set_option linter.unusedVariables false
set_option linter.unusedSimpArgs false
namespace Go.Proofs.Ytjppoejkfpeicaa
open Go.RowKit

theorem farP_bd (fs : List (List Int)) (i k : Nat) : 0 ≤ farP fs i k ∧ farP fs i k ≤ 6 := diffs_bd _ _ 6
/-- What AreDistinct answers. -/
def distB (fs : List (List Int)) (n : Int) : Bool := decide (askC fs n = 0) && apart (farP fs) fs.length n
theorem ask_ok {fs : List (List Int)} {n : Int} (h : askC fs n = 0) : vfs fs = true ∧ fs.length ≤ 40 := by
  unfold askC setC at h
  cases h1 : vfs fs
  · rw [h1] at h; simp at h
  · refine ⟨rfl, ?_⟩
    rw [h1] at h
    by_cases h2 : 40 < fs.length
    · simp [h2] at h
    · omega
theorem keepR {w W W' : World} {b1 o1 b2 o2 : Nat} {c1 c2 : List Value} (h : Below w.heap.size w W ∧ W.rangeAt b1 o1 c1 ∧ W.rangeAt b2 o2 c2) (hb : Below W.heap.size W W') :
    Below w.heap.size w W' ∧ W'.rangeAt b1 o1 c1 ∧ W'.rangeAt b2 o2 c2 := ⟨bl_call h.1 hb, range_kept h.2.1 hb, range_kept h.2.2 hb⟩

set_option maxHeartbeats 1000000 in
theorem AreDistinct_any (fs : List (List Int)) (A : Option Addr) (c : Nat) (n : Int) (w : World) (hs : SlF w A fs) :
    Calls Try.prog 37 #[.slice A fs.length c, .int .i64 n] w fun e w' => e = .returned (.tuple #[.bool (distB fs n), .int .i64 (askC fs n)]) ∧ Below w.heap.size w w' := by
  have V0 : Blk (w.alloc (.cells #[.slice A fs.length c] 27)) w.heap.size [.slice A fs.length c] 27 := Blk.mk _ [_] _ rfl
  have b0 := bl_new (Below.refl _ w) (.cells #[.slice A fs.length c] 27)
  have hs1 := hs.kept b0
  have k1 := setCode_any fs A c n (w.alloc (.cells #[.slice A fs.length c] 27)) hs1
  have hbig := hs.1
  by_cases h0 : askC fs n = 0
  · obtain ⟨hv, h40⟩ := ask_ok h0
    have hD : distB fs n = apart (farP fs) fs.length n := by unfold distB; rw [h0]; simp
    have hA := near_apart (farP fs) fs.length n (fun x y _ _ => (farP_bd fs x y).1)
    have kn := fun (W : World) (hW : SlF W A fs) (hC : W.cell? ⟨w.heap.size, 0, none⟩ = some (.slice A fs.length c)) => nearest_any 76 #[.pointer (some ⟨w.heap.size, 0, none⟩)] (enters Try.func76 (by kernel_rfl) rfl) fs.length (by omega) (farP fs) W
      (fun W' i k hik hk hb => AreDistinct1_any fs hv h40 A c w.heap.size i k hik hk W' (hW.kept hb) ((hb.cell (World.block_lt_of_cell? W _ hC)).trans hC))
    rw [h0] at k1 ⊢
    rw [hD, ← hA]
    clear hD hA h0
    generalize (allN (farP fs) fs.length none3 fs.length).1 = ra at *
    generalize (allN (farP fs) fs.length none3 fs.length).2.1 = rb at *
    generalize (allN (farP fs) fs.length none3 fs.length).2.2 = rl at *
    have hl40 : (fs.length : Int) ≤ 40 := by omega
    by_cases h1 : 0 ≤ rl
    · by_cases h2 : n ≤ rl
      all_goals
        go_enter Try.func37, Try.ntmps37
        have c0 := V0.at 0
        simp only [List.getElem?_cons_zero] at c0
        go_wp2_with (fail)
        refine (k1).mono ?_; rintro e w1 ⟨rfl, hb1⟩
        have V1 := V0.kept hb1
        have c1 := V1.at 0
        simp only [List.getElem?_cons_zero] at c1
        go_wp2_with (fail)
        refine (kn _ (hs1.kept hb1) c1).mono ?_; rintro e w2 ⟨rfl, hb2⟩
        go_wp2_with (fail)
        go_ret2
        exact ⟨ret_b2 (by simp [h1, h2]) rfl, bl_call (bl_call b0 hb1) hb2⟩
    · go_enter Try.func37, Try.ntmps37
      have c0 := V0.at 0
      simp only [List.getElem?_cons_zero] at c0
      go_wp2_with (fail)
      refine (k1).mono ?_; rintro e w1 ⟨rfl, hb1⟩
      have V1 := V0.kept hb1
      have c1 := V1.at 0
      simp only [List.getElem?_cons_zero] at c1
      go_wp2_with (fail)
      refine (kn _ (hs1.kept hb1) c1).mono ?_; rintro e w2 ⟨rfl, hb2⟩
      go_wp2_with (fail)
      go_ret2
      exact ⟨ret_b2 (by simp [h1]) rfl, bl_call (bl_call b0 hb1) hb2⟩
  · have hD : distB fs n = false := by unfold distB; simp [h0]
    rw [hD]
    generalize askC fs n = cc at *
    have h0' : (cc != 0) = true := by simp [h0]
    clear h0 hD
    go_enter Try.func37, Try.ntmps37
    have c0 := V0.at 0
    simp only [List.getElem?_cons_zero] at c0
    go_wp2_with (fail)
    refine (k1).mono ?_; rintro e w1 ⟨rfl, hb1⟩
    go_wp2_with (fail)
    go_ret2
    exact ⟨rfl, bl_call b0 hb1⟩

end Go.Proofs.Ytjppoejkfpeicaa
