/- Contracts: MostDistinct (spec). -/
import Derived.Test.YtjppoejkfpeicaaMs
set_option linter.unusedVariables false
set_option linter.unusedSimpArgs false
namespace Go.Proofs.Ytjppoejkfpeicaa
open Go.RowKit

theorem from_any (fs : List (List Int)) (hv : vfs fs = true) (h12 : fs.length ≤ 12) (n : Int) (A : Option Addr) (c : Nat) (M : Nat) : FromOk fs n A c M := by
  induction M using Nat.strongRecOn with
  | ind M ih => exact from_step fs hv h12 n A c M ih
theorem most_le (fs : List (List Int)) (n : Int) : (mostL fs n).length ≤ 12 := by
  unfold mostL
  split
  · rename_i h
    rw [ni_length]
    exact Nat.le_trans (loopS_length _ fs.length 0 [] [] fs.length (by omega) (by simp) (by simp)) (most_ok h).2
  · simp

set_option maxRecDepth 100000 in
set_option maxHeartbeats 2000000 in
theorem sMostDistinct_any (fs : List (List Int)) (A : Option Addr) (c : Nat) (n : Int) (w : World) (hs : SlF w A fs) :
    Calls Try.prog 16 #[.slice A fs.length c, .int .i64 n] w fun e w' => Gave64 (mostL fs n) (mostC fs n) w.heap.size e w' ∧ Below w.heap.size w w' := by
  have k1 := l01Asked_any fs A c n w hs
  have HC := As.mk (show mostC fs n = first2 (askC fs n) (if fs.length ≤ 12 then 0 else 7) from rfl)
  by_cases ha : askC fs n = 0
  · obtain ⟨hv, h40⟩ := ask_ok ha
    by_cases h12 : fs.length ≤ 12
    · have h0 : mostC fs n = 0 := by rw [HC.out, ha, if_pos h12]; rfl
      have HL := As.mk (show mostL fs n = ni (loopS (gF fs n) fs.length 0 [] []) by unfold mostL; rw [if_pos h0])
      have hlow : ∀ b o, A = some ⟨b, o, none⟩ → 0 < fs.length → b < w.heap.size := by
        intro b o e hp
        obtain ⟨b', o', e', hr⟩ := hs.2.2.2 hp
        rw [e] at e'
        obtain ⟨rfl, rfl⟩ : b = b' ∧ o = o' := by simpa using e'
        have l0 := hs.len 0 hp
        exact World.block_lt_of_cell? w _ (hr 0 _ (nthF_get? fs 0 hp) 0 _ (u8s_get _ 0 (by rw [l0]; omega)))
      have kf := from_any fs hv h12 n A c fs.length
      unfold FromOk at kf
      rw [ha] at k1
      rw [h0]
      obtain ⟨m, hm⟩ : ∃ m, fs.length = m := ⟨_, rfl⟩
      have HM := As.mk hm
      have h12' : ¬ ((12 : Int) < (m : Int)) := by omega
      simp only [hm] at k1 kf hlow ⊢
      have hC : As (Cho ((w.alloc (.cells #[] 2)).alloc (.cells #[.slice A m c, .int .i64 n, .slice none 0 0, .slice (some ⟨w.heap.size, 0, none⟩) 0 0] 66)) w.heap.size (w.heap.size + 1) A m c n [] [] (.slice none 0 0) (.slice (some ⟨w.heap.size, 0, none⟩) 0 0)) :=
        ⟨⟨Blk.mk (w.alloc (.cells #[] 2)) [.slice A m c, .int .i64 n, .slice none 0 0, .slice (some ⟨w.heap.size, 0, none⟩) 0 0] 66 (by simp), Own.nil _ _ _, (Own.lit w w.heap.size 2 [] (Nat.le_refl _) (by simp)).alloc _, by omega, by simp [Value.ownBlock], by simp [Value.ownBlock], .inl rfl⟩⟩
      have b1 : Below w.heap.size w ((w.alloc (.cells #[] 2)).alloc (.cells #[.slice A m c, .int .i64 n, .slice none 0 0, .slice (some ⟨w.heap.size, 0, none⟩) 0 0] 66)) := bl_new (bl_new (Below.refl _ _) _) _
      have key := kf 0 [] [] _ _ _ _ _ (by omega) (fun x hx => by cases hx) (by simp) (by simp) (hs.kept b1) hlow hC.out
      clear kf hm ha h0 HC hlow
      go_enter Try.func16, Try.ntmps16
      go_wp2_with (go_at_call 42; refine (k1).mono ?_; rintro e w' ⟨rfl, rfl⟩)
      generalize (w.alloc (.cells #[] 2)).alloc (.cells #[.slice A m c, .int .i64 n, .slice none 0 0, .slice (some ⟨w.heap.size, 0, none⟩) 0 0] 66) = W1 at *
      refine key.mono ?_; rintro e w2 ⟨rfl, ⟨tv, bv, hC2⟩, hb2⟩
      clear key hC
      have hU : updN [] [] = ([] : List Nat) := rfl
      rw [hU] at hC2
      have hO2 := As.mk hC2.best
      obtain ⟨A2, c2, rfl, _⟩ := hC2.best.sl
      have d3 := hC2.blk.at 3
      simp only [List.getElem?_cons_zero, List.getElem?_cons_succ] at d3
      clear hC2
      go_wp2_with (fail)
      go_ret2
      exact ⟨⟨_, rfl, by rw [HL.out, HM.out]; exact hO2.out⟩, b1.trans hb2⟩
    · have h0 : mostC fs n = 7 := by rw [HC.out, ha, if_neg h12]; rfl
      have HL := As.mk (show mostL fs n = [] by unfold mostL; rw [if_neg (by rw [h0]; omega)])
      have h12' : (12 : Int) < (fs.length : Int) := by omega
      rw [ha] at k1
      rw [h0]
      go_enter Try.func16, Try.ntmps16
      go_wp2_with (go_at_call 42; refine (k1).mono ?_; rintro e w' ⟨rfl, rfl⟩)
      go_ret2
      exact ⟨⟨_, rfl, by rw [HL.out]; exact Own.lit w w.heap.size 2 [] (Nat.le_refl _) (by simp)⟩, bl_new (Below.refl _ _) _⟩
  · have h0 : mostC fs n = askC fs n := by rw [HC.out]; unfold first2; rw [if_neg ha]
    have HL := As.mk (show mostL fs n = [] by unfold mostL; rw [if_neg (by rw [h0]; exact ha)])
    rw [h0]
    generalize hcc : askC fs n = cc at *
    have h0' : (cc != 0) = true := by simp [ha]
    clear ha hcc h0 HC
    go_enter Try.func16, Try.ntmps16
    go_wp2_with (go_at_call 42; refine (k1).mono ?_; rintro e w' ⟨rfl, rfl⟩)
    go_ret2
    exact ⟨⟨_, rfl, by rw [HL.out]; exact Own.lit w w.heap.size 2 [] (Nat.le_refl _) (by simp)⟩, bl_new (Below.refl _ _) _⟩
end Go.Proofs.Ytjppoejkfpeicaa
