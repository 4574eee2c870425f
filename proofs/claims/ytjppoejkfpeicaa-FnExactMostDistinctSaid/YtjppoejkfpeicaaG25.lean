/- Contracts: laws.eqFlagS at equal lists. -/
import Derived.Test.YtjppoejkfpeicaaG24
import Derived.Test.YtjppoejkfpeicaaG22
import Derived.Test.YtjppoejkfpeicaaF8
set_option linter.unusedVariables false
set_option linter.unusedSimpArgs false
namespace Go.Proofs.Ytjppoejkfpeicaa
open Go.RowKit

set_option maxRecDepth 100000 in
set_option maxHeartbeats 1000000 in
theorem eqFlagS_same (fs : List (List Int)) (A A' : Option Addr) (c c' : Nat) (w : World) (h1 : SlF w A fs) (h2 : SlF w A' fs) :
    Calls Try.prog 12 #[.slice A fs.length c, .slice A' fs.length c'] w fun e w' => e = .returned (.bool true) ∧ Below w.heap.size w w' := by
  have hbig := h1.1
  generalize hm : fs.length = n at *
  have HM := As.mk hm
  have hne : ((n : Int) != (n : Int)) = false := by simp
  clear hm
  go_enter Try.func12, Try.ntmps12
  go_wp2
  go_loopw [5] (fun i wr => ∃ k : Nat, k ≤ n ∧ i = .int .i64 k ∧ Below w.heap.size w wr) (fun i _ => n - (intOf i).toNat)
  case atStart => exact ⟨0, by omega, rfl, Below.refl _ _⟩
  case round =>
    obtain ⟨k, hk, rfl, hb⟩ := hrel
    by_cases hlt : k < n
    · have hlt' : (k : Int) < (n : Int) := by omega
      have hkm : k < fs.length := by rw [HM.out]; exact hlt
      obtain ⟨b, o, rfl, hr⟩ := (h1.kept hb).2.2.2 (by omega)
      obtain ⟨b', o', rfl, hr'⟩ := (h2.kept hb).2.2.2 (by omega)
      have hk24 := h1.len k hkm
      have hi := info_len hk24
      have key := fun W => eqFlag_same (nthF fs k) hk24 W
      have S0 : Below w.heap.size w wr ∧ wr.rangeAt b (o + k * 24) (u8s (nthF fs k)) ∧ wr.rangeAt b' (o' + k * 24) (u8s (nthF fs k)) := ⟨hb, hr k _ (nthF_get? fs k hkm), hr' k _ (nthF_get? fs k hkm)⟩
      clear hr hr' hkm
      generalize nthF fs k = f at *
      unfold fl at key
      go_wp2_with (fail)
      refine wp_region_held_drew (S := (fun W => Below w.heap.size w W ∧ W.rangeAt b (o + k * 24) (u8s f) ∧ W.rangeAt b' (o' + k * 24) (u8s f))) (by kernel_rfl) ⟨S0.1.drew, S0.2.1, S0.2.2⟩ (fun hHeld => ?_)
      (refine hTake 0 17 (v := .slice (some ⟨b, o, none⟩) n c) rfl rfl (by kernel_rfl) (by kernel_rfl) (by kernel_rfl) (fun _ _ _ h => h) (Or.inl ⟨by rfl, fun W _ => rfl⟩) hHeld ?_; simp only [List.set_cons_zero, List.set_cons_succ])
      (refine hTake 1 18 (v := .int .i64 (k : Int)) rfl rfl (by kernel_rfl) (by kernel_rfl) (by kernel_rfl) (fun _ _ _ h => h) (Or.inl ⟨by rfl, fun W _ => rfl⟩) hHeld ?_; simp only [List.set_cons_zero, List.set_cons_succ])
      (refine hTake 4 21 (v := .slice (some ⟨b', o', none⟩) n c') rfl rfl (by kernel_rfl) (by kernel_rfl) (by kernel_rfl) (fun _ _ _ h => h) (Or.inl ⟨by rfl, fun W _ => rfl⟩) hHeld ?_; simp only [List.set_cons_zero, List.set_cons_succ])
      (refine hTake 5 22 (v := .int .i64 (k : Int)) rfl rfl (by kernel_rfl) (by kernel_rfl) (by kernel_rfl) (fun _ _ _ h => h) (Or.inl ⟨by rfl, fun W _ => rfl⟩) hHeld ?_; simp only [List.set_cons_zero, List.set_cons_succ])
      (refine hTake 2 19 (v := .pointer (some ⟨b, o + k * 24, none⟩)) rfl rfl (by kernel_rfl) (by kernel_rfl) (by kernel_rfl) (fun _ _ _ h => h) (Or.inl ⟨by rfl, fun W _ => by go_simp⟩) hHeld ?_; simp only [List.set_cons_zero, List.set_cons_succ])
      (refine hTake 6 23 (v := .pointer (some ⟨b', o' + k * 24, none⟩)) rfl rfl (by kernel_rfl) (by kernel_rfl) (by kernel_rfl) (fun _ _ _ h => h) (Or.inl ⟨by rfl, fun W _ => by go_simp⟩) hHeld ?_; simp only [List.set_cons_zero, List.set_cons_succ])
      (refine hTake 3 20 rfl rfl (by kernel_rfl) (by kernel_rfl) (by kernel_rfl) (fun _ _ _ h => h) (yieldsIf_load_mid (by rfl) _ _ rfl _ _ rfl (u8s f) _ (fun W h => h.2.1) Try.underlying38 rfl hi) hHeld ?_; simp only [List.set_cons_zero, List.set_cons_succ])
      (refine hTake 7 24 rfl rfl (by kernel_rfl) (by kernel_rfl) (by kernel_rfl) (fun _ _ _ h => h) (yieldsIf_load_mid (by rfl) _ _ rfl _ _ rfl (u8s f) _ (fun W h => h.2.2) Try.underlying38 rfl hi) hHeld ?_; simp only [List.set_cons_zero, List.set_cons_succ])
      refine hCall 8 25 49 rfl rfl (by kernel_rfl) (args := #[.agg (u8s f).toArray, .agg (u8s f).toArray]) (by rfl) (by go_simp) (.bool true) (key _) (fun wq hq => ⟨keepR hHeld hq, ?_⟩)
      simp only [List.set_cons_zero, List.set_cons_succ]
      replace hHeld := keepR hHeld hq
      (refine hTake 9 26 (v := .bool false) rfl rfl (by kernel_rfl) (by kernel_rfl) (by kernel_rfl) (fun _ _ _ h => h) (Or.inl ⟨by rfl, fun W _ => by go_simp⟩) hHeld ?_; simp only [List.set_cons_zero, List.set_cons_succ])
      refine wpAnyH_done (by kernel_rfl) ?_ _
      go_wp2
      go_roundw
      case rel => exact ⟨k + 1, by omega, by go_num, hHeld.1⟩
      case measure => simp [intOf]; omega
    · obtain rfl : k = n := by omega
      go_wp2
      go_ret
      exact ⟨rfl, hb⟩
end Go.Proofs.Ytjppoejkfpeicaa
