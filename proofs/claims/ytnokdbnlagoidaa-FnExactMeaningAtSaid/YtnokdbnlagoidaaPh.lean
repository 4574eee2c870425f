/- Contracts: phrases: what they are, where they stand (both sides). -/
import Derived.Test.YtnokdbnlagoidaaBo
set_option linter.unusedVariables false
namespace Go.Proofs.Ytnokdbnlagoidaa
open Go.RowKit

/-- Byte k of a string. -/
def byt (s : ByteArray) (k : Nat) : Int := ((s.data.toList.getD k 0).toNat : Int)
theorem byt_bd (s : ByteArray) (k : Nat) : 0 ≤ byt s k ∧ byt s k ≤ 255 := by
  unfold byt
  have := (s.data.toList.getD k 0).toNat_lt
  omega
theorem byt_get (s : ByteArray) (k : Nat) (h : k < s.size) : ((s[k]'h).toNat : Int) = byt s k := by
  have h' : k < s.data.size := h
  unfold byt
  rw [List.getD_eq_getElem?_getD, List.getElem?_eq_getElem (by rw [Array.length_toList]; exact h')]
  rfl
def inPh (n : Int) : Bool := inR n 32 126
def phs (s : ByteArray) : Bool := (List.range s.size).all fun k => inPh (byt s k)
theorem phs_bad {s : ByteArray} (k : Nat) (hk : k < s.size) (h : ¬ (32 ≤ byt s k ∧ byt s k ≤ 126)) : phs s = false := by
  unfold phs; rw [List.all_eq_false]
  exact ⟨k, List.mem_range.2 hk, by unfold inPh; rw [(inR_not _ _ _).2 h]; simp⟩
theorem phs_good {s : ByteArray} (h : ∀ k, k < s.size → 32 ≤ byt s k ∧ byt s k ≤ 126) : phs s = true := by
  unfold phs; rw [List.all_eq_true]
  intro k hk
  exact (inR_iff _ _ _).2 (h k (List.mem_range.1 hk))
/-- A phrase as told. -/
def phOk (s : ByteArray) : Bool := phs s && inR s.size 1 40

set_option maxRecDepth 100000 in
set_option maxHeartbeats 1000000 in
theorem l03Phrase_any (s : ByteArray) (hs : s.size ≤ maxLen) (w : World) :
    Calls Try.prog 95 #[.string s] w fun e w' => e = .returned (.bool (phOk s)) ∧ w = w' := by
  have hD := As.mk (show phOk s = (phs s && inR s.size 1 40) from rfl)
  simp only [maxLen] at hs
  have hs' : (s.size : Int) ≤ 9223372036854775807 := by omega
  go_enter Try.func95, Try.ntmps95
  go_wp2_with (fail)
  go_loopw [3] (fun i wr => ∃ k : Nat, k ≤ s.size ∧ i = .int .i64 k ∧ w = wr ∧ As (∀ j, j < k → 32 ≤ byt s j ∧ byt s j ≤ 126)) (fun i _ => s.size - (intOf i).toNat)
  case atStart => exact ⟨0, by omega, rfl, rfl, ⟨fun j hj => by omega⟩⟩
  case round =>
    obtain ⟨k, hk, rfl, rfl, H⟩ := hrel
    by_cases hlt : k < s.size
    · have hlt' : (k : Int) < (s.size : Int) := by omega
      have hg := byt_get s k hlt
      by_cases h1 : byt s k < 32
      · have hbad := As.mk (phs_bad k hlt (by omega))
        rw [← hg] at h1
        clear hg
        go_wp2_with (fail)
        go_ret
        exact ⟨ret_b (by rw [hD.out, hbad.out]; rfl), rfl⟩
      · by_cases h2 : 126 < byt s k
        · have hbad := As.mk (phs_bad k hlt (by omega))
          rw [← hg] at h1 h2
          clear hg
          go_wp2_with (fail)
          go_ret
          exact ⟨ret_b (by rw [hD.out, hbad.out]; rfl), rfl⟩
        · have hn := As.mk (show 32 ≤ byt s k ∧ byt s k ≤ 126 by omega)
          rw [← hg] at h1 h2
          clear hg
          go_wp2_with (fail)
          go_roundw
          case rel => exact ⟨k + 1, by omega, by go_num, by trivial, ⟨all_succ (p := fun j => 32 ≤ byt s j ∧ byt s j ≤ 126) H.out hn.out⟩⟩
          case measure => simp [intOf]; omega
    · obtain rfl : k = s.size := by omega
      have hgood := As.mk (phs_good H.out)
      go_wp2_with (go_at_call 59; refine (l00In_any _ _ _ _).mono ?_; rintro e w' ⟨rfl, rfl⟩)
      go_ret
      exact ⟨ret_b (by rw [hD.out, hgood.out]; rfl), rfl⟩

set_option maxRecDepth 100000 in
set_option maxHeartbeats 1000000 in
theorem isPhrase_any (s : ByteArray) (hs : s.size ≤ maxLen) (w : World) :
    Calls Try.prog 75 #[.string s] w fun e w' => e = .returned (.bool (phOk s)) ∧ w = w' := by
  have hD := As.mk (show phOk s = (phs s && inR s.size 1 40) from rfl)
  simp only [maxLen] at hs
  have hs' : (s.size : Int) ≤ 9223372036854775807 := by omega
  go_enter Try.func75, Try.ntmps75
  go_wp2_with (fail)
  go_loopw [6] (fun i wr => ∃ k : Nat, k ≤ s.size ∧ i = .int .i64 k ∧ w = wr ∧ As (∀ j, j < k → 32 ≤ byt s j ∧ byt s j ≤ 126)) (fun i _ => s.size - (intOf i).toNat)
  case atStart => exact ⟨0, by omega, rfl, rfl, ⟨fun j hj => by omega⟩⟩
  case round =>
    obtain ⟨k, hk, rfl, rfl, H⟩ := hrel
    by_cases hlt : k < s.size
    · have hlt' : (k : Int) < (s.size : Int) := by omega
      have hg := byt_get s k hlt
      by_cases h1 : byt s k < 32
      · have hbad := As.mk (phs_bad k hlt (by omega))
        rw [← hg] at h1
        clear hg
        go_wp2_with (fail)
        go_ret
        exact ⟨ret_b (by rw [hD.out, hbad.out]; rfl), rfl⟩
      · by_cases h2 : 126 < byt s k
        · have hbad := As.mk (phs_bad k hlt (by omega))
          rw [← hg] at h1 h2
          clear hg
          go_wp2_with (fail)
          go_ret
          exact ⟨ret_b (by rw [hD.out, hbad.out]; rfl), rfl⟩
        · have hn := As.mk (show 32 ≤ byt s k ∧ byt s k ≤ 126 by omega)
          rw [← hg] at h1 h2
          clear hg
          go_wp2_with (fail)
          go_roundw
          case rel => exact ⟨k + 1, by omega, by go_num, by trivial, ⟨all_succ (p := fun j => 32 ≤ byt s j ∧ byt s j ≤ 126) H.out hn.out⟩⟩
          case measure => simp [intOf]; omega
    · obtain rfl : k = s.size := by omega
      have hgood := As.mk (phs_good H.out)
      go_wp2_with (go_at_call 61; refine (within_any _ _ _ _).mono ?_; rintro e w' ⟨rfl, rfl⟩)
      go_ret
      exact ⟨ret_b (by rw [hD.out, hgood.out]; rfl), rfl⟩

end Go.Proofs.Ytnokdbnlagoidaa
