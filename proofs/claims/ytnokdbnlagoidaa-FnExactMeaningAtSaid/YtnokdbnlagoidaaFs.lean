/- Contracts: where a phrase stands (both sides). -/
import Derived.Test.YtnokdbnlagoidaaPh
set_option linter.unusedVariables false
namespace Go.Proofs.Ytnokdbnlagoidaa
open Go.RowKit

/-- The place of a text, -1 if it is not there. -/
def findS (ss : List ByteArray) (s : ByteArray) : Int := firstIdx (fun i => decide (nthS ss i = s)) ss.length 0
theorem findS_hit {ss : List ByteArray} {s : ByteArray} {k : Nat} (hk : k < ss.length) (h : ∀ j, j < k → nthS ss j ≠ s) (he : nthS ss k = s) : findS ss s = (k : Int) := by
  unfold findS
  rw [firstIdx_hit _ ss.length 0 k hk (by intro i hi; simpa using h i hi) (by simpa using he)]; simp
theorem findS_miss {ss : List ByteArray} {s : ByteArray} (h : ∀ j, j < ss.length → nthS ss j ≠ s) : findS ss s = -1 := by
  unfold findS
  exact firstIdx_miss _ ss.length 0 (by intro i hi; simpa using h i hi)
theorem toList_ne' {u v : ByteArray} (h : u ≠ v) : (v.toList == u.toList) = false := toList_ne (Ne.symm h)

set_option maxRecDepth 100000 in
set_option maxHeartbeats 1000000 in
theorem l03Find_any (b : Bok) (s : ByteArray) (A : Option Addr) (c P : Nat) (w : World) (hB : Blk w P (bokC b A c) 48) (h : SlS w A b.ps) :
    Calls Try.prog 77 #[.pointer (some ⟨P, 0, none⟩), .string s] w fun e w' => e = .returned (.int .i64 (findS b.ps s)) ∧ w = w' := by
  have c3 := hB.at 3
  unfold bokC at c3
  simp only [List.getElem?_cons_zero, List.getElem?_cons_succ] at c3
  have hbig := h.1
  generalize b.ps = ss at *
  clear hB
  generalize hm : ss.length = n at *
  have HM := As.mk hm
  clear hm
  go_enter Try.func77, Try.ntmps77
  go_wp2_with (fail)
  go_loopw [5] (fun i wr => ∃ k : Nat, k ≤ n ∧ i = .int .i64 k ∧ w = wr ∧ As (∀ j, j < k → nthS ss j ≠ s)) (fun i _ => n - (intOf i).toNat)
  case atStart => exact ⟨0, by omega, rfl, rfl, ⟨fun j hj => by omega⟩⟩
  case round =>
    obtain ⟨k, hk, rfl, rfl, H⟩ := hrel
    by_cases hlt : k < n
    · have hlt' : (k : Int) < (n : Int) := by omega
      obtain ⟨b, o, rfl, hr⟩ := h.2.2 (by rw [HM.out]; omega)
      have c0 := SlS.at hr k (by rw [HM.out]; omega)
      by_cases he : nthS ss k = s
      · have hf := As.mk (findS_hit (by rw [HM.out]; exact hlt) H.out he)
        rw [he] at c0
        clear he
        go_wp2_with (fail)
        go_ret
        exact ⟨ret_n (by rw [hf.out]), rfl⟩
      · have he' := As.mk (all_succ (p := fun j => nthS ss j ≠ s) H.out he)
        have hb := toList_ne he
        clear he
        generalize nthS ss k = u at *
        go_wp2_with (fail)
        go_roundw
        case rel => exact ⟨k + 1, by omega, by go_num, by trivial, he'⟩
        case measure => simp [intOf]; omega
    · obtain rfl : k = n := by omega
      have hf := As.mk (findS_miss (ss := ss) (s := s) (by rw [HM.out]; exact H.out))
      go_wp2_with (fail)
      go_ret
      exact ⟨ret_n (by rw [hf.out]), rfl⟩
set_option maxRecDepth 100000 in
set_option maxHeartbeats 1000000 in
theorem IndexS_any (ss : List ByteArray) (s : ByteArray) (A : Option Addr) (n c : Nat) (hn : ss.length = n) (w : World) (h : SlS w A ss) :
    Calls Try.prog 78 #[.slice A n c, .string s] w fun e w' => e = .returned (.int .i64 (findS ss s)) ∧ w = w' := by
  have hbig := h.1
  have HM := As.mk hn
  rw [hn] at hbig
  clear hn
  go_enter Try.func78, Try.ntmps78
  go_wp2_with (fail)
  go_loopw [8] (fun i wr => ∃ k : Nat, k ≤ n ∧ i = .int .i64 k ∧ w = wr ∧ As (∀ j, j < k → nthS ss j ≠ s)) (fun i _ => n - (intOf i).toNat)
  case atStart => exact ⟨0, by omega, rfl, rfl, ⟨fun j hj => by omega⟩⟩
  case round =>
    obtain ⟨k, hk, rfl, rfl, H⟩ := hrel
    by_cases hlt : k < n
    · have hlt' : (k : Int) < (n : Int) := by omega
      obtain ⟨b, o, rfl, hr⟩ := h.2.2 (by rw [HM.out]; omega)
      have c0 := SlS.at hr k (by rw [HM.out]; omega)
      by_cases he : nthS ss k = s
      · have hf := As.mk (findS_hit (by rw [HM.out]; exact hlt) H.out he)
        rw [he] at c0
        clear he
        go_wp2_with (fail)
        go_ret
        exact ⟨ret_n (by rw [hf.out]), rfl⟩
      · have he' := As.mk (all_succ (p := fun j => nthS ss j ≠ s) H.out he)
        have hb := toList_ne' he
        clear he
        generalize nthS ss k = u at *
        go_wp2_with (fail)
        go_roundw
        case rel => exact ⟨k + 1, by omega, by go_num, by trivial, he'⟩
        case measure => simp [intOf]; omega
    · obtain rfl : k = n := by omega
      have hf := As.mk (findS_miss (ss := ss) (s := s) (by rw [HM.out]; exact H.out))
      go_wp2_with (fail)
      go_ret
      exact ⟨ret_n (by rw [hf.out]), rfl⟩
theorem findS_range (ss : List ByteArray) (s : ByteArray) : -1 ≤ findS ss s ∧ findS ss s < ss.length ∨ ss.length = 0 ∧ findS ss s = -1 := by
  by_cases h : ∀ j, j < ss.length → nthS ss j ≠ s
  · rw [findS_miss h]; omega
  · have hex : ∃ j, j < ss.length ∧ nthS ss j = s := by
      apply Classical.byContradiction
      intro hn
      exact h fun j hj he => hn ⟨j, hj, he⟩
    have : ∀ n, (∃ j, j < n ∧ nthS ss j = s) → ∃ j, j < n ∧ nthS ss j = s ∧ ∀ i, i < j → nthS ss i ≠ s := by
      intro n
      induction n with
      | zero => rintro ⟨j, hj, _⟩; omega
      | succ n ih =>
        rintro ⟨j, hj, he⟩
        by_cases hl : ∃ j, j < n ∧ nthS ss j = s
        · obtain ⟨i, hi, h1, h2⟩ := ih hl; exact ⟨i, by omega, h1, h2⟩
        · exact ⟨n, by omega, by
            by_cases e : j = n
            · rw [← e]; exact he
            · exact absurd ⟨j, by omega, he⟩ hl, fun i hi hq => hl ⟨i, hi, hq⟩⟩
    obtain ⟨j, hj, he, hall⟩ := this _ hex
    rw [findS_hit hj hall he]; omega
set_option maxRecDepth 100000 in
set_option maxHeartbeats 1000000 in
theorem ContainsS_any (ss : List ByteArray) (s : ByteArray) (A : Option Addr) (n c : Nat) (hn : ss.length = n) (w : World) (h : SlS w A ss) :
    Calls Try.prog 76 #[.slice A n c, .string s] w fun e w' => e = .returned (.bool (decide (0 ≤ findS ss s))) ∧ w = w' := by
  have key := IndexS_any ss s A n c hn w h
  have hr := findS_range ss s
  have hbig := h.1
  generalize findS ss s = r at *
  by_cases h0 : 0 ≤ r
  all_goals
    go_enter Try.func76, Try.ntmps76
    go_wp2_with (fail)
    refine key.mono ?_; rintro e w' ⟨rfl, rfl⟩
    go_wp2_with (fail)
    go_ret
    exact ⟨ret_b (by simp [h0]), rfl⟩
end Go.Proofs.Ytnokdbnlagoidaa
