/- Contracts for MostDistinct: whether a choice is accepted; the first one of the longest accepted lists. -/
import Derived.Test.YtjppoejkfpeicaaMc
set_option linter.unusedVariables false
set_option linter.unusedSimpArgs false
namespace Go.Proofs.Ytjppoejkfpeicaa
open Go.RowKit

theorem Own.cap' {w : World} {base : Nat} {e : TypeId} {A : Option Addr} {n c : Nat} {cs : List Value} (h : Own w base e (.slice A n c) cs) : cs.length ≤ c := by
  rcases h.form with ⟨hv, rfl⟩ | ⟨g, c', hv, _, _, _, _, _, hc⟩
  · simp
  · simp only [Value.slice.injEq] at hv; omega

set_option maxRecDepth 100000 in
set_option maxHeartbeats 2000000 in
theorem MostDistinct1_any (g : Nat → Nat → Bool) (B M m N : Nat) (X : List Nat) (hX : ∀ n k, k < n → n < X.length → X.getD k 0 < X.getD n 0 ∧ X.getD n 0 < N) (A : Option Addr) (c : Nat) (w : World) (hcap : X.length ≤ c) (hs : Sl .i64 w A (ni X))
    (hB : w.cell? ⟨B, 0, none⟩ = some (.map (some M))) (hM : FarM w M m g (fun k i => k < i ∧ i < N)) :
    Calls Try.prog 55 #[.slice A (ni X).length c, .pointer (some ⟨B, 0, none⟩)] w fun e w' => e = .returned (.bool (accN g [] X)) ∧ Below w.heap.size w w' := by
  have hbig := hs.1
  obtain ⟨z, hz⟩ : ∃ z, X.length = z := ⟨_, rfl⟩
  have HZ := As.mk hz
  rw [ni_length, hz] at hbig
  rw [ni_length, hz]
  rw [hz] at hcap
  have HX := As.mk hX
  clear hz hX
  go_enter Try.func55, Try.ntmps55
  go_wp2_with (fail)
  go_loopw [10] (fun i wr => ∃ n : Nat, n ≤ z ∧ i = .int .i64 n ∧ As (∀ n' k, k < n' → n' < n → g (X.getD k 0) (X.getD n' 0) = true) ∧ Below w.heap.size w wr) (fun i _ => z - (intOf i).toNat)
  case atStart => exact ⟨0, by omega, rfl, ⟨fun n' k h1 h2 => by omega⟩, Below.refl _ _⟩
  case round =>
    obtain ⟨n, hn, rfl, HN, hb⟩ := hrel
    by_cases hlt : n < z
    · have hlt' : (n : Int) < (z : Int) := by omega
      have hn0 : (0 : Int) ≤ (n : Int) := by omega
      have hnc : (n : Int) ≤ (c : Int) := by omega
      have hnc' : n ≤ c := by omega
      obtain ⟨b, o, hA, hr⟩ := hs.2 (by rw [ni_length, HZ.out]; omega)
      have c0 : wr.cell? ⟨b, o + n, none⟩ = some (.int .i64 ((X.getD n 0 : Nat) : Int)) := by
        have := hr n _ (i64s_get (ni X) n (by rw [ni_length, HZ.out]; exact hlt))
        rw [ni_nth X n (by rw [HZ.out]; exact hlt)] at this
        rw [hb.cell (World.block_lt_of_cell? w _ this)]; exact this
      subst hA
      have hr' := As.mk hr
      obtain ⟨xn, hxn⟩ : ∃ xn, X.getD n 0 = xn := ⟨_, rfl⟩
      rw [hxn] at c0
      have HXN := As.mk hxn
      clear hr hxn
      go_wp2_with (fail)
      go_loopw [19] (fun j wr => ∃ k : Nat, k ≤ n ∧ j = .int .i64 k ∧ As (∀ k', k' < k → g (X.getD k' 0) (X.getD n 0) = true) ∧ Below w.heap.size w wr) (fun j _ => n - (intOf j).toNat)
      case atStart => exact ⟨0, by omega, rfl, ⟨fun k' h => by omega⟩, hb⟩
      case round =>
        obtain ⟨k, hk, rfl, HK, hb⟩ := hrel
        by_cases hkn : k < n
        · have hkn' : (k : Int) < (n : Int) := by omega
          have d0 : wr.cell? ⟨b, o + k, none⟩ = some (.int .i64 ((X.getD k 0 : Nat) : Int)) := by
            have := hr'.out k _ (i64s_get (ni X) k (by rw [ni_length, HZ.out]; omega))
            rw [ni_nth X k (by rw [HZ.out]; omega)] at this
            rw [hb.cell (World.block_lt_of_cell? w _ this)]; exact this
          have b0 : wr.cell? ⟨B, 0, none⟩ = some (.map (some M)) := by
            rw [hb.cell (World.block_lt_of_cell? w _ hB)]; exact hB
          have hlk := (hM.kept hb).look (X.getD k 0) (X.getD n 0) (HX.out n k hkn (by rw [HZ.out]; exact hlt))
          unfold keyV at hlk
          generalize hgv : g (X.getD k 0) (X.getD n 0) = gv at hlk
          have HGV := As.mk hgv
          rw [HXN.out] at hlk
          generalize X.getD k 0 = xk at hlk d0
          clear hgv
          cases gv with
          | true =>
            go_wp2_with (fail)
            go_roundw
            case rel => exact ⟨k + 1, by omega, by go_num, ⟨fun k' hk' => by
              by_cases e : k' = k
              · subst e; exact HGV.out
              · exact HK.out k' (by omega)⟩, hb⟩
            case measure => simp [intOf]; omega
          | false =>
            go_wp2_with (fail)
            go_ret
            exact ⟨ret_b (acc_false (by rw [HZ.out]; exact hlt) hkn HGV.out).symm, hb⟩
        · obtain rfl : k = n := by omega
          go_wp2_with (fail)
          go_roundw
          case rel => exact ⟨k + 1, by omega, by go_num, ⟨fun n' k' h1 h2 => by
              by_cases e : n' = k
              · subst e; exact HK.out k' h1
              · exact HN.out n' k' h1 (by omega)⟩, hb⟩
          case measure => simp [intOf]; omega
    · obtain rfl : n = z := by omega
      go_wp2_with (fail)
      go_ret
      exact ⟨ret_b (acc_true (fun n' h1 k h2 => HN.out n' k h2 (by rw [← HZ.out]; exact h1))).symm, hb⟩
end Go.Proofs.Ytjppoejkfpeicaa
