/- Contracts: slices of int8: copied, compared. -/
import Derived.Test.YtllplgjlpndpfaaF1
import Derived.Test.YtllplgjlpndpfaaOwn
set_option linter.unusedVariables false
namespace Go.Proofs.Ytllplgjlpndpfaa
open Go.RowKit

/-- '.slice A xs.length c' is a slice that holds the numbers xs. -/
def Sl (k : IntKind) (w : World) (A : Option Addr) (xs : List Int) : Prop :=
  xs.length ≤ 9223372036854775807 ∧ (0 < xs.length → ∃ b o, A = some ⟨b, o, none⟩ ∧ w.rangeAt b o (xs.map (Value.int k)))
theorem range_below {w w' : World} {b o : Nat} {cs : List Value} (h : w.rangeAt b o cs) (hb : Below w.heap.size w w') : w'.rangeAt b o cs := fun j v hv => by
  have := h j v hv
  rw [hb.cell (World.block_lt_of_cell? w _ this)]; exact this
theorem Sl.kept {k : IntKind} {w w' : World} {A : Option Addr} {xs : List Int} (h : Sl k w A xs) (hb : Below w.heap.size w w') : Sl k w' A xs :=
  ⟨h.1, fun hp => by obtain ⟨b, o, e, hr⟩ := h.2 hp; exact ⟨b, o, e, range_below hr hb⟩⟩
theorem nth_ext (xs ys : List Int) (hl : xs.length = ys.length) (h : ∀ j, j < xs.length → nth xs j = nth ys j) : xs = ys := by
  apply List.ext_getElem hl
  intro i h1 h2
  rw [nth_get xs i h1, nth_get ys i h2]
  exact h i h1
theorem nth_ne {xs ys : List Int} {k : Nat} (h : (nth xs k != nth ys k) = true) : decide (xs = ys) = false := by
  rw [decide_eq_false_iff_not]; rintro rfl; simp at h

set_option maxHeartbeats 400000 in
theorem l02Same_any (xs ys : List Int) (A A' : Option Addr) (c c' : Nat) (w : World) (h1 : Sl .i8 w A xs) (h2 : Sl .i8 w A' ys) :
    Calls Try.prog 56 #[.slice A xs.length c, .slice A' ys.length c'] w fun e w' => e = .returned (.bool (decide (xs = ys))) ∧ Below w.heap.size w w' := by
  have hbig := h1.1
  have hbig2 := h2.1
  by_cases hl : xs.length = ys.length
  · have HL := As.mk hl
    generalize hn : ys.length = n at *
    have hne : ((n : Int) != (n : Int)) = false := by simp
    rw [hl] at hbig ⊢
    have HN := As.mk hn
    clear hl hn
    go_enter Try.func56, Try.ntmps56
    go_wp2
    go_loopw [5] (fun i wr => ∃ k q : Nat, k ≤ n ∧ i = .int .i64 k ∧ wr = w.drewN q ∧ As (∀ j, j < k → nth xs j = nth ys j)) (fun i _ => n - (intOf i).toNat)
    case atStart => exact ⟨0, 0, by omega, rfl, rfl, ⟨fun j hj => by omega⟩⟩
    case round =>
      obtain ⟨k, q, hk, rfl, rfl, H⟩ := hrel
      by_cases hlt : k < n
      · have hlt' : (k : Int) < (n : Int) := by omega
        obtain ⟨b, o, rfl, hr⟩ := h1.2 (by rw [HL.out]; omega)
        obtain ⟨b', o', rfl, hr'⟩ := h2.2 (by rw [HN.out]; omega)
        have c0 : w.cell? ⟨b, o + k, none⟩ = some (.int .i8 (nth xs k)) := hr k _ (i8s_get xs k (by rw [HL.out]; omega))
        have c1 : w.cell? ⟨b', o' + k, none⟩ = some (.int .i8 (nth ys k)) := hr' k _ (i8s_get ys k (by rw [HN.out]; omega))
        go_wp2
        go_quiet (fail)
        go_wp2
        · have ht : (nth xs k != nth ys k) = true := by assumption
          go_ret
          exact ⟨ret_b (nth_ne ht).symm, bl_drewN (bl_drewN (Below.refl _ _) _) _⟩
        · have ht : (nth xs k != nth ys k) = false := by assumption
          go_roundw
          case rel => exact ⟨k + 1, _, by omega, by go_num, rfl, ⟨all_succ H.out (by simpa using ht)⟩⟩
          case measure => simp [intOf]; omega
      · obtain rfl : k = n := by omega
        go_wp2
        go_ret
        exact ⟨ret_b (by symm; rw [decide_eq_true_eq]; exact nth_ext xs ys (by rw [HL.out, HN.out]) (by rw [HL.out]; exact H.out)), bl_drewN (Below.refl _ _) _⟩
  · have hne : (((xs.length : Nat) : Int) != ((ys.length : Nat) : Int)) = true := by rw [bne_iff_ne]; omega
    have hd : decide (xs = ys) = false := by rw [decide_eq_false_iff_not]; rintro rfl; exact hl rfl
    rw [hd]
    clear hl hd
    go_enter Try.func56, Try.ntmps56
    go_wp2
    go_ret
    exact ⟨rfl, Below.refl _ _⟩

set_option maxHeartbeats 400000 in
theorem eqHoist_any (xs ys : List Int) (A A' : Option Addr) (c c' : Nat) (w : World) (h1 : Sl .i8 w A xs) (h2 : Sl .i8 w A' ys) :
    Calls Try.prog 16 #[.slice A xs.length c, .slice A' ys.length c'] w fun e w' => e = .returned (.bool (decide (xs = ys))) ∧ Below w.heap.size w w' := by
  have hbig := h1.1
  have hbig2 := h2.1
  by_cases hl : xs.length = ys.length
  · have HL := As.mk hl
    generalize hn : ys.length = n at *
    have hne : ((n : Int) != (n : Int)) = false := by simp
    rw [hl] at hbig ⊢
    have HN := As.mk hn
    clear hl hn
    go_enter Try.func16, Try.ntmps16
    go_wp2
    go_loopw [5] (fun i wr => ∃ k q : Nat, k ≤ n ∧ i = .int .i64 k ∧ wr = w.drewN q ∧ As (∀ j, j < k → nth xs j = nth ys j)) (fun i _ => n - (intOf i).toNat)
    case atStart => exact ⟨0, 0, by omega, rfl, rfl, ⟨fun j hj => by omega⟩⟩
    case round =>
      obtain ⟨k, q, hk, rfl, rfl, H⟩ := hrel
      by_cases hlt : k < n
      · have hlt' : (k : Int) < (n : Int) := by omega
        obtain ⟨b, o, rfl, hr⟩ := h1.2 (by rw [HL.out]; omega)
        obtain ⟨b', o', rfl, hr'⟩ := h2.2 (by rw [HN.out]; omega)
        have c0 : w.cell? ⟨b, o + k, none⟩ = some (.int .i8 (nth xs k)) := hr k _ (i8s_get xs k (by rw [HL.out]; omega))
        have c1 : w.cell? ⟨b', o' + k, none⟩ = some (.int .i8 (nth ys k)) := hr' k _ (i8s_get ys k (by rw [HN.out]; omega))
        go_wp2
        go_quiet (fail)
        go_wp2
        · have ht : (nth xs k != nth ys k) = true := by assumption
          go_ret
          exact ⟨ret_b (nth_ne ht).symm, bl_drewN (bl_drewN (Below.refl _ _) _) _⟩
        · have ht : (nth xs k != nth ys k) = false := by assumption
          go_roundw
          case rel => exact ⟨k + 1, _, by omega, by go_num, rfl, ⟨all_succ H.out (by simpa using ht)⟩⟩
          case measure => simp [intOf]; omega
      · obtain rfl : k = n := by omega
        go_wp2
        go_ret
        exact ⟨ret_b (by symm; rw [decide_eq_true_eq]; exact nth_ext xs ys (by rw [HL.out, HN.out]) (by rw [HL.out]; exact H.out)), bl_drewN (Below.refl _ _) _⟩
  · have hne : (((xs.length : Nat) : Int) != ((ys.length : Nat) : Int)) = true := by rw [bne_iff_ne]; omega
    have hd : decide (xs = ys) = false := by rw [decide_eq_false_iff_not]; rintro rfl; exact hl rfl
    rw [hd]
    clear hl hd
    go_enter Try.func16, Try.ntmps16
    go_wp2
    go_ret
    exact ⟨rfl, Below.refl _ _⟩

end Go.Proofs.Ytllplgjlpndpfaa
