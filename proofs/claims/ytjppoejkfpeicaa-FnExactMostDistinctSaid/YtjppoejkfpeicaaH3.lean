/- Slices that a law holds: marked, held; what a call made as a slice of numbers. (The contracts below the head are printed by genh.py.) -/
import Derived.Test.YtjppoejkfpeicaaG9
import Derived.Maps.AppendAt
import Derived.OwnWalk
set_option linter.unusedVariables false
namespace Go.Proofs.Ytjppoejkfpeicaa
open Go.RowKit

section
variable {w w' : World} {base : Nat} {e : TypeId} {v : Value} {cs : List Value}
theorem Own.sl {k : IntKind} {xs : List Int} (h : Own w base e v (xs.map (Value.int k))) : ∃ A c, v = .slice A xs.length c ∧ Sl k w A xs := by
  rcases h.form with ⟨rfl, hn⟩ | ⟨g, c, rfl, _, _, hr, _, hm, _⟩
  · have : xs = [] := by simpa using hn
    subst this
    exact ⟨none, 0, rfl, ⟨by simp, fun hp => by simp at hp⟩⟩
  · rw [List.length_map] at hm ⊢
    exact ⟨_, c, rfl, ⟨hm, fun _ => ⟨g, 0, rfl, hr⟩⟩⟩
theorem Blk.own {b : Nat} (h : Blk w b cs e) (hb : base ≤ b) (hm : cs.length ≤ 9223372036854775807) : Own w base e (.slice (Option.some ⟨b, 0, none⟩) cs.length cs.length) cs :=
  And.intro (by simp) (Or.inr ⟨b, cs.length, cs.toArray, rfl, hb, h, Nat.le_refl _, by simp only [maxLen]; omega, by simp, by simp⟩)
theorem Own.addr {A : Option Addr} {n c : Nat} (h : Own w base e (.slice A n c) cs) (hp : 0 < cs.length) : ∃ g, A = some ⟨g, 0, none⟩ := by
  rcases h.form with ⟨_, rfl⟩ | ⟨g, c, hv, _⟩
  · simp at hp
  · simp only [Value.slice.injEq] at hv; exact ⟨g, hv.1⟩
theorem Own.cellAt {g n c : Nat} (h : Own w base e (.slice (some ⟨g, 0, none⟩) n c) cs) (j : Nat) (hj : j < cs.length) : w.cell? ⟨g, j, none⟩ = cs[j]? := by
  rcases h.form with ⟨hv, _⟩ | ⟨g', c', hv, _, _, hr, _⟩
  · simp at hv
  · simp only [Value.slice.injEq, Option.some.injEq, Addr.mk.injEq, and_true] at hv
    obtain ⟨rfl, _⟩ := hv
    have := hr j cs[j] (List.getElem?_eq_getElem hj)
    rw [Nat.zero_add] at this
    rw [this, List.getElem?_eq_getElem hj]
theorem Own.someAt {g n c : Nat} (h : Own w base e (.slice (some ⟨g, 0, none⟩) n c) cs) (j : Nat) (hj : j < cs.length) : ∃ u, w.cell? ⟨g, j, none⟩ = some u := by
  rw [h.cellAt j hj, List.getElem?_eq_getElem hj]; exact ⟨_, rfl⟩
theorem Own.frozenAt {g n c : Nat} (h : Own w base e (.slice (some ⟨g, 0, none⟩) n c) cs) (j : Nat) : w.frozen? ⟨g, j, none⟩ = false := by
  rcases h.form with ⟨hv, _⟩ | ⟨g', c', hv, _, _, _, hf, _⟩
  · simp at hv
  · simp only [Value.slice.injEq, Option.some.injEq, Addr.mk.injEq, and_true] at hv
    obtain ⟨rfl, _⟩ := hv
    exact hf j
theorem wrap_i64 (n : Int) (h0 : 0 ≤ n) (h1 : n ≤ 2147483647) : IntKind.wrap .i64 n = n := by
  simp [IntKind.wrap, IntKind.bits, IntKind.signed]; omega
/-- What a slice's own turning leaves: all below it. -/
theorem bl_grown {w0 : World} {B : Nat} (hb : Below B w0 w) (hB : B ≤ w.heap.size) (h : Own w base e v cs) (hg : w.grownBy w' v.ownBlock) (hbase : B ≤ base) : Below B w0 w' :=
  hb.grown hg hB (fun k hk => Nat.le_trans hbase (h.ge k hk))
/-- Another slice stays, of which the first lies below the second's begin. -/
theorem Own.kept2 {b2 : Nat} {e2 : TypeId} {u : Value} {ds : List Value} (h : Own w base e v cs) (hlt : ∀ k, v.ownBlock = some k → k < b2) (h2 : Own w b2 e2 u ds) (hg : w.grownBy w' u.ownBlock) : Own w' base e v cs := by
  refine h.grown hg ?_
  cases hv : v.ownBlock with
  | none => exact .inl rfl
  | some k =>
    refine .inr fun e' => ?_
    have := h2.ge k e'.symm
    have := hlt k hv
    omega
end

def marks (kd : IntKind) (k : Int) (n : Nat) : List Int := (List.range n).map fun (i : Nat) => kd.wrap (k + (i : Int))
def marked (kd : IntKind) (k : Int) (xs : List Int) (j : Nat) : List Int := (List.range xs.length).map fun i => if i < j then kd.wrap (k + (i : Int)) else nth xs i
theorem marks_length (kd : IntKind) (k : Int) (n : Nat) : (marks kd k n).length = n := by simp [marks]
theorem marked_length (kd : IntKind) (k : Int) (xs : List Int) (j : Nat) : (marked kd k xs j).length = xs.length := by simp [marked]
theorem marks_nth (kd : IntKind) (k : Int) (n j : Nat) (h : j < n) : nth (marks kd k n) j = kd.wrap (k + (j : Int)) := by unfold marks; rw [nth_map_range _ _ _ h]
theorem marked_zero (kd : IntKind) (k : Int) (xs : List Int) : marked kd k xs 0 = xs := by
  conv => rhs; rw [← range_nth xs _ rfl]
  apply List.map_congr_left
  intro i _
  rw [if_neg (by omega)]
theorem marked_succ (kd : IntKind) (k : Int) (xs : List Int) (j : Nat) : (marked kd k xs j).set j (kd.wrap (k + (j : Int))) = marked kd k xs (j + 1) := by
  apply List.ext_getElem
  · simp [marked]
  · intro i h1 h2
    simp only [List.getElem_set, marked, List.getElem_map, List.getElem_range]
    by_cases h : j = i
    · subst h; simp
    · rw [if_neg h]
      by_cases h3 : i < j
      · rw [if_pos h3, if_pos (by omega)]
      · rw [if_neg h3, if_neg (by omega)]
theorem marked_full (kd : IntKind) (k : Int) (xs : List Int) (j : Nat) (h : xs.length = j) : marked kd k xs j = marks kd k j := by
  subst h
  apply List.map_congr_left
  intro i hi
  rw [if_pos (List.mem_range.1 hi)]

set_option maxHeartbeats 400000 in
theorem markInt64S_any (xs : List Int) (base : Nat) (v : Value) (k0 : Int) (hk1 : 0 ≤ k0) (hk0 : k0 + (xs.length : Int) ≤ 2147483647) (w : World) (h : Own w base 2 v (i64s xs)) :
    Calls Try.prog 14 #[v, .int .i64 k0] w fun e w' => e = .returned (.int .i64 (k0 + (xs.length : Int))) ∧ Own w' base 2 v (i64s (marks .i64 k0 xs.length)) ∧ w.grownBy w' v.ownBlock := by
  obtain ⟨A, c, rfl, S⟩ := h.sl
  have hbig := S.1
  have HX := As.mk (marked_zero .i64 k0 xs)
  have HL := As.mk hk0
  generalize hm : xs.length = n at *
  have HM := As.mk hm
  go_enter Try.func14, Try.ntmps14
  go_wp2
  go_loopw [5, 1] (fun i kk wr => ∃ j : Nat, j ≤ n ∧ i = .int .i64 j ∧ kk = .int .i64 (k0 + (j : Int)) ∧ Own wr base 2 (.slice A n c) (i64s (marked .i64 k0 xs j)) ∧ w.grownBy wr (Value.slice A n c).ownBlock) (fun i kk _ => n - (intOf i).toNat)
  case atStart => exact ⟨0, by omega, rfl, by simp, by rw [HX.out]; exact h, World.grownBy.refl _ _⟩
  case round =>
    obtain ⟨j, hj, rfl, rfl, hO, hg⟩ := hrel
    by_cases hlt : j < n
    · have hlt' : (j : Int) < (n : Int) := by omega
      obtain ⟨g, rfl⟩ := hO.addr (by rw [i64s_length, marked_length, HM.out]; omega)
      have hO' := hO
      have hs := (World.ownsRow.stored (by have := hO; unfold Own at this; rwa [i64s_length, marked_length, HM.out] at this) j (.int .i64 (IntKind.wrap .i64 (k0 + (j : Int))))).2
      have f0 := hO.frozenAt j
      obtain ⟨u0, c1⟩ := hO.someAt j (by rw [i64s_length, marked_length, HM.out]; exact hlt)
      have hw : As (IntKind.wrap .i64 (k0 + (j : Int)) = k0 + (j : Int)) := ⟨wrap_i64 _ (by omega) (by omega)⟩
      rw [hw.out] at hs
      go_wp2
      go_roundw
      case rel => exact ⟨j + 1, by omega, by go_num, by go_num, by have := hO.set (by rw [i64s_length, marked_length, HM.out]) j (.int .i64 (IntKind.wrap .i64 (k0 + (j : Int)))); rw [i64s_set, marked_succ] at this; rw [hw.out] at this; exact this, hg.trans hs⟩
      case measure => simp [intOf]; omega
    · obtain rfl : j = n := by omega
      go_wp2
      go_ret
      exact ⟨rfl, by rw [marked_full .i64 k0 xs j HM.out] at hO; exact hO, hg⟩
set_option maxHeartbeats 400000 in
theorem heldInt64S_any (n : Nat) (A : Option Addr) (c : Nat) (k0 : Int) (hk1 : 0 ≤ k0) (hk0 : k0 + (n : Int) ≤ 2147483647) (w : World) (h : Sl .i64 w A (marks .i64 k0 n)) :
    Calls Try.prog 15 #[.slice A n c, .int .i64 k0] w fun e w' => e = .returned (.int .i64 (k0 + (n : Int))) ∧ Below w.heap.size w w' := by
  have HL := As.mk hk0
  have HM := As.mk (marks_length .i64 k0 n)
  go_enter Try.func15, Try.ntmps15
  go_wp2
  go_loopw [5, 1] (fun i kk wr => ∃ j q : Nat, j ≤ n ∧ i = .int .i64 j ∧ kk = .int .i64 (k0 + (j : Int)) ∧ wr = w.drewN q) (fun i kk _ => n - (intOf i).toNat)
  case atStart => exact ⟨0, 0, by omega, rfl, by simp, rfl⟩
  case round =>
    obtain ⟨j, q, hj, rfl, rfl, rfl⟩ := hrel
    by_cases hlt : j < n
    · have hlt' : (j : Int) < (n : Int) := by omega
      obtain ⟨b, o, rfl, hr⟩ := h.2 (by rw [HM.out]; omega)
      have c0 : w.cell? ⟨b, o + j, none⟩ = some (.int .i64 (IntKind.wrap .i64 (k0 + (j : Int)))) := by
        have := hr j _ (i64s_get _ j (by rw [HM.out]; exact hlt)); rwa [marks_nth _ _ _ _ hlt] at this
      rw [wrap_i64 _ (by omega) (by omega)] at c0
      go_wp2
      go_roundw
      case rel => exact ⟨j + 1, _, by omega, by go_num, by go_num, rfl⟩
      case measure => simp [intOf]; omega
    · obtain rfl : j = n := by omega
      go_wp2
      go_ret
      exact ⟨rfl, bl_drewN (Below.refl _ _) _⟩
end Go.Proofs.Ytjppoejkfpeicaa
