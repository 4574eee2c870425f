/- Contracts: slices.Reverse over the 24 bytes of a flag; TurnFlag, both sides. -/
import Derived.Test.YtjppoejkfpeicaaDoorF8
set_option linter.unusedVariables false
namespace Go.Proofs.YtjppoejkfpeicaaDoor
open Go.RowKit

/-- Only block g of w may have been written; new blocks may have come. -/
def Only (g : Nat) (w w' : World) : Prop := w.grownBy w' (some g)
theorem Only.refl (g : Nat) (w : World) : Only g w w := ⟨rfl, rfl, rfl, Nat.le_refl _, fun _ _ _ => rfl⟩
theorem Only.setCell {g : Nat} {w w' : World} (h : Only g w w') (i : Nat) (v : Value) : Only g w (w'.setCell ⟨g, i, none⟩ v) :=
  ⟨h.os, h.tape, h.output, by simpa [World.setCell] using h.size, fun k hk hne => by rw [← h.block k hk hne]; exact heap_setCell_other w' ⟨g, i, none⟩ k v (fun e => hne (by rw [e]))⟩
theorem Only.drewN {g : Nat} {w w' : World} (h : Only g w w') (n : Nat) : Only g w (w'.drewN n) := ⟨h.os, h.tape, h.output, h.size, h.block⟩
theorem Only.drew {g : Nat} {w w' : World} (h : Only g w w') : Only g w w'.drew := ⟨h.os, h.tape, h.output, h.size, h.block⟩
theorem Only.blk {g b : Nat} {w w' : World} {cs : List Value} {t : TypeId} (h : Only g w w') (hB : Blk w b cs t) (hne : b ≠ g) : Blk w' b cs t := (h.block b hB.lt (fun e => hne (Option.some.inj e))).trans hB
theorem Only.below {g B : Nat} {w0 w w' : World} (h : Only g w w') (hb : Below B w0 w) (hg : B ≤ g) (hB : B ≤ w.heap.size) : Below B w0 w' :=
  hb.trans ⟨h.os, h.tape, h.output, h.size, fun k hk => h.block k (Nat.lt_of_lt_of_le hk hB) (fun e => by injection e with e; omega)⟩
theorem cell?_setCell_some {w : World} {p q : Addr} {x v : Value} (h : w.cell? q = some v) : ∃ v', (w.setCell p x).cell? q = some v' := by
  by_cases e : p = q
  · subst e; exact ⟨x, World.cell?_setCell_same w p x h⟩
  · exact ⟨v, (World.cell?_setCell_other w p q x e).trans h⟩

/-- k exchanges from both ends. -/
def revK (xs : List Int) (k : Nat) : List Int := (List.range 24).map fun i => if i < k ∨ 23 < i + k then nth xs (23 - i) else nth xs i
theorem revK_length (xs : List Int) (k : Nat) : (revK xs k).length = 24 := by simp [revK]
theorem revK_zero (xs : List Int) (hx : xs.length = 24) : revK xs 0 = xs := by
  conv => rhs; rw [← range_nth xs 24 hx]
  apply List.map_congr_left
  intro i hi
  rw [List.mem_range] at hi
  rw [if_neg (by omega)]
theorem revK_done (xs : List Int) : revK xs 12 = turnL xs := by
  apply List.map_congr_left
  intro i hi
  rw [List.mem_range] at hi
  rw [if_pos (by omega)]
theorem revK_nth (xs : List Int) (k i : Nat) (hi : i < 24) (h : ¬ (i < k ∨ 23 < i + k)) : nth (revK xs k) i = nth xs i := by
  unfold revK; rw [nth_map_range _ _ _ hi, if_neg h]
theorem revK_step (xs : List Int) (k m : Nat) (hk : k < 12) (hm : k + m = 23) : ((revK xs k).set k (nth xs m)).set m (nth xs k) = revK xs (k + 1) := by
  apply List.ext_getElem
  · simp [revK]
  · intro i h1 h2
    simp only [List.getElem_set, revK, List.getElem_map, List.getElem_range]
    have hi : i < 24 := by simpa [revK] using h2
    by_cases e1 : m = i
    · subst e1
      rw [if_pos rfl, if_pos (by omega)]
      congr 1; omega
    · rw [if_neg e1]
      by_cases e2 : k = i
      · subst e2
        rw [if_pos rfl, if_pos (by omega)]
        congr 1; omega
      · rw [if_neg e2]
        by_cases h3 : i < k ∨ 23 < i + k
        · rw [if_pos h3, if_pos (by omega)]
        · rw [if_neg h3, if_neg (by omega)]

set_option maxHeartbeats 800000 in
theorem Reverse_u8 (xs : List Int) (hx : xs.length = 24) (b c : Nat) (t : TypeId) (w : World) (hB : Blk w b (u8s xs) t) :
    Calls Tryd.prog 62 #[.slice (some ⟨b, 0, none⟩) 24 c] w fun e w' => e = .returned (.tuple #[]) ∧ Blk w' b (u8s (turnL xs)) t ∧ Only b w w' := by
  go_enter Tryd.func62, Tryd.ntmps62
  go_wp2
  go_loopw [2, 3] (fun i j wr => ∃ k m : Nat, k ≤ 12 ∧ k + m = 23 ∧ i = .int .i64 k ∧ j = .int .i64 m ∧ Blk wr b (u8s (revK xs k)) t ∧ Only b w wr) (fun i _ _ => 12 - (intOf i).toNat)
  case atStart => exact ⟨0, 23, by omega, by omega, rfl, rfl, by rw [revK_zero xs hx]; exact hB, Only.refl _ _⟩
  case round =>
    obtain ⟨k, m, hk, hm, rfl, rfl, h1, ho⟩ := hrel
    by_cases hlt : k < 12
    · have ha : (k : Int) < (m : Int) := by omega
      have hb0 : (k : Int) < 24 := by omega
      have hb1 : (m : Int) < 24 := by omega
      have c0 : wr.cell? ⟨b, k, none⟩ = some (.int .u8 (nth xs k)) := by rw [h1.at, u8s_get _ k (by rw [revK_length]; omega), revK_nth xs k k (by omega) (by omega)]
      have c1 : wr.cell? ⟨b, m, none⟩ = some (.int .u8 (nth xs m)) := by rw [h1.at, u8s_get _ m (by rw [revK_length]; omega), revK_nth xs k m (by omega) (by omega)]
      have f0 := h1.frozen k
      have f1 := h1.frozen m
      obtain ⟨v', c2⟩ := cell?_setCell_some (w := wr.drew) (p := ⟨b, k, none⟩) (x := .int .u8 (nth xs m)) (q := ⟨b, m, none⟩) (v := .int .u8 (nth xs m)) (by go_simp)
      rw [World.setCell_drew, World.cell?_drew] at c2
      have hs := As.mk (revK_step xs k m hlt hm)
      have hm' := As.mk hm
      clear hm
      go_wp2
      go_region
      go_wp2
      go_roundw
      case rel => exact ⟨k + 1, m - 1, by omega, by have := hm'.out; omega, by go_num, by have := hm'.out; go_num, by have h2 := (h1.set k (.int .u8 (nth xs m))).set m (.int .u8 (nth xs k)); rw [u8s_set, u8s_set, hs.out] at h2; exact h2, (((ho.setCell _ _).setCell _ _)).drew⟩
      case measure => simp [intOf]; omega
    · obtain rfl : k = 12 := by omega
      obtain rfl : m = 11 := by omega
      rw [revK_done] at h1
      go_wp2
      go_end0
      exact ⟨rfl, h1, ho⟩
end Go.Proofs.YtjppoejkfpeicaaDoor
