/- Contracts: pieces: how many there are of each number: plain lists, 'of', 'add', 'even'; hoistCode. -/
import Derived.Test.YtnokdbnlagoidaaFd
import Derived.Test.YtnokdbnlagoidaaF7
import Derived.BigQuiet
set_option linter.unusedVariables false
namespace Go.Proofs.Ytnokdbnlagoidaa
open Go.RowKit

/-- Where a number's pieces are counted. -/
def idxP (x : Int) : Nat := if 0 ≤ x then x.toNat else 40 + (-x - 1).toNat
def isPc (x : Int) : Prop := (0 ≤ x ∧ x ≤ 39) ∨ (-4 ≤ x ∧ x ≤ -1)
theorem idxP_lt {x : Int} (h : isPc x) : idxP x < 44 := by unfold idxP isPc at *; split <;> omega
/-- The number that is counted at a place. -/
def atP (i : Nat) : Int := if i < 40 then (i : Int) else -((i - 40 : Nat) : Int) - 1
theorem atP_idx {x : Int} (h : isPc x) : atP (idxP x) = x := by unfold atP idxP isPc at *; split <;> split at * <;> omega
theorem idx_atP {i : Nat} (h : i < 44) : idxP (atP i) = i := by unfold atP idxP; split <;> split <;> omega
/-- How many pieces there are of a number while a hoist is made. -/
def haveX (sets subs : Nat) (h : List Int) (x : Int) : Int := if 0 ≤ x ∨ -x ≤ (subs : Int) then (sets : Int) - (h.count x : Int) else 0
def haveL (sets subs : Nat) (h : List Int) : List Int := (List.range 44).map fun i => haveX sets subs h (atP i)
theorem haveL_length (sets subs : Nat) (h : List Int) : (haveL sets subs h).length = 44 := by simp [haveL]
theorem haveL_nth (sets subs : Nat) (h : List Int) {x : Int} (hx : isPc x) : nth (haveL sets subs h) (idxP x) = haveX sets subs h x := by
  unfold haveL; rw [nth_map_range _ _ _ (idxP_lt hx), atP_idx hx]
theorem haveX_other {sets subs : Nat} {h : List Int} {x y : Int} (hne : x ≠ y) : haveX sets subs (h ++ [x]) y = haveX sets subs h y := by
  unfold haveX; rw [List.count_append, List.count_singleton]; simp [hne]
theorem haveX_same {sets subs : Nat} {h : List Int} {x : Int} (ho : 0 ≤ x ∨ -x ≤ (subs : Int)) : haveX sets subs (h ++ [x]) x = haveX sets subs h x - 1 := by
  unfold haveX; rw [if_pos ho, if_pos ho, List.count_append, List.count_singleton]; simp; omega
theorem haveL_set {sets subs : Nat} {h h' : List Int} {x : Int} {v : Int} (hx : isPc x) (hv : haveX sets subs h' x = v) (ho : ∀ y, y ≠ x → haveX sets subs h' y = haveX sets subs h y) : (haveL sets subs h).set (idxP x) v = haveL sets subs h' := by
  apply List.ext_getElem
  · simp [haveL]
  · intro i h1 h2
    rw [haveL_length] at h2
    simp only [List.getElem_set, haveL, List.getElem_map, List.getElem_range]
    by_cases e : idxP x = i
    · rw [if_pos e, ← e, atP_idx hx, hv]
    · rw [if_neg e, ho]
      intro e2
      exact e (by rw [← e2]; exact idx_atP h2)
theorem have_less {sets subs : Nat} {h : List Int} {x : Int} (hx : isPc x) (ho : 0 ≤ x ∨ -x ≤ (subs : Int)) : (haveL sets subs h).set (idxP x) (haveX sets subs h x + -1) = haveL sets subs (h ++ [x]) :=
  haveL_set hx (by rw [haveX_same ho]; omega) (fun y hy => haveX_other (Ne.symm hy))
theorem have_more {sets subs : Nat} {h : List Int} {x : Int} (hx : isPc x) (ho : 0 ≤ x ∨ -x ≤ (subs : Int)) : (haveL sets subs (h ++ [x])).set (idxP x) (haveX sets subs (h ++ [x]) x + 1) = haveL sets subs h :=
  haveL_set hx (by rw [haveX_same ho]; omega) (fun y hy => (haveX_other (Ne.symm hy)).symm)
theorem have_brk {sets subs : Nat} {h : List Int} : haveL sets subs (h ++ [-10]) = haveL sets subs h := by
  unfold haveL
  apply List.map_congr_left
  intro i hi
  rw [List.mem_range] at hi
  apply haveX_other
  unfold atP
  split <;> omega
theorem haveX_bound {sets subs : Nat} {h : List Int} {x : Int} (hs : sets ≤ 8) (hl : h.length ≤ 8) : -8 ≤ haveX sets subs h x ∧ haveX sets subs h x ≤ 8 := by
  unfold haveX
  have := List.count_le_length (a := x) (l := h)
  split <;> omega
/-- A piece is there just where the spec has enough. -/
theorem have_zero {sets subs : Nat} {h : List Int} (hw : Way sets subs h) {x : Int} (h10 : x ≠ -10) : (haveX sets subs h x == 0) = !(decide (0 ≤ x ∨ -x ≤ (subs : Int)) && enough sets h x) := by
  unfold haveX enough
  have := hw.few x h10
  by_cases ho : 0 ≤ x ∨ -x ≤ (subs : Int)
  · rw [if_pos ho, decide_eq_true ho, Bool.true_and]
    by_cases hc : h.count x < sets
    · rw [decide_eq_true hc]; simp; omega
    · rw [decide_eq_false hc]; simp; omega
  · rw [if_neg ho, decide_eq_false ho]; simp
/-- What the program tries is what the spec tries. -/
theorem subs_filter (m : List Int) (i g subs : Nat) (p : Int → Bool) : ∀ n, subs ≤ n → (subsAt m i g n).filter (fun x => decide (0 ≤ x ∨ -x ≤ (subs : Int)) && p x) = (subsAt m i g subs).filter p
  | 0, h => by
    obtain rfl : subs = 0 := by omega
    rfl
  | n + 1, h => by
    by_cases e : subs = n + 1
    · subst e
      apply List.filter_congr
      intro x hx
      have key : ∀ k, k ≤ n + 1 → ∀ x ∈ subsAt m i g k, -x ≤ (k : Int) := by
        intro k
        induction k with
        | zero => intro _ x hx; cases hx
        | succ k ih =>
          intro hk x hx
          unfold subsAt at hx
          rcases List.mem_append.1 hx with h | h
          · split at h
            · simp at h; omega
            · cases h
          · have := ih (by omega) x h; omega
      rw [decide_eq_true (.inr (key _ (Nat.le_refl _) x hx)), Bool.true_and]
    · show ((if subAt m i g (n + 1) then [-((n + 1 : Nat) : Int)] else []) ++ subsAt m i g n).filter _ = _
      rw [List.filter_append, subs_filter m i g subs p n (by omega)]
      have : ∀ b : Bool, (if b then [-((n + 1 : Nat) : Int)] else []).filter (fun x => decide (0 ≤ x ∨ -x ≤ (subs : Int)) && p x) = [] := by
        intro b
        cases b
        · rfl
        · rw [if_pos rfl, List.filter_cons, decide_eq_false (by omega)]; rfl
      rw [this, List.nil_append]
theorem opts_filter {m : List Int} {i g subs : Nat} (hs : subs ≤ 4) (p : Int → Bool) (hx : 0 ≤ nth m i) : (optsAt m i g 4).filter (fun x => decide (0 ≤ x ∨ -x ≤ (subs : Int)) && p x) = (optsAt m i g subs).filter p := by
  unfold optsAt
  rw [List.filter_append, List.filter_append, subs_filter m i g subs p 4 hs, List.filter_cons, List.filter_cons, decide_eq_true (.inl hx), Bool.true_and]; rfl
theorem opts_pc {m : List Int} {i g : Nat} (hx : 0 ≤ nth m i ∧ nth m i ≤ 39) : ∀ x ∈ optsAt m i g 4, isPc x := by
  intro x h
  unfold optsAt at h
  rcases List.mem_append.1 h with h | h
  · have key : ∀ n, n ≤ 4 → ∀ x ∈ subsAt m i g n, -4 ≤ x ∧ x ≤ -1 := by
      intro n
      induction n with
      | zero => intro _ x hx; cases hx
      | succ n ih =>
        intro hn x hx
        unfold subsAt at hx
        rcases List.mem_append.1 hx with h | h
        · split at h
          · simp at h; omega
          · cases h
        · exact ih (by omega) x h
    exact .inr (key 4 (Nat.le_refl _) x h)
  · simp at h; subst h; exact .inl hx

theorem info_44 : (Try.prog.info? 76).map (·.size) = some 44 := by kernel_rfl
def zero44 : List Int := List.replicate 44 0

set_option maxHeartbeats 1000000 in
theorem of_any (ps : List Int) (hl : ps.length = 44) (P : Nat) (x : Int) (hx : isPc x) (w : World) (hB : Blk w P (i64s ps) 76) :
    Calls Try.prog 93 #[.pointer (some ⟨P, 0, none⟩), .int .i8 x] w fun e w' => e = .returned (.int .i64 (nth ps (idxP x))) ∧ w = w' := by
  by_cases h0 : 0 ≤ x
  · obtain ⟨q, rfl⟩ : ∃ q : Nat, x = (q : Int) := ⟨x.toNat, by omega⟩
    have hq : q < 40 := by unfold isPc at hx; omega
    have hi : idxP (q : Int) = q := by unfold idxP; rw [if_pos h0]; omega
    rw [hi]
    have c0 : w.cell? ⟨P, q, none⟩ = some (.int .i64 (nth ps q)) := by rw [hB.at, i64s_get ps q (by omega)]
    have hq' : (q : Int) < 40 := by omega
    clear hx
    go_enter Try.func93, Try.ntmps93
    go_wp2
    go_ret
    exact ⟨rfl, rfl⟩
  · obtain ⟨q, rfl⟩ : ∃ q : Nat, x = -((q : Int) + 1) := ⟨(-x - 1).toNat, by omega⟩
    have hq : q < 4 := by unfold isPc at hx; omega
    have hi : idxP (-((q : Int) + 1)) = 40 + q := by unfold idxP; rw [if_neg h0]; omega
    rw [hi]
    have c0 : w.cell? ⟨P, 40 + q, none⟩ = some (.int .i64 (nth ps (40 + q))) := by rw [hB.at, i64s_get ps (40 + q) (by omega)]
    have hq' : (q : Int) < 4 := by omega
    clear hx
    go_enter Try.func93, Try.ntmps93
    go_wp2
    go_ret
    exact ⟨rfl, rfl⟩

theorem pieces_there (ps : List Int) (hl : ps.length = 44) (P i : Nat) (hi : i < 44) (w : World) (hB : Blk w P (i64s ps) 76) : w.cell? ⟨P, i, none⟩ = some (.int .i64 (nth ps i)) := by rw [hB.at, i64s_get ps i (by omega)]
set_option maxRecDepth 100000 in
set_option maxHeartbeats 2000000 in
theorem add_any (ps : List Int) (hl : ps.length = 44) (P : Nat) (x : Int) (hx : isPc x) (t : Int) (ht : -1 ≤ t ∧ t ≤ 1) (hb : -100 ≤ nth ps (idxP x) ∧ nth ps (idxP x) ≤ 100) (w : World) (hB : Blk w P (i64s ps) 76) :
    Calls Try.prog 94 #[.pointer (some ⟨P, 0, none⟩), .int .i8 x, .int .i64 t] w fun e w' => e = .returned (.tuple #[]) ∧ Blk w' P (i64s (ps.set (idxP x) (nth ps (idxP x) + t))) 76 ∧ w.grownBy w' (some P) := by
  have t1 := ht.1
  have t2 := ht.2
  clear ht
  have hS := hB.set (idxP x) (.int .i64 (nth ps (idxP x) + t))
  rw [i64s_set] at hS
  have hg := grow_set (World.grownBy.refl w (some P)) (idxP x) (.int .i64 (nth ps (idxP x) + t))
  have f0 := hB.frozen (idxP x)
  have c0 := pieces_there ps hl P (idxP x) (idxP_lt hx) w hB
  by_cases h0 : 0 ≤ x
  · obtain ⟨q, rfl⟩ : ∃ q : Nat, x = (q : Int) := ⟨x.toNat, by omega⟩
    have hq : q < 40 := by unfold isPc at hx; omega
    have hi : idxP (q : Int) = q := by unfold idxP; rw [if_pos h0]; omega
    simp only [hi] at hS hg f0 c0 hb ⊢
    have hq' : (q : Int) < 40 := by omega
    have hb1 := hb.1
    have hb2 := hb.2
    generalize nth ps q = v at *
    clear hx hb hi
    go_enter Try.func94, Try.ntmps94
    go_wp2
    go_region
    go_wp2
    go_end0
    exact ⟨rfl, hS, grownBy_drewN hg 1⟩
  · obtain ⟨q, rfl⟩ : ∃ q : Nat, x = -((q : Int) + 1) := ⟨(-x - 1).toNat, by omega⟩
    have hq : q < 4 := by unfold isPc at hx; omega
    have hi : idxP (-((q : Int) + 1)) = 40 + q := by unfold idxP; rw [if_neg h0]; omega
    simp only [hi] at hS hg f0 c0 hb ⊢
    have hq' : (q : Int) < 4 := by omega
    have h10 : (-((q : Int) + 1) != -10) = true := by rw [bne_iff_ne]; omega
    have hb1 := hb.1
    have hb2 := hb.2
    generalize nth ps (40 + q) = v at *
    clear hx hb hi
    go_enter Try.func94, Try.ntmps94
    go_wp2
    go_region
    go_wp2
    go_end0
    exact ⟨rfl, hS, grownBy_drewN hg 1⟩

/-- So many of the first k kinds and j substitutes. -/
def evenL (sets k j : Nat) : List Int := (List.range 44).map fun (i : Nat) => if i < k ∨ (40 ≤ i ∧ i < 40 + j) then (sets : Int) else 0
theorem evenL_length (sets k j : Nat) : (evenL sets k j).length = 44 := by simp [evenL]
theorem evenL_zero (sets : Nat) : evenL sets 0 0 = zero44 := by
  unfold evenL zero44
  apply List.ext_getElem
  · simp
  · intro i h1 h2
    simp only [List.getElem_map, List.getElem_range, List.getElem_replicate]
    rw [if_neg (by omega)]
theorem evenL_kind (sets k : Nat) : (evenL sets k 0).set k (sets : Int) = evenL sets (k + 1) 0 := by
  unfold evenL
  apply List.ext_getElem
  · simp
  · intro i h1 h2
    simp only [List.getElem_set, List.getElem_map, List.getElem_range]
    by_cases e : k = i
    · rw [if_pos e, if_pos (by omega)]
    · rw [if_neg e]
      by_cases hl : i < k
      · rw [if_pos (by omega), if_pos (by omega)]
      · rw [if_neg (by omega), if_neg (by omega)]
theorem evenL_sub (sets j : Nat) : (evenL sets 40 j).set (40 + j) (sets : Int) = evenL sets 40 (j + 1) := by
  unfold evenL
  apply List.ext_getElem
  · simp
  · intro i h1 h2
    simp only [List.getElem_set, List.getElem_map, List.getElem_range]
    by_cases e : 40 + j = i
    · rw [if_pos e, if_pos (by omega)]
    · rw [if_neg e]
      by_cases hl : i < 40 ∨ (40 ≤ i ∧ i < 40 + j)
      · rw [if_pos hl, if_pos (by omega)]
      · rw [if_neg hl, if_neg (by omega)]
theorem evenL_have (sets subs : Nat) : evenL sets 40 subs = haveL sets subs [] := by
  unfold evenL haveL haveX atP
  apply List.map_congr_left
  intro i hi
  rw [List.mem_range] at hi
  simp only [List.count_nil, Int.natCast_zero, Int.sub_zero]
  by_cases h : i < 40
  · rw [if_pos (.inl h), if_pos h, if_pos (by omega)]
  · rw [if_neg h]
    by_cases h2 : i < 40 + subs
    · rw [if_pos (by omega), if_pos (by omega)]
    · rw [if_neg (by omega), if_neg (by omega)]

set_option maxRecDepth 100000 in
set_option maxHeartbeats 2000000 in
theorem even_any (sets subs : Nat) (hsets : sets ≤ 8) (hsubs : subs ≤ 4) (w : World) :
    Calls Try.prog 56 #[.int .i64 sets, .int .i64 subs] w fun e w' => e = .returned (.agg (i64s (haveL sets subs [])).toArray) ∧ Below w.heap.size w w' := by
  rw [← evenL_have]
  have W1 : Blk ((w.alloc (.cells #[.int .i64 0, .int .i64 0, .int .i64 0, .int .i64 0, .int .i64 0, .int .i64 0, .int .i64 0, .int .i64 0, .int .i64 0, .int .i64 0, .int .i64 0, .int .i64 0, .int .i64 0, .int .i64 0, .int .i64 0, .int .i64 0, .int .i64 0, .int .i64 0, .int .i64 0, .int .i64 0, .int .i64 0, .int .i64 0, .int .i64 0, .int .i64 0, .int .i64 0, .int .i64 0, .int .i64 0, .int .i64 0, .int .i64 0, .int .i64 0, .int .i64 0, .int .i64 0, .int .i64 0, .int .i64 0, .int .i64 0, .int .i64 0, .int .i64 0, .int .i64 0, .int .i64 0, .int .i64 0, .int .i64 0, .int .i64 0, .int .i64 0, .int .i64 0] 76)).alloc (.cells #[.int .i64 0, .int .i64 0, .int .i64 0, .int .i64 0, .int .i64 0, .int .i64 0, .int .i64 0, .int .i64 0, .int .i64 0, .int .i64 0, .int .i64 0, .int .i64 0, .int .i64 0, .int .i64 0, .int .i64 0, .int .i64 0, .int .i64 0, .int .i64 0, .int .i64 0, .int .i64 0, .int .i64 0, .int .i64 0, .int .i64 0, .int .i64 0, .int .i64 0, .int .i64 0, .int .i64 0, .int .i64 0, .int .i64 0, .int .i64 0, .int .i64 0, .int .i64 0, .int .i64 0, .int .i64 0, .int .i64 0, .int .i64 0, .int .i64 0, .int .i64 0, .int .i64 0, .int .i64 0, .int .i64 0, .int .i64 0, .int .i64 0, .int .i64 0] 76)) w.heap.size (i64s zero44) 76 := (Blk.mk _ (i64s zero44) _ rfl).alloc _
  have W2 : Blk ((w.alloc (.cells #[.int .i64 0, .int .i64 0, .int .i64 0, .int .i64 0, .int .i64 0, .int .i64 0, .int .i64 0, .int .i64 0, .int .i64 0, .int .i64 0, .int .i64 0, .int .i64 0, .int .i64 0, .int .i64 0, .int .i64 0, .int .i64 0, .int .i64 0, .int .i64 0, .int .i64 0, .int .i64 0, .int .i64 0, .int .i64 0, .int .i64 0, .int .i64 0, .int .i64 0, .int .i64 0, .int .i64 0, .int .i64 0, .int .i64 0, .int .i64 0, .int .i64 0, .int .i64 0, .int .i64 0, .int .i64 0, .int .i64 0, .int .i64 0, .int .i64 0, .int .i64 0, .int .i64 0, .int .i64 0, .int .i64 0, .int .i64 0, .int .i64 0, .int .i64 0] 76)).alloc (.cells #[.int .i64 0, .int .i64 0, .int .i64 0, .int .i64 0, .int .i64 0, .int .i64 0, .int .i64 0, .int .i64 0, .int .i64 0, .int .i64 0, .int .i64 0, .int .i64 0, .int .i64 0, .int .i64 0, .int .i64 0, .int .i64 0, .int .i64 0, .int .i64 0, .int .i64 0, .int .i64 0, .int .i64 0, .int .i64 0, .int .i64 0, .int .i64 0, .int .i64 0, .int .i64 0, .int .i64 0, .int .i64 0, .int .i64 0, .int .i64 0, .int .i64 0, .int .i64 0, .int .i64 0, .int .i64 0, .int .i64 0, .int .i64 0, .int .i64 0, .int .i64 0, .int .i64 0, .int .i64 0, .int .i64 0, .int .i64 0, .int .i64 0, .int .i64 0] 76)) (w.heap.size + 1) (i64s zero44) 76 := Blk.mk _ (i64s zero44) _ (by simp)
  have b0 : Below w.heap.size w ((w.alloc (.cells #[.int .i64 0, .int .i64 0, .int .i64 0, .int .i64 0, .int .i64 0, .int .i64 0, .int .i64 0, .int .i64 0, .int .i64 0, .int .i64 0, .int .i64 0, .int .i64 0, .int .i64 0, .int .i64 0, .int .i64 0, .int .i64 0, .int .i64 0, .int .i64 0, .int .i64 0, .int .i64 0, .int .i64 0, .int .i64 0, .int .i64 0, .int .i64 0, .int .i64 0, .int .i64 0, .int .i64 0, .int .i64 0, .int .i64 0, .int .i64 0, .int .i64 0, .int .i64 0, .int .i64 0, .int .i64 0, .int .i64 0, .int .i64 0, .int .i64 0, .int .i64 0, .int .i64 0, .int .i64 0, .int .i64 0, .int .i64 0, .int .i64 0, .int .i64 0] 76)).alloc (.cells #[.int .i64 0, .int .i64 0, .int .i64 0, .int .i64 0, .int .i64 0, .int .i64 0, .int .i64 0, .int .i64 0, .int .i64 0, .int .i64 0, .int .i64 0, .int .i64 0, .int .i64 0, .int .i64 0, .int .i64 0, .int .i64 0, .int .i64 0, .int .i64 0, .int .i64 0, .int .i64 0, .int .i64 0, .int .i64 0, .int .i64 0, .int .i64 0, .int .i64 0, .int .i64 0, .int .i64 0, .int .i64 0, .int .i64 0, .int .i64 0, .int .i64 0, .int .i64 0, .int .i64 0, .int .i64 0, .int .i64 0, .int .i64 0, .int .i64 0, .int .i64 0, .int .i64 0, .int .i64 0, .int .i64 0, .int .i64 0, .int .i64 0, .int .i64 0] 76)) := bl_new (bl_new (Below.refl _ _) _) _
  have V1 := W1.farRow (g := w.heap.size + 1) (by omega) (i64s zero44).toArray
  have V2 := W2.setRow (i64s zero44)
  have d0 := bl_setRow b0 (g := w.heap.size + 1) (by omega) (i64s zero44).toArray
  have HZ := As.mk (evenL_zero sets)
  have hz44 : zero44.length = 44 := by simp [zero44]
  have hs8 : (sets : Int) ≤ 8 := by omega
  have hs4 : (subs : Int) ≤ 4 := by omega
  go_enter Try.func56, Try.ntmps56
  go_wp2_with (refine store_blk rfl 76 _ _ rfl _ rfl (ds := i64s zero44) rfl W2 info_44 (by rw [i64s_length]; exact rfl) (by rw [i64s_length]; exact rfl) (i64s_one _) ?_)
  go_loopw [9] (fun i wr => ∃ k : Nat, k ≤ 40 ∧ i = .int .i64 k ∧ Blk wr w.heap.size (i64s zero44) 76 ∧ Blk wr (w.heap.size + 1) (i64s (evenL sets k 0)) 76 ∧ Below w.heap.size w wr) (fun i _ => 40 - (intOf i).toNat)
  case atStart => exact ⟨0, by omega, rfl, V1, by rw [HZ.out]; exact V2, d0⟩
  case round =>
    obtain ⟨k, hk, rfl, X1, X2, hb⟩ := hrel
    clear W1 W2 V1 V2 b0 d0
    by_cases hlt : k < 40
    · have hlt' : (k : Int) < 40 := by omega
      have hst := As.mk (evenL_kind sets k)
      obtain ⟨u0, c0⟩ := X2.some k (by rw [i64s_length, evenL_length]; omega)
      have f0 := X2.frozen k
      go_wp2_with (fail)
      go_roundw
      case rel => exact ⟨k + 1, by omega, by go_num, X1.far (by simp) _, by have := X2.set k (.int .i64 (sets : Int)); rw [i64s_set, hst.out] at this; exact this, hb.setCell (by simp) _⟩
      case measure => simp [intOf]; omega
    · obtain rfl : k = 40 := by omega
      go_wp2_with (fail)
      go_loopw [18] (fun i wr => ∃ k : Nat, k ≤ subs ∧ i = .int .i64 k ∧ Blk wr w.heap.size (i64s zero44) 76 ∧ Blk wr (w.heap.size + 1) (i64s (evenL sets 40 k)) 76 ∧ Below w.heap.size w wr) (fun i _ => 40 - (intOf i).toNat)
      case atStart => exact ⟨0, by omega, rfl, X1, X2, hb⟩
      case round =>
        clear X1 X2 hb
        obtain ⟨k, hk, rfl, X1, X2, hb⟩ := hrel
        by_cases hlt : k < subs
        · have hlt' : (k : Int) < (subs : Int) := by omega
          have hlt4 : (k : Int) < 4 := by omega
          have hst := As.mk (evenL_sub sets k)
          obtain ⟨u0, c0⟩ := X2.some (40 + k) (by rw [i64s_length, evenL_length]; omega)
          have f0 := X2.frozen (40 + k)
          go_wp2_with (fail)
          go_roundw
          case rel => exact ⟨k + 1, by omega, by go_num, X1.far (by simp) _, by have := X2.set (40 + k) (.int .i64 (sets : Int)); rw [i64s_set, hst.out] at this; exact this, hb.setCell (by simp) _⟩
          case measure => simp [intOf]; omega
        · obtain rfl : k = subs := by omega
          have hl44 := evenL_length sets 40 k
          go_wp2_with (first | (refine load_blk rfl 76 _ rfl _ rfl X2 Try.underlying76 rfl info_44 (by rw [i64s_length]; exact hl44) ?_) | (refine store_blk rfl 76 _ _ rfl _ rfl (ds := i64s (evenL sets 40 k)) rfl X1 info_44 (by rw [i64s_length]; exact hl44) (by rw [i64s_length]; exact hz44) (i64s_one _) ?_))
          refine ret_blk rfl _ rfl (X1.setRow _) Try.underlying76 rfl info_44 (by rw [i64s_length]; exact hl44) rfl ⟨rfl, bl_setRow hb (by omega) _⟩

set_option maxRecDepth 100000 in
set_option maxHeartbeats 1000000 in
theorem hoistCode_any (m : List Int) (rm : ∀ n ∈ m, -128 ≤ n ∧ n ≤ 127) (hn : m.length ≤ 1048576) (A : Option Addr) (cm : Nat) (sets subs : Int) (w : World) (hs : Sl .i8 w A m) :
    Calls Try.prog 54 #[.slice A m.length cm, .int .i64 sets, .int .i64 subs] w fun e w' => e = .returned (.int .i64 (askC m sets subs)) ∧ Below w.heap.size w w' := by
  have key := ValidMeaning_any m A cm w hs rm hn
  have hC := As.mk (show askC m sets subs = if mOk m then (if inR sets 1 8 && inR subs 0 4 then 0 else 2) else 1 from rfl)
  cases hk : mOk m
  · go_enter Try.func54, Try.ntmps54
    go_wp2_with (fail)
    refine key.mono ?_; rintro e w1 ⟨rfl, hb⟩
    rw [hk]
    go_wp2_with (fail)
    go_ret
    exact ⟨ret_n (by rw [hC.out, hk]; rfl), hb⟩
  · cases h1 : inR sets 1 8
    · go_enter Try.func54, Try.ntmps54
      go_wp2_with (fail)
      refine key.mono ?_; rintro e w1 ⟨rfl, hb⟩
      rw [hk]
      go_wp2_with (first | (go_at_call 61; refine (within_any _ _ _ _).mono ?_; rintro e w' ⟨rfl, rfl⟩) | (go_at_call 89; refine (unless_any _ _ _).mono ?_; rintro e w' ⟨rfl, rfl⟩))
      go_ret
      exact ⟨ret_n (by rw [hC.out, hk, h1]; rfl), hb⟩
    · cases h2 : inR subs 0 4
      all_goals
        go_enter Try.func54, Try.ntmps54
        go_wp2_with (fail)
        refine key.mono ?_; rintro e w1 ⟨rfl, hb⟩
        rw [hk]
        go_wp2_with (first | (go_at_call 61; refine (within_any _ _ _ _).mono ?_; rintro e w' ⟨rfl, rfl⟩) | (go_at_call 89; refine (unless_any _ _ _).mono ?_; rintro e w' ⟨rfl, rfl⟩))
        go_ret
        exact ⟨ret_n (by rw [hC.out, hk, h1, h2]; rfl), hb⟩
end Go.Proofs.Ytnokdbnlagoidaa
