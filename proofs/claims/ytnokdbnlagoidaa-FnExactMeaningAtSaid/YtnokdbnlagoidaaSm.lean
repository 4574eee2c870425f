/- The search for hoists with a meaning: lists alone, no program. -/
import Derived.Test.YtnokdbnlagoidaaHm
set_option linter.unusedVariables false
namespace Go.Proofs.Ytnokdbnlagoidaa
open Go.RowKit

/-- Whether substitute n can stand at place i of meaning m, whose group begins at g. -/
def subAt (m : List Int) (i g n : Nat) : Bool := decide (g + n - 1 < i) && (nth m (g + n - 1) == nth m i)
/-- The substitutes that can stand at place i, from the n-th down. -/
def subsAt (m : List Int) (i g : Nat) : Nat → List Int
  | 0 => []
  | n + 1 => (if subAt m i g (n + 1) then [-((n + 1 : Nat) : Int)] else []) ++ subsAt m i g n
def optsAt (m : List Int) (i g n : Nat) : List Int := subsAt m i g n ++ [nth m i]
/-- One more x can be flown behind h. -/
def enough (sets : Nat) (h : List Int) (x : Int) : Bool := decide (h.count x < sets)
/-- All hoists with meaning m that go on from h, d numbers more, in order. -/
def look (m : List Int) (sets subs : Nat) : Nat → List Int → Nat → List (List Int)
  | 0, h, _ => [h]
  | d + 1, h, g => if nth m h.length = -10 then look m sets subs d (h ++ [-10]) (h.length + 1)
    else ((optsAt m h.length g subs).filter (enough sets h)).flatMap fun x => look m sets subs d (h ++ [x]) g
def found (m : List Int) (sets subs : Nat) : List (List Int) := look m sets subs m.length [] 0

theorem look_brk {m : List Int} {sets subs d : Nat} {h : List Int} {g : Nat} (hx : nth m h.length = -10) : look m sets subs (d + 1) h g = look m sets subs d (h ++ [-10]) (h.length + 1) := by
  show (if _ then _ else _) = _
  rw [if_pos hx]
theorem look_kind {m : List Int} {sets subs d : Nat} {h : List Int} {g : Nat} (hx : nth m h.length ≠ -10) : look m sets subs (d + 1) h g = ((optsAt m h.length g subs).filter (enough sets h)).flatMap fun x => look m sets subs d (h ++ [x]) g := by
  show (if _ then _ else _) = _
  rw [if_neg hx]

/-- A number of a hoist with so many substitutes, for a meaning. -/
def isNum (subs : Nat) (x : Int) : Prop := x = -10 ∨ (-(subs : Int) ≤ x ∧ x ≤ -1) ∨ (0 ≤ x ∧ x ≤ 39)
/-- What holds of a hoist on its way. -/
structure Way (sets subs : Nat) (h : List Int) : Prop where
  nums : ∀ x ∈ h, isNum subs x
  few : ∀ x, x ≠ -10 → h.count x ≤ sets
theorem Way.nil (sets subs : Nat) : Way sets subs [] := ⟨(fun x hx => by cases hx), (fun x _ => by simp)⟩
theorem Way.brk {sets subs : Nat} {h : List Int} (w : Way sets subs h) : Way sets subs (h ++ [-10]) := by
  refine ⟨fun x hx => ?_, fun x hx => ?_⟩
  · rcases List.mem_append.1 hx with h' | h'
    · exact w.nums x h'
    · simp at h'; exact .inl h'
  · rw [List.count_append, List.count_singleton]
    have := w.few x hx
    simp [Ne.symm hx]; exact this
theorem Way.num {sets subs : Nat} {h : List Int} (w : Way sets subs h) {x : Int} (hx : isNum subs x) (he : enough sets h x = true) : Way sets subs (h ++ [x]) := by
  unfold enough at he
  rw [decide_eq_true_eq] at he
  refine ⟨fun y hy => ?_, fun y hy => ?_⟩
  · rcases List.mem_append.1 hy with h' | h'
    · exact w.nums y h'
    · simp at h'; subst h'; exact hx
  · rw [List.count_append, List.count_singleton]
    have := w.few y hy
    by_cases e : x = y
    · subst e; simp; omega
    · simp [e]; exact this
theorem opts_num {m : List Int} (hm : ∀ k, k < m.length → nth m k = -10 ∨ (0 ≤ nth m k ∧ nth m k ≤ 39)) {i g subs : Nat} (hi : i < m.length) (h10 : nth m i ≠ -10) : ∀ x ∈ optsAt m i g subs, isNum subs x := by
  intro x hx
  unfold optsAt at hx
  rcases List.mem_append.1 hx with h | h
  · have key : ∀ n, n ≤ subs → ∀ x ∈ subsAt m i g n, -(subs : Int) ≤ x ∧ x ≤ -1 := by
      intro n
      induction n with
      | zero => intro _ x hx; cases hx
      | succ n ih =>
        intro hn x hx
        unfold subsAt at hx
        rcases List.mem_append.1 hx with h | h
        · split at h
          · simp at h; omega
          · cases h
        · exact ih (by omega) x h
    exact .inr (.inl (key subs (Nat.le_refl _) x h))
  · simp at h; subst h
    rcases hm i hi with h | h
    · exact absurd h h10
    · exact .inr (.inr h)
/-- Each hoist that is found is as long as the meaning. -/
theorem look_len (m : List Int) (sets subs : Nat) : ∀ (d : Nat) (h : List Int) (g : Nat), ∀ t ∈ look m sets subs d h g, t.length = h.length + d
  | 0, h, g, t, ht => by simp [look] at ht; rw [ht]; rfl
  | d + 1, h, g, t, ht => by
    by_cases hx : nth m h.length = -10
    · rw [look_brk hx] at ht
      have := look_len m sets subs d _ _ t ht
      rw [this, List.length_append]; simp; omega
    · rw [look_kind hx] at ht
      obtain ⟨x, hx, ht⟩ := List.mem_flatMap.1 ht
      have := look_len m sets subs d _ _ t ht
      rw [this, List.length_append]; simp; omega

/-- The most that a hoist has of a number. -/
def most (h : List Int) (ns : List Int) : Int := ns.foldl (fun a x => max a (h.count x : Int)) 0
theorem foldl_max_le (h : List Int) (s : Int) : ∀ (ns : List Int) (a : Int), ns.foldl (fun a x => max a (h.count x : Int)) a ≤ s ↔ a ≤ s ∧ ∀ x ∈ ns, (h.count x : Int) ≤ s
  | [], a => by simp
  | x :: ns, a => by
    rw [List.foldl_cons, foldl_max_le h s ns, Int.max_le]
    simp only [List.mem_cons, forall_eq_or_imp, and_assoc]
/-- All numbers but the break. -/
def nums44 : List Int := (List.range 40).map (fun (k : Nat) => (k : Int)) ++ (List.range 4).map (fun (k : Nat) => -((k : Int) + 1))
theorem most_le {h : List Int} {subs : Nat} (hs : subs ≤ 4) (hn : ∀ x ∈ h, isNum subs x) (s : Nat) : most h nums44 ≤ s ↔ ∀ x, x ≠ -10 → h.count x ≤ s := by
  unfold most
  rw [foldl_max_le]
  constructor
  · intro ⟨_, hh⟩ x hx
    by_cases hm : x ∈ h
    · have h4 : x ∈ nums44 := by
        unfold nums44
        rw [List.mem_append]
        rcases hn x hm with h' | h' | h'
        · exact absurd h' hx
        · right; rw [List.mem_map]; exact ⟨(-x - 1).toNat, List.mem_range.2 (by omega), by omega⟩
        · left; rw [List.mem_map]; exact ⟨x.toNat, List.mem_range.2 (by omega), by omega⟩
      have := hh x h4
      omega
    · rw [List.count_eq_zero_of_not_mem hm]; omega
  · intro hh
    refine ⟨by omega, fun x hx => ?_⟩
    have : x ≠ -10 := by
      unfold nums44 at hx
      rw [List.mem_append, List.mem_map, List.mem_map] at hx
      rcases hx with ⟨k, hk, rfl⟩ | ⟨k, hk, rfl⟩
      · omega
      · rw [List.mem_range] at hk; omega
    have := hh x this
    omega
/-- A hoist with one number more has enough just where there was one more of that number. -/
theorem enough_iff {sets subs : Nat} (hs : subs ≤ 4) {h : List Int} (w : Way sets subs h) {x : Int} (hx : isNum subs x) (h10 : x ≠ -10) : enough sets h x = decide (most (h ++ [x]) nums44 ≤ (sets : Int)) := by
  have hn : ∀ y ∈ h ++ [x], isNum subs y := fun y hy => by
    rcases List.mem_append.1 hy with h' | h'
    · exact w.nums y h'
    · simp at h'; subst h'; exact hx
  rw [Bool.eq_iff_iff, decide_eq_true_eq, most_le hs hn]
  unfold enough
  rw [decide_eq_true_eq]
  constructor
  · intro hlt y hy
    rw [List.count_append, List.count_singleton]
    have := w.few y hy
    by_cases e : x = y
    · subst e; simp; omega
    · simp [e]; exact this
  · intro hh
    have := hh x h10
    rw [List.count_append, List.count_singleton] at this
    simp at this; omega
end Go.Proofs.Ytnokdbnlagoidaa
