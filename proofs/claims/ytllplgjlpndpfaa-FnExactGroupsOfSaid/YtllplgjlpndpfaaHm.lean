/- Hoists: what they mean. Lists alone, no program. -/
import Derived.Test.YtllplgjlpndpfaaH1
set_option linter.unusedVariables false
namespace Go.Proofs.Ytllplgjlpndpfaa
open Go.RowKit

/-- One number more is read behind o, with the group's begin g. -/
def hStep (o : List Int) (g : Nat) (n : Int) : Option (List Int × Nat) :=
  if n = -10 then (if g = o.length then none else some (o ++ [n], o.length + 1))
  else if 0 ≤ n ∧ n ≤ 39 then some (o ++ [n], g)
  else if -4 ≤ n ∧ n ≤ -1 ∧ g + ((-n).toNat - 1) < o.length then some (o ++ [nth o (g + ((-n).toNat - 1))], g)
  else none
/-- The first k numbers are read. -/
def hRead (xs : List Int) : Nat → Option (List Int × Nat)
  | 0 => some ([], 0)
  | k + 1 => match hRead xs k with
    | none => none
    | some (o, g) => hStep o g (nth xs k)
def hOk (xs : List Int) : Bool := match hRead xs xs.length with
  | some (_, g) => inR xs.length 1 8 && decide (g < xs.length)
  | none => false
def hMean (xs : List Int) : List Int := match hRead xs xs.length with
  | some (o, _) => if hOk xs then o else []
  | none => []
/-- What holds of what is read. -/
structure HInv (o : List Int) (g k : Nat) : Prop where
  len : o.length = k
  le : g ≤ k
  kinds : ∀ j, g ≤ j → j < k → 0 ≤ nth o j ∧ nth o j ≤ 39
  all : ∀ n ∈ o, n = -10 ∨ (0 ≤ n ∧ n ≤ 39)

theorem nth_left (o : List Int) (n : Int) (j : Nat) (h : j < o.length) : nth (o ++ [n]) j = nth o j := by
  simp [nth, List.getElem?_append_left h]
theorem nth_last (o : List Int) (n : Int) : nth (o ++ [n]) o.length = n := by simp [nth]

theorem HInv.kind {o : List Int} {g k : Nat} (h : HInv o g k) {n : Int} (h0 : 0 ≤ n) (h1 : n ≤ 39) : HInv (o ++ [n]) g (k + 1) := by
  refine ⟨by simp [h.len], Nat.le_succ_of_le h.le, fun j hj hk => ?_, fun m hm => ?_⟩
  · rcases Nat.lt_or_eq_of_le (Nat.le_of_lt_succ hk) with h' | h'
    · rw [nth_left _ _ _ (by rw [h.len]; exact h')]; exact h.kinds j hj h'
    · rw [h', ← h.len, nth_last]; exact ⟨h0, h1⟩
  · rcases List.mem_append.1 hm with h' | h'
    · exact h.all m h'
    · simp at h'; subst h'; exact .inr ⟨h0, h1⟩
theorem HInv.brk {o : List Int} {g k : Nat} (h : HInv o g k) : HInv (o ++ [-10]) (k + 1) (k + 1) := by
  refine ⟨by simp [h.len], Nat.le_refl _, fun j hj hk => by omega, fun m hm => ?_⟩
  rcases List.mem_append.1 hm with h' | h'
  · exact h.all m h'
  · simp at h'; exact .inl h'
theorem hStep_inv {o : List Int} {g k : Nat} {n : Int} (h : HInv o g k) {o' : List Int} {g' : Nat} (hs : hStep o g n = some (o', g')) : HInv o' g' (k + 1) := by
  unfold hStep at hs
  split at hs
  · rename_i hn
    split at hs
    · cases hs
    · simp only [Option.some.injEq, Prod.mk.injEq] at hs
      obtain ⟨rfl, rfl⟩ := hs
      rw [h.len, hn]; exact h.brk
  · split at hs
    · rename_i hk
      simp only [Option.some.injEq, Prod.mk.injEq] at hs
      obtain ⟨rfl, rfl⟩ := hs
      exact h.kind hk.1 hk.2
    · split at hs
      · rename_i hk
        simp only [Option.some.injEq, Prod.mk.injEq] at hs
        obtain ⟨rfl, rfl⟩ := hs
        have := h.kinds (g + ((-n).toNat - 1)) (by omega) (by rw [← h.len]; exact hk.2.2)
        exact h.kind this.1 this.2
      · cases hs
theorem hRead_inv (xs : List Int) : ∀ (k : Nat) (o : List Int) (g : Nat), hRead xs k = some (o, g) → HInv o g k
  | 0, o, g, h => by
    simp only [hRead, Option.some.injEq, Prod.mk.injEq] at h
    obtain ⟨rfl, rfl⟩ := h
    exact ⟨rfl, Nat.le_refl _, fun j _ hj => by omega, fun n hn => by cases hn⟩
  | k + 1, o, g, h => by
    cases e : hRead xs k with
    | none => simp [hRead, e] at h
    | some p =>
      obtain ⟨o1, g1⟩ := p
      simp only [hRead, e] at h
      exact hStep_inv (hRead_inv xs k o1 g1 e) h
theorem hRead_succ {xs : List Int} {k : Nat} {o : List Int} {g : Nat} (h : hRead xs k = some (o, g)) : hRead xs (k + 1) = hStep o g (nth xs k) := by simp [hRead, h]
theorem hRead_none {xs : List Int} {k : Nat} (h : hRead xs k = none) : ∀ n, k ≤ n → hRead xs n = none := by
  intro n hn
  induction n with
  | zero => obtain rfl : k = 0 := by omega
            exact h
  | succ n ih =>
    rcases Nat.lt_or_eq_of_le hn with h' | rfl
    · simp [hRead, ih (by omega)]
    · exact h
theorem hOk_none {xs : List Int} {k : Nat} (h : hRead xs k = none) (hk : k ≤ xs.length) : hOk xs = false := by
  unfold hOk; rw [hRead_none h _ hk]
theorem hMean_none {xs : List Int} {k : Nat} (h : hRead xs k = none) (hk : k ≤ xs.length) : hMean xs = [] := by
  unfold hMean; rw [hRead_none h _ hk]
theorem hOk_some {xs : List Int} {o : List Int} {g : Nat} (h : hRead xs xs.length = some (o, g)) : hOk xs = (inR xs.length 1 8 && decide (g < xs.length)) := by
  unfold hOk; rw [h]
theorem hMean_some {xs : List Int} {o : List Int} {g : Nat} (h : hRead xs xs.length = some (o, g)) (hk : hOk xs = true) : hMean xs = o := by
  unfold hMean; rw [h]; simp [hk]
theorem hMean_bad {xs : List Int} (h : hOk xs = false) : hMean xs = [] := by
  unfold hMean; split <;> simp [h]
theorem hOk_len {xs : List Int} (h : hOk xs = true) : 1 ≤ xs.length ∧ xs.length ≤ 8 := by
  unfold hOk at h
  split at h
  · simp only [Bool.and_eq_true, inR_iff] at h; omega
  · cases h
theorem hOk_read {xs : List Int} (h : hOk xs = true) : ∃ g, hRead xs xs.length = some (hMean xs, g) := by
  cases e : hRead xs xs.length with
  | none => rw [hOk_none e (Nat.le_refl _)] at h; cases h
  | some p => obtain ⟨o, g⟩ := p; exact ⟨g, by rw [hMean_some e h]⟩
theorem hMean_length {xs : List Int} (h : hOk xs = true) : (hMean xs).length = xs.length := by
  obtain ⟨g, e⟩ := hOk_read h
  exact (hRead_inv _ _ _ _ e).len
theorem hMean_le (xs : List Int) : (hMean xs).length ≤ 8 := by
  cases h : hOk xs
  · rw [hMean_bad h]; simp
  · rw [hMean_length h]; exact (hOk_len h).2
theorem hMean_all {xs : List Int} (h : hOk xs = true) : ∀ n ∈ hMean xs, n = -10 ∨ (0 ≤ n ∧ n ≤ 39) := by
  obtain ⟨g, e⟩ := hOk_read h
  exact (hRead_inv _ _ _ _ e).all

/-! One number more: the four ways. -/
theorem hStep_brk {o : List Int} {g : Nat} (h : g ≠ o.length) : hStep o g (-10) = some (o ++ [-10], o.length + 1) := by simp [hStep, h]
theorem hStep_brk_none {o : List Int} {g : Nat} (h : g = o.length) : hStep o g (-10) = none := by simp [hStep, h]
theorem hStep_kind {o : List Int} {g : Nat} {n : Int} (h0 : 0 ≤ n) (h1 : n ≤ 39) : hStep o g n = some (o ++ [n], g) := by
  unfold hStep; rw [if_neg (by omega), if_pos ⟨h0, h1⟩]
theorem hStep_sub {o : List Int} {g : Nat} {n : Int} (h0 : -4 ≤ n) (h1 : n ≤ -1) (h : g + ((-n).toNat - 1) < o.length) : hStep o g n = some (o ++ [nth o (g + ((-n).toNat - 1))], g) := by
  unfold hStep; rw [if_neg (by omega), if_neg (by omega), if_pos ⟨h0, h1, h⟩]
theorem hStep_none {o : List Int} {g : Nat} {n : Int} (hb : n ≠ -10) (hk : ¬ (0 ≤ n ∧ n ≤ 39)) (hs : ¬ (-4 ≤ n ∧ n ≤ -1 ∧ g + ((-n).toNat - 1) < o.length)) : hStep o g n = none := by
  unfold hStep; rw [if_neg hb, if_neg hk, if_neg hs]

/-! Meanings -/
def isMn (n : Int) : Bool := decide (0 ≤ n) || n == -10
def mOk (xs : List Int) : Bool := hOk xs && xs.all isMn
theorem hStep_plain {o : List Int} {g : Nat} {n : Int} (hn : isMn n = true) {o' : List Int} {g' : Nat} (h : hStep o g n = some (o', g')) : o' = o ++ [n] := by
  simp only [isMn, Bool.or_eq_true, decide_eq_true_eq, beq_iff_eq] at hn
  unfold hStep at h
  split at h
  · split at h
    · cases h
    · simp only [Option.some.injEq, Prod.mk.injEq] at h; exact h.1.symm
  · split at h
    · simp only [Option.some.injEq, Prod.mk.injEq] at h; exact h.1.symm
    · rw [if_neg (by omega)] at h; cases h
theorem hRead_plain (xs : List Int) (ha : xs.all isMn = true) : ∀ (k : Nat) (o : List Int) (g : Nat), k ≤ xs.length → hRead xs k = some (o, g) → o = xs.take k
  | 0, o, g, _, h => by
    simp only [hRead, Option.some.injEq, Prod.mk.injEq] at h
    simp [← h.1]
  | k + 1, o, g, hk, h => by
    cases e : hRead xs k with
    | none => simp [hRead, e] at h
    | some p =>
      obtain ⟨o1, g1⟩ := p
      simp only [hRead, e] at h
      have h1 := hStep_plain (List.all_eq_true.1 ha _ (nth_mem xs k (by omega))) h
      rw [h1, hRead_plain xs ha k o1 g1 (by omega) e, List.take_add_one, nth_get? xs k (by omega)]
      rfl
theorem mOk_mean {xs : List Int} (h : mOk xs = true) : hMean xs = xs := by
  simp only [mOk, Bool.and_eq_true] at h
  obtain ⟨g, e⟩ := hOk_read h.1
  have := hRead_plain xs h.2 _ _ _ (Nat.le_refl _) e
  rw [this, List.take_length]
theorem mOk_hOk {xs : List Int} (h : mOk xs = true) : hOk xs = true := by
  simp only [mOk, Bool.and_eq_true] at h; exact h.1
theorem mOk_kinds {xs : List Int} (h : mOk xs = true) : ∀ n ∈ xs, n = -10 ∨ (0 ≤ n ∧ n ≤ 39) := by
  have := hMean_all (mOk_hOk h)
  rw [mOk_mean h] at this; exact this

/-! Another kind at a place: what is a hoist stays one. -/
theorem hStep_shape {o o1 o' : List Int} {g g1 : Nat} {n n' : Int} (hs : hStep o g n = some (o1, g1)) (hl : o'.length = o.length) (hn : n' = n ∨ ((0 ≤ n ∧ n ≤ 39) ∧ 0 ≤ n' ∧ n' ≤ 39)) :
    ∃ o1', hStep o' g n' = some (o1', g1) ∧ o1'.length = o1.length := by
  unfold hStep at hs ⊢
  split at hs
  · rename_i h1
    rw [if_pos (by omega)]
    split at hs
    · cases hs
    · simp only [Option.some.injEq, Prod.mk.injEq] at hs
      rw [hl]
      rw [if_neg (by assumption)]
      exact ⟨_, by rw [hs.2], by rw [← hs.1]; simp [hl]⟩
  · rename_i h1
    rw [if_neg (by omega)]
    split at hs
    · rename_i h2
      simp only [Option.some.injEq, Prod.mk.injEq] at hs
      rw [if_pos (by omega)]
      exact ⟨_, by rw [hs.2], by rw [← hs.1]; simp [hl]⟩
    · rename_i h2
      rw [if_neg (by omega)]
      have hn' : n' = n := by omega
      subst hn'
      split at hs
      · simp only [Option.some.injEq, Prod.mk.injEq] at hs
        rw [hl, if_pos (by assumption)]
        exact ⟨_, by rw [hs.2], by rw [← hs.1]; simp [hl]⟩
      · cases hs
theorem hRead_shape (xs ys : List Int) (hn : ∀ k, nth ys k = nth xs k ∨ ((0 ≤ nth xs k ∧ nth xs k ≤ 39) ∧ 0 ≤ nth ys k ∧ nth ys k ≤ 39)) :
    ∀ (k : Nat) (o : List Int) (g : Nat), hRead xs k = some (o, g) → ∃ o', hRead ys k = some (o', g) ∧ o'.length = o.length
  | 0, o, g, h => by
    simp only [hRead, Option.some.injEq, Prod.mk.injEq] at h
    obtain ⟨rfl, rfl⟩ := h
    exact ⟨[], rfl, rfl⟩
  | k + 1, o, g, h => by
    cases e : hRead xs k with
    | none => simp [hRead, e] at h
    | some p =>
      obtain ⟨o1, g1⟩ := p
      simp only [hRead, e] at h
      obtain ⟨o1', e', hl⟩ := hRead_shape xs ys hn k o1 g1 e
      obtain ⟨o2, e2, hl2⟩ := hStep_shape h hl (hn k)
      exact ⟨o2, by simp only [hRead, e', e2], hl2⟩
theorem nth_set (xs : List Int) (i k : Nat) (x : Int) (h : i < xs.length) : nth (xs.set i x) k = if k = i then x else nth xs k := by
  unfold nth
  simp only [List.getD_eq_getElem?_getD, List.getElem?_set]
  by_cases e : i = k
  · subst e; simp [h]
  · simp [e, Ne.symm e]
theorem hOk_changed {xs : List Int} (h : hOk xs = true) (i : Nat) (hi : i < xs.length) (h0 : 0 ≤ nth xs i) (x : Int) (hx : 0 ≤ x ∧ x ≤ 39) : hOk (xs.set i x) = true := by
  have hl : (xs.set i x).length = xs.length := List.length_set
  have h39 : nth xs i ≤ 39 := by
    obtain ⟨g, e⟩ := hOk_read h
    cases e1 : hRead xs i with
    | none => rw [hRead_none e1 _ (by omega)] at e; cases e
    | some p =>
      obtain ⟨o, g1⟩ := p
      cases e2 : hStep o g1 (nth xs i) with
      | none => rw [hRead_none (k := i + 1) (by rw [hRead_succ e1, e2]) _ (by omega)] at e; cases e
      | some q =>
        by_cases hh : nth xs i ≤ 39
        · exact hh
        · rw [hStep_none (by omega) (by omega) (by omega)] at e2; cases e2
  have key := hRead_shape xs (xs.set i x) (fun k => by
    rw [nth_set xs i k x hi]
    split
    · rename_i e; subst e; exact .inr ⟨⟨h0, h39⟩, hx⟩
    · exact .inl rfl)
  obtain ⟨g, e⟩ := hOk_read h
  obtain ⟨o', e', _⟩ := key _ _ _ e
  rw [hOk_some (xs := xs.set i x) (o := o') (g := g) (by rw [hl]; exact e'), hl, ← hOk_some e]
  exact h
end Go.Proofs.Ytllplgjlpndpfaa
