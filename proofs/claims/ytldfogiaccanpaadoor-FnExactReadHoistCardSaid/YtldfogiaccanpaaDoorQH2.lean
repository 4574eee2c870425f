/- Contracts and plain facts, several texts in one. -/
import Derived.Test.YtldfogiaccanpaaDoorQH1
import Derived.Deep.OwnRows
import Derived.Maps.AppendAt
import Derived.OwnWalk
import Derived.Deep.RegionHeld3
/- Hoists: what they mean. Lists alone, no program. -/
set_option linter.unusedVariables false
namespace Go.Proofs.YtldfogiaccanpaaDoor
open Go.RowKit

/-- One number more is read behind o, with the group's begin g. -/
def hStep (o : List Int) (g : Nat) (n : Int) : Option (List Int × Nat) :=
  if n = -10 then (if g = o.length then none else some (o ++ [n], o.length + 1))
  else if 0 ≤ n ∧ n ≤ 39 then some (o ++ [n], g)
  else if -4 ≤ n ∧ n ≤ -1 ∧ g + ((-n).toNat - 1) < o.length then some (o ++ [nth o (g + ((-n).toNat - 1))], g)
  else none
/-- The first k numbers are read. -/
def hRead (xs : List Int) : Nat → Option (List Int × Nat)
  | 0 => some ([], 0)
  | k + 1 => match hRead xs k with
    | none => none
    | some (o, g) => hStep o g (nth xs k)
def hOk (xs : List Int) : Bool := match hRead xs xs.length with
  | some (_, g) => inR xs.length 1 8 && decide (g < xs.length)
  | none => false
def hMean (xs : List Int) : List Int := match hRead xs xs.length with
  | some (o, _) => if hOk xs then o else []
  | none => []
/-- What holds of what is read. -/
structure HInv (o : List Int) (g k : Nat) : Prop where
  len : o.length = k
  le : g ≤ k
  kinds : ∀ j, g ≤ j → j < k → 0 ≤ nth o j ∧ nth o j ≤ 39
  all : ∀ n ∈ o, n = -10 ∨ (0 ≤ n ∧ n ≤ 39)

theorem nth_left (o : List Int) (n : Int) (j : Nat) (h : j < o.length) : nth (o ++ [n]) j = nth o j := by
  simp [nth, List.getElem?_append_left h]
theorem nth_last (o : List Int) (n : Int) : nth (o ++ [n]) o.length = n := by simp [nth]

theorem HInv.kind {o : List Int} {g k : Nat} (h : HInv o g k) {n : Int} (h0 : 0 ≤ n) (h1 : n ≤ 39) : HInv (o ++ [n]) g (k + 1) := by
  refine ⟨by simp [h.len], Nat.le_succ_of_le h.le, fun j hj hk => ?_, fun m hm => ?_⟩
  · rcases Nat.lt_or_eq_of_le (Nat.le_of_lt_succ hk) with h' | h'
    · rw [nth_left _ _ _ (by rw [h.len]; exact h')]; exact h.kinds j hj h'
    · rw [h', ← h.len, nth_last]; exact ⟨h0, h1⟩
  · rcases List.mem_append.1 hm with h' | h'
    · exact h.all m h'
    · simp at h'; subst h'; exact .inr ⟨h0, h1⟩
theorem HInv.brk {o : List Int} {g k : Nat} (h : HInv o g k) : HInv (o ++ [-10]) (k + 1) (k + 1) := by
  refine ⟨by simp [h.len], Nat.le_refl _, fun j hj hk => by omega, fun m hm => ?_⟩
  rcases List.mem_append.1 hm with h' | h'
  · exact h.all m h'
  · simp at h'; exact .inl h'
theorem hStep_inv {o : List Int} {g k : Nat} {n : Int} (h : HInv o g k) {o' : List Int} {g' : Nat} (hs : hStep o g n = some (o', g')) : HInv o' g' (k + 1) := by
  unfold hStep at hs
  split at hs
  · rename_i hn
    split at hs
    · cases hs
    · simp only [Option.some.injEq, Prod.mk.injEq] at hs
      obtain ⟨rfl, rfl⟩ := hs
      rw [h.len, hn]; exact h.brk
  · split at hs
    · rename_i hk
      simp only [Option.some.injEq, Prod.mk.injEq] at hs
      obtain ⟨rfl, rfl⟩ := hs
      exact h.kind hk.1 hk.2
    · split at hs
      · rename_i hk
        simp only [Option.some.injEq, Prod.mk.injEq] at hs
        obtain ⟨rfl, rfl⟩ := hs
        have := h.kinds (g + ((-n).toNat - 1)) (by omega) (by rw [← h.len]; exact hk.2.2)
        exact h.kind this.1 this.2
      · cases hs
theorem hRead_inv (xs : List Int) : ∀ (k : Nat) (o : List Int) (g : Nat), hRead xs k = some (o, g) → HInv o g k
  | 0, o, g, h => by
    simp only [hRead, Option.some.injEq, Prod.mk.injEq] at h
    obtain ⟨rfl, rfl⟩ := h
    exact ⟨rfl, Nat.le_refl _, fun j _ hj => by omega, fun n hn => by cases hn⟩
  | k + 1, o, g, h => by
    cases e : hRead xs k with
    | none => simp [hRead, e] at h
    | some p =>
      obtain ⟨o1, g1⟩ := p
      simp only [hRead, e] at h
      exact hStep_inv (hRead_inv xs k o1 g1 e) h
theorem hRead_succ {xs : List Int} {k : Nat} {o : List Int} {g : Nat} (h : hRead xs k = some (o, g)) : hRead xs (k + 1) = hStep o g (nth xs k) := by simp [hRead, h]
theorem hRead_none {xs : List Int} {k : Nat} (h : hRead xs k = none) : ∀ n, k ≤ n → hRead xs n = none := by
  intro n hn
  induction n with
  | zero => obtain rfl : k = 0 := by omega
            exact h
  | succ n ih =>
    rcases Nat.lt_or_eq_of_le hn with h' | rfl
    · simp [hRead, ih (by omega)]
    · exact h
theorem hOk_none {xs : List Int} {k : Nat} (h : hRead xs k = none) (hk : k ≤ xs.length) : hOk xs = false := by
  unfold hOk; rw [hRead_none h _ hk]
theorem hMean_none {xs : List Int} {k : Nat} (h : hRead xs k = none) (hk : k ≤ xs.length) : hMean xs = [] := by
  unfold hMean; rw [hRead_none h _ hk]
theorem hOk_some {xs : List Int} {o : List Int} {g : Nat} (h : hRead xs xs.length = some (o, g)) : hOk xs = (inR xs.length 1 8 && decide (g < xs.length)) := by
  unfold hOk; rw [h]
theorem hMean_some {xs : List Int} {o : List Int} {g : Nat} (h : hRead xs xs.length = some (o, g)) (hk : hOk xs = true) : hMean xs = o := by
  unfold hMean; rw [h]; simp [hk]
theorem hMean_bad {xs : List Int} (h : hOk xs = false) : hMean xs = [] := by
  unfold hMean; split <;> simp [h]
theorem hOk_len {xs : List Int} (h : hOk xs = true) : 1 ≤ xs.length ∧ xs.length ≤ 8 := by
  unfold hOk at h
  split at h
  · simp only [Bool.and_eq_true, inR_iff] at h; omega
  · cases h
theorem hOk_read {xs : List Int} (h : hOk xs = true) : ∃ g, hRead xs xs.length = some (hMean xs, g) := by
  cases e : hRead xs xs.length with
  | none => rw [hOk_none e (Nat.le_refl _)] at h; cases h
  | some p => obtain ⟨o, g⟩ := p; exact ⟨g, by rw [hMean_some e h]⟩
theorem hMean_length {xs : List Int} (h : hOk xs = true) : (hMean xs).length = xs.length := by
  obtain ⟨g, e⟩ := hOk_read h
  exact (hRead_inv _ _ _ _ e).len
theorem hMean_le (xs : List Int) : (hMean xs).length ≤ 8 := by
  cases h : hOk xs
  · rw [hMean_bad h]; simp
  · rw [hMean_length h]; exact (hOk_len h).2
theorem hMean_all {xs : List Int} (h : hOk xs = true) : ∀ n ∈ hMean xs, n = -10 ∨ (0 ≤ n ∧ n ≤ 39) := by
  obtain ⟨g, e⟩ := hOk_read h
  exact (hRead_inv _ _ _ _ e).all

/-! One number more: the four ways. -/
theorem hStep_brk {o : List Int} {g : Nat} (h : g ≠ o.length) : hStep o g (-10) = some (o ++ [-10], o.length + 1) := by simp [hStep, h]
theorem hStep_brk_none {o : List Int} {g : Nat} (h : g = o.length) : hStep o g (-10) = none := by simp [hStep, h]
theorem hStep_kind {o : List Int} {g : Nat} {n : Int} (h0 : 0 ≤ n) (h1 : n ≤ 39) : hStep o g n = some (o ++ [n], g) := by
  unfold hStep; rw [if_neg (by omega), if_pos ⟨h0, h1⟩]
theorem hStep_sub {o : List Int} {g : Nat} {n : Int} (h0 : -4 ≤ n) (h1 : n ≤ -1) (h : g + ((-n).toNat - 1) < o.length) : hStep o g n = some (o ++ [nth o (g + ((-n).toNat - 1))], g) := by
  unfold hStep; rw [if_neg (by omega), if_neg (by omega), if_pos ⟨h0, h1, h⟩]
theorem hStep_none {o : List Int} {g : Nat} {n : Int} (hb : n ≠ -10) (hk : ¬ (0 ≤ n ∧ n ≤ 39)) (hs : ¬ (-4 ≤ n ∧ n ≤ -1 ∧ g + ((-n).toNat - 1) < o.length)) : hStep o g n = none := by
  unfold hStep; rw [if_neg hb, if_neg hk, if_neg hs]

/-! Meanings -/
def isMn (n : Int) : Bool := decide (0 ≤ n) || n == -10
def mOk (xs : List Int) : Bool := hOk xs && xs.all isMn
theorem hStep_plain {o : List Int} {g : Nat} {n : Int} (hn : isMn n = true) {o' : List Int} {g' : Nat} (h : hStep o g n = some (o', g')) : o' = o ++ [n] := by
  simp only [isMn, Bool.or_eq_true, decide_eq_true_eq, beq_iff_eq] at hn
  unfold hStep at h
  split at h
  · split at h
    · cases h
    · simp only [Option.some.injEq, Prod.mk.injEq] at h; exact h.1.symm
  · split at h
    · simp only [Option.some.injEq, Prod.mk.injEq] at h; exact h.1.symm
    · rw [if_neg (by omega)] at h; cases h
theorem hRead_plain (xs : List Int) (ha : xs.all isMn = true) : ∀ (k : Nat) (o : List Int) (g : Nat), k ≤ xs.length → hRead xs k = some (o, g) → o = xs.take k
  | 0, o, g, _, h => by
    simp only [hRead, Option.some.injEq, Prod.mk.injEq] at h
    simp [← h.1]
  | k + 1, o, g, hk, h => by
    cases e : hRead xs k with
    | none => simp [hRead, e] at h
    | some p =>
      obtain ⟨o1, g1⟩ := p
      simp only [hRead, e] at h
      have h1 := hStep_plain (List.all_eq_true.1 ha _ (nth_mem xs k (by omega))) h
      rw [h1, hRead_plain xs ha k o1 g1 (by omega) e, List.take_add_one, nth_get? xs k (by omega)]
      rfl
theorem mOk_mean {xs : List Int} (h : mOk xs = true) : hMean xs = xs := by
  simp only [mOk, Bool.and_eq_true] at h
  obtain ⟨g, e⟩ := hOk_read h.1
  have := hRead_plain xs h.2 _ _ _ (Nat.le_refl _) e
  rw [this, List.take_length]
theorem mOk_hOk {xs : List Int} (h : mOk xs = true) : hOk xs = true := by
  simp only [mOk, Bool.and_eq_true] at h; exact h.1
theorem mOk_kinds {xs : List Int} (h : mOk xs = true) : ∀ n ∈ xs, n = -10 ∨ (0 ≤ n ∧ n ≤ 39) := by
  have := hMean_all (mOk_hOk h)
  rw [mOk_mean h] at this; exact this

/-! Another kind at a place: what is a hoist stays one. -/
theorem hStep_shape {o o1 o' : List Int} {g g1 : Nat} {n n' : Int} (hs : hStep o g n = some (o1, g1)) (hl : o'.length = o.length) (hn : n' = n ∨ ((0 ≤ n ∧ n ≤ 39) ∧ 0 ≤ n' ∧ n' ≤ 39)) :
    ∃ o1', hStep o' g n' = some (o1', g1) ∧ o1'.length = o1.length := by
  unfold hStep at hs ⊢
  split at hs
  · rename_i h1
    rw [if_pos (by omega)]
    split at hs
    · cases hs
    · simp only [Option.some.injEq, Prod.mk.injEq] at hs
      rw [hl]
      rw [if_neg (by assumption)]
      exact ⟨_, by rw [hs.2], by rw [← hs.1]; simp [hl]⟩
  · rename_i h1
    rw [if_neg (by omega)]
    split at hs
    · rename_i h2
      simp only [Option.some.injEq, Prod.mk.injEq] at hs
      rw [if_pos (by omega)]
      exact ⟨_, by rw [hs.2], by rw [← hs.1]; simp [hl]⟩
    · rename_i h2
      rw [if_neg (by omega)]
      have hn' : n' = n := by omega
      subst hn'
      split at hs
      · simp only [Option.some.injEq, Prod.mk.injEq] at hs
        rw [hl, if_pos (by assumption)]
        exact ⟨_, by rw [hs.2], by rw [← hs.1]; simp [hl]⟩
      · cases hs
theorem hRead_shape (xs ys : List Int) (hn : ∀ k, nth ys k = nth xs k ∨ ((0 ≤ nth xs k ∧ nth xs k ≤ 39) ∧ 0 ≤ nth ys k ∧ nth ys k ≤ 39)) :
    ∀ (k : Nat) (o : List Int) (g : Nat), hRead xs k = some (o, g) → ∃ o', hRead ys k = some (o', g) ∧ o'.length = o.length
  | 0, o, g, h => by
    simp only [hRead, Option.some.injEq, Prod.mk.injEq] at h
    obtain ⟨rfl, rfl⟩ := h
    exact ⟨[], rfl, rfl⟩
  | k + 1, o, g, h => by
    cases e : hRead xs k with
    | none => simp [hRead, e] at h
    | some p =>
      obtain ⟨o1, g1⟩ := p
      simp only [hRead, e] at h
      obtain ⟨o1', e', hl⟩ := hRead_shape xs ys hn k o1 g1 e
      obtain ⟨o2, e2, hl2⟩ := hStep_shape h hl (hn k)
      exact ⟨o2, by simp only [hRead, e', e2], hl2⟩
theorem nth_set (xs : List Int) (i k : Nat) (x : Int) (h : i < xs.length) : nth (xs.set i x) k = if k = i then x else nth xs k := by
  unfold nth
  simp only [List.getD_eq_getElem?_getD, List.getElem?_set]
  by_cases e : i = k
  · subst e; simp [h]
  · simp [e, Ne.symm e]
theorem hOk_changed {xs : List Int} (h : hOk xs = true) (i : Nat) (hi : i < xs.length) (h0 : 0 ≤ nth xs i) (x : Int) (hx : 0 ≤ x ∧ x ≤ 39) : hOk (xs.set i x) = true := by
  have hl : (xs.set i x).length = xs.length := List.length_set
  have h39 : nth xs i ≤ 39 := by
    obtain ⟨g, e⟩ := hOk_read h
    cases e1 : hRead xs i with
    | none => rw [hRead_none e1 _ (by omega)] at e; cases e
    | some p =>
      obtain ⟨o, g1⟩ := p
      cases e2 : hStep o g1 (nth xs i) with
      | none => rw [hRead_none (k := i + 1) (by rw [hRead_succ e1, e2]) _ (by omega)] at e; cases e
      | some q =>
        by_cases hh : nth xs i ≤ 39
        · exact hh
        · rw [hStep_none (by omega) (by omega) (by omega)] at e2; cases e2
  have key := hRead_shape xs (xs.set i x) (fun k => by
    rw [nth_set xs i k x hi]
    split
    · rename_i e; subst e; exact .inr ⟨⟨h0, h39⟩, hx⟩
    · exact .inl rfl)
  obtain ⟨g, e⟩ := hOk_read h
  obtain ⟨o', e', _⟩ := key _ _ _ e
  rw [hOk_some (xs := xs.set i x) (o := o') (g := g) (by rw [hl]; exact e'), hl, ← hOk_some e]
  exact h
end Go.Proofs.YtldfogiaccanpaaDoor

/- Contracts: laws.toHoist; SameHoist: both sides. -/
set_option linter.unusedVariables false
namespace Go.Proofs.YtldfogiaccanpaaDoor
open Go.RowKit

theorem info_i8 : (Tryd.prog.info? 31).map (fun i => (i.zero, i.size, i.bytes)) = some (some (.int .i8 0), 1, 1) := by kernel_rfl
theorem made_list (v : Value) (n : Nat) : (madeCells #[v] n).toList = List.replicate n v := by
  apply List.ext_getElem
  · simp [madeCells]
  · intro i h1 h2
    simp [madeCells, Nat.mod_one]
/-- 'make([]T, n)' as the walk meets it. -/
theorem make_of {P : Program} (t e : TypeId) (z : Value) (bytes : Nat) (ht : P.underlying t = some (.slice e)) (hinfo : (P.info? e).map (fun i => (i.zero, i.size, i.bytes)) = some (some z, 1, bytes)) (hz : z.cells = #[z]) (hb0 : 0 < bytes)
    (n : Nat) (hn : n * bytes ≤ 281474976710656) (W : World) : (Instr.makeSlice t (.int .i64 (n : Int)) (.int .i64 (n : Int))).run P W = .ok (.slice (some ⟨W.heap.size, 0, none⟩) n n) (W.alloc (.cells (List.replicate n z).toArray e)) := by
  have hm : n ≤ 281474976710656 := Nat.le_trans (Nat.le_mul_of_pos_right _ hb0) hn
  rw [run_make_row' t e z bytes ht hinfo hz .i64 .i64 n (by rw [Nat.mul_comm]; exact hn) (by omega) W, ← made_list z n]
theorem i8s_replicate (n : Nat) : List.replicate n (Value.int .i8 0) = i8s (List.replicate n 0) := by simp [i8s]
theorem Blk.sl {k : IntKind} {w : World} {b : Nat} {xs : List Int} {t : TypeId} (h : Blk w b (xs.map (Value.int k)) t) (hl : xs.length ≤ 9223372036854775807) : Sl k w (Option.some ⟨b, 0, none⟩) xs :=
  And.intro hl fun _ => ⟨b, 0, rfl, h.range⟩

end Go.Proofs.YtldfogiaccanpaaDoor

/- Contracts: laws.toInt64S, eqInt64S. -/
set_option linter.unusedVariables false
namespace Go.Proofs.YtldfogiaccanpaaDoor
open Go.RowKit

theorem info_i64 : (Tryd.prog.info? 2).map (fun i => (i.zero, i.size, i.bytes)) = some (some (.int .i64 0), 1, 8) := by kernel_rfl
theorem i64s_replicate (n : Nat) : List.replicate n (Value.int .i64 0) = i64s (List.replicate n 0) := by simp [i64s]
end Go.Proofs.YtldfogiaccanpaaDoor

/- Slices that a law holds: marked, held; what a call made as a slice of numbers. (The contracts below the head are printed by genh.py.) -/
set_option linter.unusedVariables false
namespace Go.Proofs.YtldfogiaccanpaaDoor
open Go.RowKit

section
variable {w w' : World} {base : Nat} {e : TypeId} {v : Value} {cs : List Value}
theorem Own.sl {k : IntKind} {xs : List Int} (h : Own w base e v (xs.map (Value.int k))) : ∃ A c, v = .slice A xs.length c ∧ Sl k w A xs := by
  rcases h.form with ⟨rfl, hn⟩ | ⟨g, c, rfl, _, _, hr, _, hm, _⟩
  · have : xs = [] := by simpa using hn
    subst this
    exact ⟨none, 0, rfl, ⟨by simp, fun hp => by simp at hp⟩⟩
  · rw [List.length_map] at hm ⊢
    exact ⟨_, c, rfl, ⟨hm, fun _ => ⟨g, 0, rfl, hr⟩⟩⟩
theorem Blk.own {b : Nat} (h : Blk w b cs e) (hb : base ≤ b) (hm : cs.length ≤ 9223372036854775807) : Own w base e (.slice (Option.some ⟨b, 0, none⟩) cs.length cs.length) cs :=
  And.intro (by simp) (Or.inr ⟨b, cs.length, cs.toArray, rfl, hb, h, Nat.le_refl _, by simp only [maxLen]; omega, by simp, by simp⟩)
theorem Own.addr {A : Option Addr} {n c : Nat} (h : Own w base e (.slice A n c) cs) (hp : 0 < cs.length) : ∃ g, A = some ⟨g, 0, none⟩ := by
  rcases h.form with ⟨_, rfl⟩ | ⟨g, c, hv, _⟩
  · simp at hp
  · simp only [Value.slice.injEq] at hv; exact ⟨g, hv.1⟩
theorem Own.cellAt {g n c : Nat} (h : Own w base e (.slice (some ⟨g, 0, none⟩) n c) cs) (j : Nat) (hj : j < cs.length) : w.cell? ⟨g, j, none⟩ = cs[j]? := by
  rcases h.form with ⟨hv, _⟩ | ⟨g', c', hv, _, _, hr, _⟩
  · simp at hv
  · simp only [Value.slice.injEq, Option.some.injEq, Addr.mk.injEq, and_true] at hv
    obtain ⟨rfl, _⟩ := hv
    have := hr j cs[j] (List.getElem?_eq_getElem hj)
    rw [Nat.zero_add] at this
    rw [this, List.getElem?_eq_getElem hj]
theorem Own.someAt {g n c : Nat} (h : Own w base e (.slice (some ⟨g, 0, none⟩) n c) cs) (j : Nat) (hj : j < cs.length) : ∃ u, w.cell? ⟨g, j, none⟩ = some u := by
  rw [h.cellAt j hj, List.getElem?_eq_getElem hj]; exact ⟨_, rfl⟩
theorem Own.frozenAt {g n c : Nat} (h : Own w base e (.slice (some ⟨g, 0, none⟩) n c) cs) (j : Nat) : w.frozen? ⟨g, j, none⟩ = false := by
  rcases h.form with ⟨hv, _⟩ | ⟨g', c', hv, _, _, _, hf, _⟩
  · simp at hv
  · simp only [Value.slice.injEq, Option.some.injEq, Addr.mk.injEq, and_true] at hv
    obtain ⟨rfl, _⟩ := hv
    exact hf j
theorem wrap_i64 (n : Int) (h0 : 0 ≤ n) (h1 : n ≤ 2147483647) : IntKind.wrap .i64 n = n := by
  simp [IntKind.wrap, IntKind.bits, IntKind.signed]; omega
/-- What a slice's own turning leaves: all below it. -/
theorem bl_grown {w0 : World} {B : Nat} (hb : Below B w0 w) (hB : B ≤ w.heap.size) (h : Own w base e v cs) (hg : w.grownBy w' v.ownBlock) (hbase : B ≤ base) : Below B w0 w' :=
  hb.grown hg hB (fun k hk => Nat.le_trans hbase (h.ge k hk))
/-- Another slice stays, of which the first lies below the second's begin. -/
theorem Own.kept2 {b2 : Nat} {e2 : TypeId} {u : Value} {ds : List Value} (h : Own w base e v cs) (hlt : ∀ k, v.ownBlock = some k → k < b2) (h2 : Own w b2 e2 u ds) (hg : w.grownBy w' u.ownBlock) : Own w' base e v cs := by
  refine h.grown hg ?_
  cases hv : v.ownBlock with
  | none => exact .inl rfl
  | some k =>
    refine .inr fun e' => ?_
    have := h2.ge k e'.symm
    have := hlt k hv
    omega
end

def marks (kd : IntKind) (k : Int) (n : Nat) : List Int := (List.range n).map fun (i : Nat) => kd.wrap (k + (i : Int))
def marked (kd : IntKind) (k : Int) (xs : List Int) (j : Nat) : List Int := (List.range xs.length).map fun i => if i < j then kd.wrap (k + (i : Int)) else nth xs i
theorem marks_length (kd : IntKind) (k : Int) (n : Nat) : (marks kd k n).length = n := by simp [marks]
theorem marked_length (kd : IntKind) (k : Int) (xs : List Int) (j : Nat) : (marked kd k xs j).length = xs.length := by simp [marked]
theorem marks_nth (kd : IntKind) (k : Int) (n j : Nat) (h : j < n) : nth (marks kd k n) j = kd.wrap (k + (j : Int)) := by unfold marks; rw [nth_map_range _ _ _ h]
theorem marked_zero (kd : IntKind) (k : Int) (xs : List Int) : marked kd k xs 0 = xs := by
  conv => rhs; rw [← range_nth xs _ rfl]
  apply List.map_congr_left
  intro i _
  rw [if_neg (by omega)]
theorem marked_succ (kd : IntKind) (k : Int) (xs : List Int) (j : Nat) : (marked kd k xs j).set j (kd.wrap (k + (j : Int))) = marked kd k xs (j + 1) := by
  apply List.ext_getElem
  · simp [marked]
  · intro i h1 h2
    simp only [List.getElem_set, marked, List.getElem_map, List.getElem_range]
    by_cases h : j = i
    · subst h; simp
    · rw [if_neg h]
      by_cases h3 : i < j
      · rw [if_pos h3, if_pos (by omega)]
      · rw [if_neg h3, if_neg (by omega)]
theorem marked_full (kd : IntKind) (k : Int) (xs : List Int) (j : Nat) (h : xs.length = j) : marked kd k xs j = marks kd k j := by
  subst h
  apply List.map_congr_left
  intro i hi
  rw [if_pos (List.mem_range.1 hi)]

set_option maxHeartbeats 400000 in
theorem markHoist_any (xs : List Int) (base : Nat) (v : Value) (k0 : Int) (hk1 : 0 ≤ k0) (hk0 : k0 + (xs.length : Int) ≤ 2147483647) (w : World) (h : Own w base 31 v (i8s xs)) :
    Calls Tryd.prog 7 #[v, .int .i64 k0] w fun e w' => e = .returned (.int .i64 (k0 + (xs.length : Int))) ∧ Own w' base 31 v (i8s (marks .i8 k0 xs.length)) ∧ w.grownBy w' v.ownBlock := by
  obtain ⟨A, c, rfl, S⟩ := h.sl
  have hbig := S.1
  have HX := As.mk (marked_zero .i8 k0 xs)
  have HL := As.mk hk0
  generalize hm : xs.length = n at *
  have HM := As.mk hm
  go_enter Tryd.func7, Tryd.ntmps7
  go_wp2
  go_loopw [5, 1] (fun i kk wr => ∃ j : Nat, j ≤ n ∧ i = .int .i64 j ∧ kk = .int .i64 (k0 + (j : Int)) ∧ Own wr base 31 (.slice A n c) (i8s (marked .i8 k0 xs j)) ∧ w.grownBy wr (Value.slice A n c).ownBlock) (fun i kk _ => n - (intOf i).toNat)
  case atStart => exact ⟨0, by omega, rfl, by simp, by rw [HX.out]; exact h, World.grownBy.refl _ _⟩
  case round =>
    obtain ⟨j, hj, rfl, rfl, hO, hg⟩ := hrel
    by_cases hlt : j < n
    · have hlt' : (j : Int) < (n : Int) := by omega
      obtain ⟨g, rfl⟩ := hO.addr (by rw [i8s_length, marked_length, HM.out]; omega)
      have hO' := hO
      have hs := (World.ownsRow.stored (by have := hO; unfold Own at this; rwa [i8s_length, marked_length, HM.out] at this) j (.int .i8 (IntKind.wrap .i8 (k0 + (j : Int))))).2
      have f0 := hO.frozenAt j
      obtain ⟨u0, c1⟩ := hO.someAt j (by rw [i8s_length, marked_length, HM.out]; exact hlt)
      go_wp2
      go_roundw
      case rel => exact ⟨j + 1, by omega, by go_num, by go_num, by have := hO.set (by rw [i8s_length, marked_length, HM.out]) j (.int .i8 (IntKind.wrap .i8 (k0 + (j : Int)))); rw [i8s_set, marked_succ] at this; exact this, hg.trans hs⟩
      case measure => simp [intOf]; omega
    · obtain rfl : j = n := by omega
      go_wp2
      go_ret
      exact ⟨rfl, by rw [marked_full .i8 k0 xs j HM.out] at hO; exact hO, hg⟩
set_option maxHeartbeats 400000 in
theorem heldHoist_any (n : Nat) (A : Option Addr) (c : Nat) (k0 : Int) (hk1 : 0 ≤ k0) (hk0 : k0 + (n : Int) ≤ 2147483647) (w : World) (h : Sl .i8 w A (marks .i8 k0 n)) :
    Calls Tryd.prog 8 #[.slice A n c, .int .i64 k0] w fun e w' => e = .returned (.int .i64 (k0 + (n : Int))) ∧ Below w.heap.size w w' := by
  have HL := As.mk hk0
  have HM := As.mk (marks_length .i8 k0 n)
  go_enter Tryd.func8, Tryd.ntmps8
  go_wp2
  go_loopw [5, 1] (fun i kk wr => ∃ j q : Nat, j ≤ n ∧ i = .int .i64 j ∧ kk = .int .i64 (k0 + (j : Int)) ∧ wr = w.drewN q) (fun i kk _ => n - (intOf i).toNat)
  case atStart => exact ⟨0, 0, by omega, rfl, by simp, rfl⟩
  case round =>
    obtain ⟨j, q, hj, rfl, rfl, rfl⟩ := hrel
    by_cases hlt : j < n
    · have hlt' : (j : Int) < (n : Int) := by omega
      obtain ⟨b, o, rfl, hr⟩ := h.2 (by rw [HM.out]; omega)
      have c0 : w.cell? ⟨b, o + j, none⟩ = some (.int .i8 (IntKind.wrap .i8 (k0 + (j : Int)))) := by
        have := hr j _ (i8s_get _ j (by rw [HM.out]; exact hlt)); rwa [marks_nth _ _ _ _ hlt] at this
      go_wp2
      go_roundw
      case rel => exact ⟨j + 1, _, by omega, by go_num, by go_num, rfl⟩
      case measure => simp [intOf]; omega
    · obtain rfl : j = n := by omega
      go_wp2
      go_ret
      exact ⟨rfl, bl_drewN (Below.refl _ _) _⟩
end Go.Proofs.YtldfogiaccanpaaDoor

/- Contracts: what a hoist means: both sides. -/
set_option linter.unusedVariables false
namespace Go.Proofs.YtldfogiaccanpaaDoor
open Go.RowKit

theorem i8s_snoc (xs : List Int) (x : Int) : i8s xs ++ [.int .i8 x] = i8s (xs ++ [x]) := by simp [i8s]
theorem size8_any (A : Option Addr) (n c : Nat) (w : World) : Calls Tryd.prog 32 #[.slice A n c] w fun e w' => e = .returned (.int .i64 n) ∧ w = w' := by
  go_enter Tryd.func32, Tryd.ntmps32
  go_wp2
  go_ret
  exact ⟨rfl, rfl⟩
theorem isKind_any (n : Int) (hn : -128 ≤ n ∧ n ≤ 127) (w : World) : Calls Tryd.prog 31 #[.int .i8 n] w fun e w' => e = .returned (.bool (inR n 0 39)) ∧ w = w' := by
  obtain ⟨h1, h2⟩ := hn
  go_enter Tryd.func31, Tryd.ntmps31
  go_wp2_with (go_at_call 16; refine (within_any _ _ _ _).mono ?_; rintro e w' ⟨rfl, rfl⟩)
  go_ret
  exact ⟨rfl, rfl⟩

/-- What the one side hands back: its second answer is 'hOk'; if so, its first one is 'hMean', in memory of its own. -/
def Meant (xs : List Int) (base : Nat) (e : Ending) (w' : World) : Prop := ∃ v, e = .returned (.tuple #[v, .bool (hOk xs)]) ∧ (hOk xs = true → Own w' base 31 v (i8s (hMean xs)))

theorem meant_bad {xs : List Int} {v : Value} {b : Bool} {base : Nat} {w : World} (hb : b = false) (h : hOk xs = false) : Meant xs base (.returned (.tuple #[v, .bool b])) w := by
  subst hb; exact ⟨v, by rw [h], fun h' => by rw [h] at h'; cases h'⟩

set_option maxHeartbeats 2000000 in
theorem meaning_any (xs : List Int) (A : Option Addr) (c : Nat) (w : World) (h : Sl .i8 w A xs) (rx : ∀ n ∈ xs, -128 ≤ n ∧ n ≤ 127) (hn : xs.length ≤ 1048576) :
    Calls Tryd.prog 23 #[.slice A xs.length c] w fun e w' => Meant xs w.heap.size e w' ∧ Below w.heap.size w w' := by
  obtain ⟨n, hm⟩ : ∃ n, xs.length = n := ⟨_, rfl⟩
  have HM := As.mk hm
  have HX := As.mk rx
  rw [hm] at hn ⊢
  clear hm rx
  go_enter Tryd.func23, Tryd.ntmps23
  go_wp2
  go_loopw [4, 5, 12] (fun v gg i wr => ∃ (k g : Nat) (o : List Int), k ≤ n ∧ i = .int .i64 k ∧ gg = .int .i64 g ∧ As (hRead xs k = some (o, g)) ∧ Own wr w.heap.size 31 v (i8s o) ∧ Below w.heap.size w wr) (fun _ _ i _ => n - (intOf i).toNat)
  case atStart => exact ⟨0, 0, [], by omega, rfl, rfl, ⟨rfl⟩, Own.lit w w.heap.size 31 [] (Nat.le_refl _) (by simp), bl_new (Below.refl _ _) _⟩
  case round =>
    obtain ⟨k, g, o, hk, rfl, rfl, R, hO, hb⟩ := hrel
    have inv := As.mk (hRead_inv _ _ _ _ R.out)
    have hlen : o.length = k := inv.out.len
    have hgk : g ≤ k := inv.out.le
    obtain ⟨A1, c1', rfl, S1⟩ := hO.sl
    rw [hlen] at hO ⊢
    by_cases hlt : k < n
    · have hlt' : (k : Int) < (n : Int) := by omega
      obtain ⟨b, off, rfl, hr⟩ := h.2 (by rw [HM.out]; omega)
      have c0 : wr.cell? ⟨b, off + k, none⟩ = some (.int .i8 (nth xs k)) := by
        have h0 := hr k _ (i8s_get xs k (by rw [HM.out]; exact hlt))
        rw [hb.cell (World.block_lt_of_cell? w _ h0)]; exact h0
      have hx := HX.out _ (nth_mem xs k (by rw [HM.out]; exact hlt))
      have hs := As.mk (hRead_succ R.out)
      generalize nth xs k = x at *
      by_cases hx10 : x = -10
      · subst hx10
        by_cases hg : g = k
        · subst hg
          go_wp2_with (fail)
          go_ret2
          exact ⟨meant_bad rfl (hOk_none (k := g + 1) (by rw [hs.out, hStep_brk_none hlen.symm]) (by rw [HM.out]; omega)), hb⟩
        · have hg' : ((g : Int) == (k : Int)) = false := by rw [beq_eq_false_iff_ne]; omega
          have hs' := As.mk (hs.out.trans (hStep_brk (o := o) (g := g) (by omega)))
          have hl2 : (o ++ [(-10 : Int)]).length = k + 1 := by simp [hlen]
          clear hs hg
          go_wp2_with (at_builtin; refine app1 (w0 := w) (w.heap.size) rfl (.tmp 22) (.tmp 24) 40 31 (.int .i8 0) 1 rfl Tryd.underlying40 info_i8 rfl (by omega) (.slice A1 k c1') (i8s o) (.int .i8 (-10)) rfl rfl rfl hO hb hb.size (by rw [i8s_length]; omega) ?_)
          intro v2 w2 hO2 hb2 _ _
          rw [i8s_snoc] at hO2
          obtain ⟨A2, c2, rfl, S2⟩ := hO2.sl
          rw [hl2] at hO2 ⊢
          go_wp2_with (fail)
          go_roundw
          case rel => exact ⟨k + 1, k + 1, o ++ [-10], by omega, by go_num, by go_num, ⟨by rw [hs'.out, hlen]⟩, hO2, hb2⟩
          case measure => simp [intOf]; omega
      · have hx10' : (x == -10) = false := by rw [beq_eq_false_iff_ne]; exact hx10
        have n1 := hx.1
        have n2 := hx.2
        by_cases hk1 : 0 ≤ x ∧ x ≤ 39
        · have m1 := hk1.1
          have m2 := hk1.2
          have hw1 : inR x (-4) (-1) = false := by rw [inR_not]; omega
          have hw2 : inR x 0 39 = true := by rw [inR_iff]; exact hk1
          have hs' := As.mk (hs.out.trans (hStep_kind (o := o) (g := g) m1 m2))
          have hl2 : (o ++ [x]).length = k + 1 := by simp [hlen]
          clear hs hx hk1
          go_wp2_with (first | first | (go_at_call 16; refine (within_any _ _ _ _).mono ?_; rintro e w' ⟨rfl, rfl⟩) | (go_at_call 31; refine (isKind_any _ ⟨n1, n2⟩ _).mono ?_; rintro e w' ⟨rfl, rfl⟩) | (at_builtin; refine app1 (w0 := w) (w.heap.size) rfl (.tmp 49) (.tmp 51) 40 31 (.int .i8 0) 1 rfl Tryd.underlying40 info_i8 rfl (by omega) (.slice A1 k c1') (i8s o) (.int .i8 x) rfl rfl rfl hO hb hb.size (by rw [i8s_length]; omega) ?_))
          intro v2 w2 hO2 hb2 _ _
          rw [i8s_snoc] at hO2
          go_wp2_with (fail)
          go_roundw
          case rel => exact ⟨k + 1, g, o ++ [x], by omega, by go_num, rfl, hs', hO2, hb2⟩
          case measure => simp [intOf]; omega
        · by_cases hk2 : -4 ≤ x ∧ x ≤ -1 ∧ g + ((-x).toNat - 1) < k
          · have m1 := hk2.1
            have m2 := hk2.2.1
            have m3 : 0 ≤ (g : Int) - x - 1 := by omega
            have m4 : (g : Int) - x - 1 < k := by omega
            have m5 : ((g : Int) - x).toNat - 1 = g + ((-x).toNat - 1) := by omega
            have hw1 : inR x (-4) (-1) = true := by rw [inR_iff]; omega
            have hs' := As.mk (hs.out.trans (hStep_sub (o := o) (g := g) m1 m2 (by rw [hlen]; exact hk2.2.2)))
            have hkd := inv.out.kinds (g + ((-x).toNat - 1)) (by omega) hk2.2.2
            obtain ⟨g1, rfl⟩ := hO.addr (by rw [i8s_length]; omega)
            have c1 := hO.cellAt (((g : Int) - x).toNat - 1) (by rw [i8s_length, hlen]; omega)
            rw [i8s_get o _ (by omega), m5] at c1
            rw [← m5] at hs' hkd c1
            generalize nth o (((g : Int) - x).toNat - 1) = y at *
            have y1 := hkd.1
            have y2 := hkd.2
            have hw2 : inR y 0 39 = true := by rw [inR_iff]; exact hkd
            have hl2 : (o ++ [y]).length = k + 1 := by simp [hlen]
            clear hs hx hk1 hk2 hkd m5
            go_wp2_with (first | first | (go_at_call 16; refine (within_any _ _ _ _).mono ?_; rintro e w' ⟨rfl, rfl⟩) | (go_at_call 31; refine (isKind_any _ ⟨by omega, by omega⟩ _).mono ?_; rintro e w' ⟨rfl, rfl⟩) | (at_builtin; refine app1 (w0 := w) (w.heap.size) rfl (.tmp 49) (.tmp 51) 40 31 (.int .i8 0) 1 rfl Tryd.underlying40 info_i8 rfl (by omega) (.slice (some ⟨g1, 0, none⟩) k c1') (i8s o) (.int .i8 y) rfl rfl rfl hO hb hb.size (by rw [i8s_length]; omega) ?_))
            intro v2 w2 hO2 hb2 _ _
            rw [i8s_snoc] at hO2
            go_wp2_with (fail)
            go_roundw
            case rel => exact ⟨k + 1, g, o ++ [y], by omega, by go_num, rfl, hs', hO2, hb2⟩
            case measure => simp [intOf]; omega
          · have hn' := hs.out.trans (hStep_none (o := o) (g := g) hx10 hk1 (by rw [hlen]; exact hk2))
            have hw2 : inR x 0 39 = false := by rw [inR_not]; exact hk1
            by_cases hk3 : -4 ≤ x ∧ x ≤ -1
            · have hw1 : inR x (-4) (-1) = true := by rw [inR_iff]; exact hk3
              have m4 : ¬ ((g : Int) - x - 1 < k) := by omega
              clear hs hx hk1 hk2 hk3
              go_wp2_with (first | (go_at_call 16; refine (within_any _ _ _ _).mono ?_; rintro e w' ⟨rfl, rfl⟩) | (go_at_call 31; refine (isKind_any _ ⟨n1, n2⟩ _).mono ?_; rintro e w' ⟨rfl, rfl⟩))
              go_ret2
              exact ⟨meant_bad rfl (hOk_none hn' (by rw [HM.out]; omega)), hb⟩
            · have hw1 : inR x (-4) (-1) = false := by rw [inR_not]; exact hk3
              clear hs hx hk1 hk2 hk3
              go_wp2_with (first | (go_at_call 16; refine (within_any _ _ _ _).mono ?_; rintro e w' ⟨rfl, rfl⟩) | (go_at_call 31; refine (isKind_any _ ⟨n1, n2⟩ _).mono ?_; rintro e w' ⟨rfl, rfl⟩))
              go_ret2
              exact ⟨meant_bad rfl (hOk_none hn' (by rw [HM.out]; omega)), hb⟩
    · obtain rfl : k = n := by omega
      have hR := R.out
      rw [← HM.out] at hR
      have ho := As.mk (hOk_some hR)
      rw [HM.out] at ho
      have hfin : hOk xs = true → Own wr w.heap.size 31 (.slice A1 k c1') (i8s (hMean xs)) := fun h' => by rw [hMean_some hR h']; exact hO
      cases h1 : inR (k : Int) 1 8
      · rw [h1, Bool.false_and] at ho
        go_wp2_with (first | (go_at_call 16; refine (within_any _ _ _ _).mono ?_; rintro e w' ⟨rfl, rfl⟩) | (go_at_call 32; refine (size8_any _ _ _ _).mono ?_; rintro e w' ⟨rfl, rfl⟩))
        go_ret2
        exact ⟨meant_bad rfl ho.out, hb⟩
      · rw [h1, Bool.true_and] at ho
        by_cases h2 : g < k
        · have h2' : (g : Int) < (k : Int) := by omega
          go_wp2_with (first | (go_at_call 16; refine (within_any _ _ _ _).mono ?_; rintro e w' ⟨rfl, rfl⟩) | (go_at_call 32; refine (size8_any _ _ _ _).mono ?_; rintro e w' ⟨rfl, rfl⟩))
          go_ret2
          exact ⟨⟨_, by rw [ho.out]; simp [h2], hfin⟩, hb⟩
        · have h2' : ¬ ((g : Int) < (k : Int)) := by omega
          go_wp2_with (first | (go_at_call 16; refine (within_any _ _ _ _).mono ?_; rintro e w' ⟨rfl, rfl⟩) | (go_at_call 32; refine (size8_any _ _ _ _).mono ?_; rintro e w' ⟨rfl, rfl⟩))
          go_ret2
          exact ⟨meant_bad rfl (by rw [ho.out]; simp [h2]), hb⟩

set_option maxHeartbeats 2000000 in
theorem l02Read_any (xs : List Int) (A : Option Addr) (c : Nat) (w : World) (h : Sl .i8 w A xs) (rx : ∀ n ∈ xs, -128 ≤ n ∧ n ≤ 127) :
    Calls Tryd.prog 18 #[.slice A xs.length c] w fun e w' => Meant xs w.heap.size e w' ∧ Below w.heap.size w w' := by
  obtain ⟨n, hm⟩ : ∃ n, xs.length = n := ⟨_, rfl⟩
  have HM := As.mk hm
  have HX := As.mk rx
  have hbig := h.1
  rw [hm] at hbig ⊢
  clear hm rx
  cases h18 : inR (n : Int) 1 8
  · go_enter Tryd.func18, Tryd.ntmps18
    go_wp2_with (go_at_call 11; refine (l00In_any _ _ _ _).mono ?_; rintro e w' ⟨rfl, rfl⟩)
    go_ret2
    exact ⟨meant_bad rfl (by
      cases e : hOk xs
      · rfl
      · have := hOk_len e
        rw [HM.out] at this
        rw [inR_not] at h18; omega), bl_new (Below.refl _ _) _⟩
  · have hn8 := (inR_iff _ _ _).1 h18
    have hn1 : 1 ≤ n := by omega
    have hn2 : n ≤ 8 := by omega
    go_enter Tryd.func18, Tryd.ntmps18
    go_wp2_with (go_at_call 11; refine (l00In_any _ _ _ _).mono ?_; rintro e w' ⟨rfl, rfl⟩)
    go_loopw [5, 6, 7] (fun v gg i wr => ∃ (k g : Nat) (o : List Int), k ≤ n ∧ i = .int .i64 k ∧ gg = .int .i64 g ∧ As (hRead xs k = some (o, g)) ∧ As (k = n → g < n) ∧ Own wr w.heap.size 31 v (i8s o) ∧ Below w.heap.size w wr) (fun _ _ i _ => n - (intOf i).toNat)
    case atStart => exact ⟨0, 0, [], by omega, rfl, rfl, ⟨rfl⟩, ⟨by omega⟩, Own.lit w w.heap.size 31 [] (Nat.le_refl _) (by simp), bl_new (Below.refl _ _) _⟩
    case round =>
      obtain ⟨k, g, o, hk, rfl, rfl, R, G, hO, hb⟩ := hrel
      have inv := As.mk (hRead_inv _ _ _ _ R.out)
      have hlen : o.length = k := inv.out.len
      have hgk : g ≤ k := inv.out.le
      obtain ⟨A1, c1', rfl, S1⟩ := hO.sl
      rw [hlen] at hO ⊢
      by_cases hlt : k < n
      · have hlt' : (k : Int) < (n : Int) := by omega
        obtain ⟨b, off, rfl, hr⟩ := h.2 (by rw [HM.out]; omega)
        have c0 : wr.cell? ⟨b, off + k, none⟩ = some (.int .i8 (nth xs k)) := by
          have h0 := hr k _ (i8s_get xs k (by rw [HM.out]; exact hlt))
          rw [hb.cell (World.block_lt_of_cell? w _ h0)]; exact h0
        have hx := HX.out _ (nth_mem xs k (by rw [HM.out]; exact hlt))
        have hs := As.mk (hRead_succ R.out)
        generalize nth xs k = x at *
        by_cases hx10 : x = -10
        · subst hx10
          by_cases hg : g = k
          · subst hg
            go_wp2_with (fail)
            go_ret2
            exact ⟨meant_bad rfl (hOk_none (k := g + 1) (by rw [hs.out, hStep_brk_none hlen.symm]) (by rw [HM.out]; omega)), bl_new hb _⟩
          · have hg' : ((k : Int) == (g : Int)) = false := by rw [beq_eq_false_iff_ne]; omega
            have hs' := As.mk (hs.out.trans (hStep_brk (o := o) (g := g) (by omega)))
            have hl2 : (o ++ [(-10 : Int)]).length = k + 1 := by simp [hlen]
            clear hs hg
            by_cases hl1 : k + 1 = n
            · have hq : ((k : Int) == (n : Int) - 1) = true := by rw [beq_iff_eq]; omega
              go_wp2_with (fail)
              go_ret2
              exact ⟨meant_bad rfl (by
                have h' := hs'.out
                rw [show k + 1 = xs.length by rw [HM.out]; exact hl1] at h'
                rw [hOk_some h', hlen, HM.out]; simp; omega), bl_new hb _⟩
            · have hq : ((k : Int) == (n : Int) - 1) = false := by rw [beq_eq_false_iff_ne]; omega
              go_wp2_with (at_builtin; refine app1 (w0 := w) (w.heap.size) rfl (.tmp 42) (.tmp 44) 40 31 (.int .i8 0) 1 rfl Tryd.underlying40 info_i8 rfl (by omega) (.slice A1 k c1') (i8s o) (.int .i8 (-10)) rfl rfl rfl hO hb hb.size (by rw [i8s_length]; omega) ?_)
              intro v2 w2 hO2 hb2 _ _
              rw [i8s_snoc] at hO2
              go_wp2_with (fail)
              go_roundw
              case rel => exact ⟨k + 1, k + 1, o ++ [-10], by omega, by go_num, by go_num, ⟨by rw [hs'.out, hlen]⟩, ⟨by omega⟩, hO2, hb2⟩
              case measure => simp [intOf]; omega
        · have hx10' : (x == -10) = false := by rw [beq_eq_false_iff_ne]; exact hx10
          have n1 := hx.1
          have n2 := hx.2
          by_cases hk1 : 0 ≤ x ∧ x ≤ 39
          · have m1 := hk1.1
            have m2 := hk1.2
            have m3 : x < 40 := by omega
            have hs' := As.mk (hs.out.trans (hStep_kind (o := o) (g := g) m1 m2))
            clear hs hx hk1
            go_wp2_with (at_builtin; refine app1 (w0 := w) (w.heap.size) rfl (.tmp 53) (.tmp 55) 40 31 (.int .i8 0) 1 rfl Tryd.underlying40 info_i8 rfl (by omega) (.slice A1 k c1') (i8s o) (.int .i8 x) rfl rfl rfl hO hb hb.size (by rw [i8s_length]; omega) ?_)
            intro v2 w2 hO2 hb2 _ _
            rw [i8s_snoc] at hO2
            go_wp2_with (fail)
            go_roundw
            case rel => exact ⟨k + 1, g, o ++ [x], by omega, by go_num, rfl, hs', ⟨by omega⟩, hO2, hb2⟩
            case measure => simp [intOf]; omega
          · by_cases hk3 : -4 ≤ x ∧ x ≤ -1
            · have m1 := hk3.1
              have m2 := hk3.2
              have m0 : x < 0 := by omega
              have m6 : ¬ (0 ≤ x) := by omega
              by_cases hk2 : g + ((-x).toNat - 1) < k
              · have m3 : 0 ≤ (g : Int) + -x - 1 := by omega
                have m4 : (g : Int) + -x - 1 < k := by omega
                have m4' : ¬ ((k : Int) ≤ (g : Int) + -x - 1) := by omega
                have hs' := As.mk (hs.out.trans (hStep_sub (o := o) (g := g) m1 m2 (by rw [hlen]; exact hk2)))
                obtain ⟨g1, rfl⟩ := hO.addr (by rw [i8s_length]; omega)
                have c1 := hO.cellAt (g + ((-x).toNat - 1)) (by rw [i8s_length, hlen]; omega)
                rw [i8s_get o _ (by omega)] at c1
                have m5 : ((g : Int) + -x).toNat - 1 = g + ((-x).toNat - 1) := by omega
                rw [← m5] at hs' c1
                generalize nth o (((g : Int) + -x).toNat - 1) = y at *
                clear hs hx hk1 hk2 hk3 m5
                go_wp2_with (at_builtin; refine app1 (w0 := w) (w.heap.size) rfl (.tmp 74) (.tmp 79) 40 31 (.int .i8 0) 1 rfl Tryd.underlying40 info_i8 rfl (by omega) (.slice (some ⟨g1, 0, none⟩) k c1') (i8s o) (.int .i8 y) rfl rfl rfl hO hb hb.size (by rw [i8s_length]; omega) ?_)
                intro v2 w2 hO2 hb2 _ _
                rw [i8s_snoc] at hO2
                go_wp2_with (fail)
                go_roundw
                case rel => exact ⟨k + 1, g, o ++ [y], by omega, by go_num, rfl, hs', ⟨by omega⟩, hO2, hb2⟩
                case measure => simp [intOf]; omega
              · have hn' := hs.out.trans (hStep_none (o := o) (g := g) hx10 hk1 (by rw [hlen]; omega))
                have m4 : (k : Int) ≤ (g : Int) + -x - 1 := by omega
                clear hs hx hk1 hk2 hk3
                go_wp2_with (fail)
                go_ret2
                exact ⟨meant_bad rfl (hOk_none hn' (by rw [HM.out]; omega)), bl_new hb _⟩
            · have hn' := hs.out.trans (hStep_none (o := o) (g := g) hx10 hk1 (by omega))
              by_cases h0 : 0 ≤ x
              · have m3 : ¬ (x < 40) := by omega
                have m4 : ¬ (x < 0) := by omega
                clear hs hx hk1 hk3
                go_wp2_with (fail)
                go_ret2
                exact ⟨meant_bad rfl (hOk_none hn' (by rw [HM.out]; omega)), bl_new hb _⟩
              · have m4 : x < 0 := by omega
                have m3 : ¬ (-4 ≤ x) := by omega
                clear hs hx hk1 hk3
                go_wp2_with (fail)
                go_ret2
                exact ⟨meant_bad rfl (hOk_none hn' (by rw [HM.out]; omega)), bl_new hb _⟩
      · obtain rfl : k = n := by omega
        have hR := R.out
        rw [← HM.out] at hR
        have ho : hOk xs = true := by rw [hOk_some hR, HM.out, h18]; simp [G.out rfl]
        rw [hMean_some hR ho |>.symm] at hO
        go_wp2_with (fail)
        go_ret2
        exact ⟨⟨_, by rw [ho]; rfl, fun _ => hO⟩, hb⟩
end Go.Proofs.YtldfogiaccanpaaDoor


namespace Go.Proofs.YtldfogiaccanpaaDoor
open Go.RowKit

theorem info_fl' : (Tryd.prog.info? 77).map (·.size) = some 24 := by kernel_rfl

end Go.Proofs.YtldfogiaccanpaaDoor

/- Contracts: slices.IndexFunc and ContainsFunc over bytes; both ValidFlag. -/
set_option linter.unusedVariables false
namespace Go.Proofs.YtldfogiaccanpaaDoor
open Go.RowKit

/-- What slices.IndexFunc asks of its function, a closure of function g with captured lb: at element k, in whatever later world. -/
def Pred (g : Nat) (lb : Array Value) (el : Nat → Value) (n : Nat) (p : Nat → Bool) (w : World) : Prop :=
  ∀ (W : World) (k : Nat), k < n → Below w.heap.size w W → Calls Tryd.prog g (#[el k] ++ lb) W fun e w' => e = .returned (.bool (p k)) ∧ Below W.heap.size W w'

/-- The first k < n with p k, as an int; -1. -/
def firstIdx (p : Nat → Bool) : Nat → Nat → Int
  | 0, _ => -1
  | n + 1, k => if p k then (k : Int) else firstIdx p n (k + 1)
theorem firstIdx_hit (p : Nat → Bool) : ∀ (n k j : Nat), j < n → (∀ i, i < j → p (k + i) = false) → p (k + j) = true → firstIdx p n k = ((k + j : Nat) : Int)
  | 0, _, _, h, _, _ => by omega
  | n + 1, k, j, h, hf, ht => by
    unfold firstIdx
    rcases Nat.eq_zero_or_pos j with rfl | hj
    · rw [if_pos (by simpa using ht)]; simp
    · rw [if_neg (by simpa using hf 0 hj)]
      have := firstIdx_hit p n (k + 1) (j - 1) (by omega) (fun i hi => by have := hf (i + 1) (by omega); rwa [show k + (i + 1) = k + 1 + i by omega] at this) (by rwa [show k + 1 + (j - 1) = k + j by omega])
      rw [this]; congr 1; omega
theorem firstIdx_miss (p : Nat → Bool) : ∀ (n k : Nat), (∀ i, i < n → p (k + i) = false) → firstIdx p n k = -1
  | 0, _, _ => rfl
  | n + 1, k, hf => by
    unfold firstIdx
    rw [if_neg (by simpa using hf 0 (by omega))]
    exact firstIdx_miss p n (k + 1) (fun i hi => by have := hf (i + 1) (by omega); rwa [show k + (i + 1) = k + 1 + i by omega] at this)
/-- Is there a k < n with p k? -/
def anyBelow (p : Nat → Bool) (n : Nat) : Bool := (List.range n).any p
theorem firstIdx_nonneg (p : Nat → Bool) (n : Nat) : decide (0 ≤ firstIdx p n 0) = anyBelow p n := by
  unfold anyBelow
  cases h : (List.range n).any p with
  | false =>
    rw [firstIdx_miss p n 0 (fun i hi => by
      rw [List.any_eq_false] at h
      simpa using h i (List.mem_range.2 hi))]
    rfl
  | true =>
    rw [List.any_eq_true] at h
    obtain ⟨i, hi, hp⟩ := h
    rw [List.mem_range] at hi
    have key : ∀ m, m ≤ n → (∀ i, i < m → p i = false) ∨ ∃ j, j < m ∧ (∀ i, i < j → p i = false) ∧ p j = true := by
      intro m
      induction m with
      | zero => intro _; exact .inl (fun i hi => by omega)
      | succ m ih =>
        intro hm
        rcases ih (by omega) with h | ⟨j, hj, h1, h2⟩
        · cases hpm : p m with
          | false => exact .inl (all_succ h hpm)
          | true => exact .inr ⟨m, by omega, h, hpm⟩
        · exact .inr ⟨j, by omega, h1, h2⟩
    rcases key n (Nat.le_refl _) with h | ⟨j, hj, h1, h2⟩
    · rw [h i hi] at hp; cases hp
    · rw [firstIdx_hit p n 0 j hj (by simpa using h1) (by simpa using h2)]
      simp

theorem any_vf (xs : List Int) : (!anyBelow (fun k => decide (6 ≤ nth xs k)) xs.length) = vf xs := by
  unfold anyBelow vf
  rw [Bool.eq_iff_iff]
  simp only [Bool.not_eq_true', List.any_eq_false, List.all_eq_true, decide_eq_true_eq, List.mem_range]
  constructor
  · intro h x hx
    obtain ⟨i, hi, rfl⟩ := List.mem_iff_getElem.1 hx
    rw [nth_get xs i hi]
    have := h i hi
    omega
  · intro h i hi
    have := h _ (nth_mem xs i hi)
    omega

end Go.Proofs.YtldfogiaccanpaaDoor

/- Contracts: in how many places two rows of bytes differ. -/
set_option linter.unusedVariables false
namespace Go.Proofs.YtldfogiaccanpaaDoor
open Go.RowKit

/-- In how many of the first k places two lists differ. -/
def diffs (xs ys : List Int) (k : Nat) : Int := ((List.range k).countP fun i => nth xs i != nth ys i : Nat)
theorem diffs_zero (xs ys : List Int) : diffs xs ys 0 = 0 := rfl
theorem diffs_succ (xs ys : List Int) (k : Nat) : diffs xs ys (k + 1) = diffs xs ys k + if nth xs k != nth ys k then 1 else 0 := by
  unfold diffs
  rw [List.range_succ, List.countP_append, List.countP_singleton]
  split <;> simp
/-- The counter behind a round, whichever way the test went. -/
theorem diffs_t {xs ys : List Int} {k : Nat} (h : (nth xs k != nth ys k) = true) : diffs xs ys (k + 1) = diffs xs ys k + 1 := by rw [diffs_succ, if_pos h]
theorem diffs_f {xs ys : List Int} {k : Nat} (h : (nth xs k != nth ys k) = false) : diffs xs ys (k + 1) = diffs xs ys k := by rw [diffs_succ, h]; simp
theorem diffs_bd (xs ys : List Int) (k : Nat) : 0 ≤ diffs xs ys k ∧ diffs xs ys k ≤ k := by
  unfold diffs
  have := List.countP_le_length (p := fun i => nth xs i != nth ys i) (l := List.range k)
  rw [List.length_range] at this
  omega
theorem diffs_comm (xs ys : List Int) (k : Nat) : diffs xs ys k = diffs ys xs k := by
  unfold diffs
  congr 1
  apply List.countP_congr
  intro i _
  rw [bne_comm]
theorem drewN_two (w : World) (a b : Nat) : (w.drewN a).drewN b = w.drewN (a + b) := World.drewN_drewN ..

end Go.Proofs.YtldfogiaccanpaaDoor

/- Contracts: DistanceOf: both sides. -/
set_option linter.unusedVariables false
namespace Go.Proofs.YtldfogiaccanpaaDoor
open Go.RowKit

/-- The code of valid flags: 0, or 1. -/
def codeV (b : Bool) : Int := if b then 0 else 1
/-- What DistanceOf answers. -/
def distN (xs ys : List Int) : Int := if vf xs && vf ys then diffs xs ys 24 else 0
def ret2 (a b : Value) : Value := .tuple #[a, b]
theorem ret_2 {k k' : IntKind} {a b a' b' : Int} (h : a = a') (h' : b = b') : Ending.returned (.tuple #[.int k a, .int k' b]) = .returned (.tuple #[.int k a', .int k' b']) := by rw [h, h']

end Go.Proofs.YtldfogiaccanpaaDoor

/- For laws: a region that draws its order and calls functions which make memory, beside loads of whole flags. -/
set_option linter.unusedVariables false
namespace Go.Proofs.YtldfogiaccanpaaDoor
open Go.RowKit

theorem range_kept {w w' : World} {b o : Nat} {cs : List Value} (h : w.rangeAt b o cs) (hb : Below w.heap.size w w') : w'.rangeAt b o cs := fun j v hv => by
  have := h j v hv
  rw [hb.cell (World.block_lt_of_cell? w _ this)]; exact this
/-- What is kept through such a region: what came before lies as it did, and one or two flags lie where they did. -/
theorem keep1 {w W W' : World} {b1 : Nat} {c1 : List Value} (h : Below w.heap.size w W ∧ W.rangeAt b1 0 c1) (hb : Below W.heap.size W W') :
    Below w.heap.size w W' ∧ W'.rangeAt b1 0 c1 := ⟨bl_call h.1 hb, range_kept h.2 hb⟩
theorem keep2 {w W W' : World} {b1 b2 : Nat} {c1 c2 : List Value} (h : Below w.heap.size w W ∧ W.rangeAt b1 0 c1 ∧ W.rangeAt b2 0 c2) (hb : Below W.heap.size W W') :
    Below w.heap.size w W' ∧ W'.rangeAt b1 0 c1 ∧ W'.rangeAt b2 0 c2 := ⟨bl_call h.1 hb, range_kept h.2.1 hb, range_kept h.2.2 hb⟩
theorem drew2 {w W : World} {b1 b2 : Nat} {c1 c2 : List Value} (h : Below w.heap.size w W ∧ W.rangeAt b1 0 c1 ∧ W.rangeAt b2 0 c2) :
    Below w.heap.size w W.drew ∧ W.drew.rangeAt b1 0 c1 ∧ W.drew.rangeAt b2 0 c2 := ⟨h.1.drew, h.2.1, h.2.2⟩
theorem start2 (w : World) (c1 c2 : List Value) (t1 t2 : TypeId) : Below w.heap.size w ((w.alloc (.cells c1.toArray t1)).alloc (.cells c2.toArray t2)) ∧ ((w.alloc (.cells c1.toArray t1)).alloc (.cells c2.toArray t2)).rangeAt w.heap.size 0 c1 ∧ ((w.alloc (.cells c1.toArray t1)).alloc (.cells c2.toArray t2)).rangeAt (w.heap.size + 1) 0 c2 :=
  ⟨bl_new (bl_new (Below.refl _ w) _) _, ((Blk.new _ _ _).alloc _).range, (Blk.mk _ _ _ (by simp)).range⟩

section
variable {P : Program} {ops : Array Oper} {Q : Exit → Act → World → Prop} {S : World → Prop} {listed : Array Bool} {ts : List Value} {ds : List Deferred} {w : World} {fuel : Nat}
/-- 'wpAnyH_take', the slot and the frame written out. -/
theorem hTake (i d : Nat) {oi : Oper} {v : Value} (hi : ops[i]? = some oi) (hd : oi.dst = some d)
    (hs : Region.noSelect ops = true) (hf : Region.free .any ops listed i = true) (hr : (Region.ready .any ops listed).contains i = true)
    (hQ : ∀ c a w, Q (.panic c) (a.put oi.dst v) w → Q (.panic c) a w) (hy : YieldsIf P ops S oi v ⟨ts.toArray, ds⟩) (hS : S w)
    (h : wpAnyH P .any ops Q S fuel (listed.setIfInBounds i true) ⟨(ts.set d v).toArray, ds⟩ w) : wpAnyH P .any ops Q S (fuel + 1) listed ⟨ts.toArray, ds⟩ w :=
  wpAnyH_take hi hs hf hr hQ hy hS (by rw [hd]; simpa [Act.put] using h)
/-- The one operation that may come up is a call of function f. -/
theorem hCall (i d f : Nat) {oi : Oper} (hi : ops[i]? = some oi) (hd : oi.dst = some d) (hr : Region.ready .any ops listed = [i]) {args : Array Value}
    (hw : Region.wanted oi (yielded ops ts.toArray) = true) (he : (execOp (Act.mk ts.toArray ds).eval oi).run P w = .ok (.enter f args) w) (v : Value) {R : World → Prop}
    (hc : Calls P f args w fun e w' => e = .returned v ∧ R w')
    (h : ∀ w', R w' → S w' ∧ wpAnyH P .any ops Q S fuel (listed.setIfInBounds i true) ⟨(ts.set d v).toArray, ds⟩ w') : wpAnyH P .any ops Q S (fuel + 1) listed ⟨ts.toArray, ds⟩ w := by
  refine wpAnyH_ready (rs := [i]) hr (by simp) (AllReadyH.cons hi (fun K hK => ?_) AllReadyH.nil)
  rw [if_pos hw]
  unfold Oper.wp
  rw [he, Oper.upon_enter]
  refine hc.mono ?_
  rintro e w' ⟨rfl, hR⟩
  obtain ⟨h1, h2⟩ := h w' hR
  refine hK.out _ _ h1 (fun _ => ?_)
  rw [hd]
  simpa [Act.put] using h2
end
end Go.Proofs.YtldfogiaccanpaaDoor

/- Contracts: valid hoists and meanings; what a hoist means; alike ones: both sides. -/
set_option linter.unusedVariables false
namespace Go.Proofs.YtldfogiaccanpaaDoor
open Go.RowKit

theorem ValidHoist_any (xs : List Int) (A : Option Addr) (c : Nat) (w : World) (h : Sl .i8 w A xs) (rx : ∀ n ∈ xs, -128 ≤ n ∧ n ≤ 127) (hn : xs.length ≤ 1048576) :
    Calls Tryd.prog 17 #[.slice A xs.length c] w fun e w' => e = .returned (.bool (hOk xs)) ∧ Below w.heap.size w w' := by
  go_enter Tryd.func17, Tryd.ntmps17
  go_wp2_with (fail)
  refine (meaning_any xs A c _ h rx hn).mono ?_; rintro e w1 ⟨⟨v, rfl, hO⟩, hb⟩
  go_wp2_with (fail)
  go_ret
  exact ⟨rfl, hb⟩
theorem l02Ok_any (xs : List Int) (A : Option Addr) (c : Nat) (w : World) (h : Sl .i8 w A xs) (rx : ∀ n ∈ xs, -128 ≤ n ∧ n ≤ 127) :
    Calls Tryd.prog 12 #[.slice A xs.length c] w fun e w' => e = .returned (.bool (hOk xs)) ∧ Below w.heap.size w w' := by
  go_enter Tryd.func12, Tryd.ntmps12
  go_wp2_with (fail)
  refine (l02Read_any xs A c _ h rx).mono ?_; rintro e w1 ⟨⟨v, rfl, hO⟩, hb⟩
  go_wp2_with (fail)
  go_ret
  exact ⟨rfl, hb⟩
theorem any_isMn (xs : List Int) : (!anyBelow (fun k => !isMn (nth xs k)) xs.length) = xs.all isMn := by
  unfold anyBelow
  rw [Bool.eq_iff_iff]
  simp only [Bool.not_eq_true', List.any_eq_false, List.all_eq_true, List.mem_range]
  constructor
  · intro h x hx
    obtain ⟨i, hi, rfl⟩ := List.mem_iff_getElem.1 hx
    rw [nth_get xs i hi]
    simpa using h i hi
  · intro h i hi
    simpa using h _ (nth_mem xs i hi)
/-- A slice of numbers of its own, and a code. -/
def Gave (t : TypeId) (ys : List Value) (cc : Int) (base : Nat) (e : Ending) (w' : World) : Prop := ∃ v, e = .returned (.tuple #[v, .int .i64 cc]) ∧ Own w' base t v ys
/-- Two hoists mean the same; the code. -/
def alikeB (xs ys : List Int) : Bool := hOk xs && hOk ys && decide (hMean xs = hMean ys)
def alikeC (xs ys : List Int) : Int := codeV (hOk xs && hOk ys)
end Go.Proofs.YtldfogiaccanpaaDoor

/- Many cells appended to a slice that the call itself made. -/
set_option linter.unusedVariables false
namespace Go.Proofs.YtldfogiaccanpaaDoor
open Go.RowKit
section
variable {P : Program} {ops : Array Oper} {rest : List Oper} {op : Oper} {a : Act} {Q : Exit → Act → World → Prop}
/-- append(v, s...): s is not empty. -/
theorem appN {w0 W : World} (base : Nat) (hgd : op.guard = none) (s x : Operand) (t e : TypeId) (z : Value) (bytes : Nat)
    (ho : op.op = .call { callee := .builtin .append, args := #[s, x], argTypes := #[t, t] })
    (ht : P.underlying t = some (.slice e)) (hinfo : (P.info? e).map (fun i => (i.zero, i.size, i.bytes)) = some (some z, 1, bytes)) (hz : z.cells.size = 1) (hb0 : 0 < bytes)
    (v : Value) (cs : List Value) (ys : List Value) (b o c m : Nat) (hs : a.eval s = v) (hx : a.eval x = .slice (some ⟨b, o, none⟩) m c) (hm : ys.length = m) (h1 : ∀ u ∈ ys, u.oneCell' = true)
    (HO : Own W base e v cs) (hr : W.rangeAt b o ys) (HB : Below base w0 W) (hbase : base ≤ W.heap.size) (hl : (cs.length + m) * bytes ≤ 140737488355328)
    (h : ∀ v1 w1, Own w1 base e v1 (cs ++ ys) → Below base w0 w1 → W.grownBy w1 v.ownBlock → (v1.ownBlock = v.ownBlock ∨ ∃ b, v1.ownBlock = some b ∧ W.heap.size ≤ b) → wpList P ops Q rest (a.put op.dst v1) w1) :
    wpList P ops Q (op :: rest) a W := by
  obtain ⟨i0, hi, hzz⟩ := Option.map_eq_some_iff.1 hinfo
  simp only [Prod.mk.injEq] at hzz
  obtain ⟨hz0, hz1, hz2⟩ := hzz
  have hlen : cs.length + m ≤ 140737488355328 := Nat.le_trans (Nat.le_mul_of_pos_right _ hb0) hl
  refine wpList_append_own_at W hgd s x t ho base e i0 z 1 bytes ht hi hz0 hz1 hz2 hz (by omega) v cs.length cs hs HO ⟨b, o, none⟩ m c ys hx (by omega)
    (fun j u hu => by have := hr j u hu; rwa [show (⟨b, o, none⟩ : Addr).add j = ⟨b, o + j, none⟩ from Addr.add_mid _ _ _]) h1 (by simp only [maxLen]; omega) hl hbase ?_
  intro v1 w1 hown hg _ hat
  refine h v1 w1 (by unfold Own; rw [List.length_append, hm]; exact hown) (HB.grown hg hbase (fun k hk => Own.ge HO k hk)) hg ?_
  rcases hat with hat | hat
  · exact .inl hat
  · exact .inr ⟨_, hat, Nat.le_refl _⟩
end
theorem info_s : (Tryd.prog.info? 9).map (fun i => (i.zero, i.size, i.bytes)) = some (some (.string ⟨#[]⟩), 1, 16) := by kernel_rfl
end Go.Proofs.YtldfogiaccanpaaDoor
