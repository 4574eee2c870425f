/- The greatest choice: the search that goes down and the search over all sets find the same list. Plain. -/
import Derived.Test.YtjppoejkfpeicaaA
set_option linter.unusedVariables false
set_option linter.unusedSimpArgs false
namespace Go.Proofs.Ytjppoejkfpeicaa
def fitsN (f : Nat → Nat → Bool) (T : List Nat) (i : Nat) : Bool := T.all (fun k => f k i)
def updN (T B : List Nat) : List Nat := if B.length < T.length then T else B
def loopS (f : Nat → Nat → Bool) : Nat → Nat → List Nat → List Nat → List Nat
  | 0, _, _, B => B
  | m + 1, k, T, B => if fitsN f T k then loopS f m (k + 1) T (loopS f m (k + 1) (T ++ [k]) (updN (T ++ [k]) B)) else loopS f m (k + 1) T B
/-- one list comes before another, of lists of one length -/
def lexb : List Nat → List Nat → Bool
  | [], _ => false
  | _ :: _, [] => false
  | a :: x, b :: y => decide (a < b) || (decide (a = b) && lexb x y)
theorem lexb_irrefl : ∀ x, lexb x x = false
  | [] => rfl
  | a :: x => by simp [lexb, lexb_irrefl x]
theorem lexb_trans : ∀ x y z, lexb x y = true → lexb y z = true → lexb x z = true
  | [], _, _, h, _ => by simp [lexb] at h
  | _ :: _, [], _, h, _ => by simp [lexb] at h
  | _ :: _, _ :: _, [], _, h => by simp [lexb] at h
  | a :: x, b :: y, c :: z, h1, h2 => by
    simp only [lexb, Bool.or_eq_true, Bool.and_eq_true, decide_eq_true_eq] at h1 h2 ⊢
    rcases h1 with h1 | ⟨h1, h1'⟩ <;> rcases h2 with h2 | ⟨h2, h2'⟩
    · left; omega
    · left; omega
    · left; omega
    · right; exact ⟨by omega, lexb_trans x y z h1' h2'⟩
theorem lexb_total : ∀ x y, x.length = y.length → lexb x y = false → lexb y x = false → x = y
  | [], [], _, _, _ => rfl
  | [], _ :: _, h, _, _ => by simp at h
  | _ :: _, [], h, _, _ => by simp at h
  | a :: x, b :: y, h, h1, h2 => by
    simp only [lexb, Bool.or_eq_false_iff, Bool.and_eq_false_iff, decide_eq_false_iff_not] at h1 h2
    have hab : a = b := by omega
    subst hab
    congr 1
    exact lexb_total x y (by simpa using h) (by simpa using h1) (by simpa using h2)
theorem lexb_asymm (x y) (h : lexb x y = true) : lexb y x = false := by
  cases h2 : lexb y x
  · rfl
  · have := lexb_trans x y x h h2; rw [lexb_irrefl] at this; cases this
/-- x holds rising numbers from k on, below n, that fit behind T -/
def vld (f : Nat → Nat → Bool) (n : Nat) : Nat → List Nat → List Nat → Prop
  | _, _, [] => True
  | k, T, a :: x => k ≤ a ∧ a < n ∧ fitsN f T a = true ∧ vld f n (a + 1) (T ++ [a]) x
theorem vld_mono {f n} : ∀ {x k k' T}, k' ≤ k → vld f n k T x → vld f n k' T x
  | [], _, _, _, _, _ => trivial
  | _ :: _, _, _, _, h, ⟨h1, h2⟩ => ⟨by omega, h2⟩
/-- x is the first one of the longest lists for which p holds -/
def Top (p : List Nat → Prop) (x : List Nat) : Prop := p x ∧ ∀ y, p y → y.length ≤ x.length ∧ (y.length = x.length → lexb y x = false)
theorem Top.one {p : List Nat → Prop} {x y : List Nat} (hx : Top p x) (hy : Top p y) : x = y := by
  have h1 := (hx.2 y hy.1).1
  have h2 := (hy.2 x hx.1).1
  have e : x.length = y.length := by omega
  exact lexb_total x y e ((hy.2 x hx.1).2 e) ((hx.2 y hy.1).2 e.symm)
theorem loopS_top (f : Nat → Nat → Bool) : ∀ (m k : Nat) (T B : List Nat),
    (loopS f m k T B = B ∧ ∀ x, x ≠ [] → vld f (k + m) k T x → T.length + x.length ≤ B.length) ∨
    (∃ x, x ≠ [] ∧ loopS f m k T B = T ++ x ∧ B.length < T.length + x.length ∧ vld f (k + m) k T x ∧ ∀ y, y ≠ [] → vld f (k + m) k T y → y.length ≤ x.length ∧ (y.length = x.length → lexb y x = false))
  | 0, k, T, B => by
    left
    refine ⟨rfl, fun x hx h => ?_⟩
    cases x with
    | nil => exact absurd rfl hx
    | cons a x => simp only [vld] at h; omega
  | m + 1, k, T, B => by
    have e : k + (m + 1) = k + 1 + m := by omega
    rw [e]
    have split : ∀ y, y ≠ [] → vld f (k + 1 + m) k T y → (∃ y', y = k :: y' ∧ fitsN f T k = true ∧ vld f (k + 1 + m) (k + 1) (T ++ [k]) y') ∨ (vld f (k + 1 + m) (k + 1) T y ∧ ∃ a y', y = a :: y' ∧ k < a) := by
      intro y hy h
      cases y with
      | nil => exact absurd rfl hy
      | cons a y =>
        obtain ⟨h1, h2, h3, h4⟩ := h
        by_cases hak : a = k
        · subst hak; exact Or.inl ⟨y, rfl, h3, h4⟩
        · exact Or.inr ⟨⟨by omega, h2, h3, h4⟩, a, y, rfl, by omega⟩
    unfold loopS
    by_cases hf : fitsN f T k = true
    · rw [if_pos hf]
      -- the inner search
      have inner : (loopS f m (k + 1) (T ++ [k]) (updN (T ++ [k]) B) = B ∧ ∀ y', vld f (k + 1 + m) (k + 1) (T ++ [k]) y' → T.length + (k :: y').length ≤ B.length) ∨
          (∃ x, loopS f m (k + 1) (T ++ [k]) (updN (T ++ [k]) B) = T ++ k :: x ∧ B.length < T.length + (k :: x).length ∧ vld f (k + 1 + m) (k + 1) (T ++ [k]) x ∧
            ∀ y, vld f (k + 1 + m) (k + 1) (T ++ [k]) y → (k :: y).length ≤ (k :: x).length ∧ ((k :: y).length = (k :: x).length → lexb (k :: y) (k :: x) = false)) := by
        by_cases hb : B.length < (T ++ [k]).length
        · have hu : updN (T ++ [k]) B = T ++ [k] := by unfold updN; rw [if_pos hb]
          rw [hu]
          right
          rcases loopS_top f m (k + 1) (T ++ [k]) (T ++ [k]) with ⟨h1, h2⟩ | ⟨x, hx, h1, h2, h3, h4⟩
          · refine ⟨[], by rw [h1], by simpa using hb, trivial, fun y hy => ?_⟩
            have : y = [] := by
              apply Classical.byContradiction
              intro hne
              have := h2 y hne hy
              have hlen : 0 < y.length := List.length_pos_iff.2 hne
              omega
            subst this
            exact ⟨Nat.le_refl _, fun _ => lexb_irrefl _⟩
          · refine ⟨x, by rw [h1]; simp, by simp at hb ⊢; omega, h3, fun y hy => ?_⟩
            by_cases hy0 : y = []
            · subst hy0
              refine ⟨by simp, fun he => ?_⟩
              have hlen : 0 < x.length := List.length_pos_iff.2 hx
              simp only [List.length_cons, List.length_nil] at he; omega
            · have := h4 y hy0 hy
              exact ⟨by simpa using this.1, fun he => by simpa [lexb] using this.2 (by simpa using he)⟩
        · have hu : updN (T ++ [k]) B = B := by unfold updN; rw [if_neg hb]
          rw [hu]
          rcases loopS_top f m (k + 1) (T ++ [k]) B with ⟨h1, h2⟩ | ⟨x, hx, h1, h2, h3, h4⟩
          · left
            refine ⟨h1, fun y hy => ?_⟩
            by_cases hy0 : y = []
            · subst hy0; simp at hb ⊢; omega
            · have := h2 y hy0 hy
              simp at this ⊢; omega
          · right
            refine ⟨x, by rw [h1]; simp, by simp at h2 ⊢; omega, h3, fun y hy => ?_⟩
            by_cases hy0 : y = []
            · subst hy0
              refine ⟨by simp, fun he => ?_⟩
              have hlen : 0 < x.length := List.length_pos_iff.2 hx
              simp only [List.length_cons, List.length_nil] at he; omega
            · have := h4 y hy0 hy
              exact ⟨by simpa using this.1, fun he => by simpa [lexb] using this.2 (by simpa using he)⟩
      generalize loopS f m (k + 1) (T ++ [k]) (updN (T ++ [k]) B) = R1 at *
      rcases loopS_top f m (k + 1) T R1 with ⟨h1, h2⟩ | ⟨x, hx, h1, h2, h3, h4⟩
      · rw [h1]
        rcases inner with ⟨e1, i2⟩ | ⟨x, e1, i2, i3, i4⟩
        · left
          refine ⟨e1, fun y hy hv => ?_⟩
          rcases split y hy hv with ⟨y', rfl, _, h⟩ | ⟨h, _⟩
          · exact i2 y' h
          · rw [← e1]; exact h2 y hy h
        · right
          refine ⟨k :: x, by simp, e1, i2, ⟨Nat.le_refl _, by omega, hf, i3⟩, fun y hy hv => ?_⟩
          rcases split y hy hv with ⟨y', rfl, _, h⟩ | ⟨h, a, y', rfl, hlt⟩
          · exact i4 y' h
          · have := h2 _ hy h
            rw [e1] at this
            refine ⟨by simp at this ⊢; omega, fun _ => ?_⟩
            have h1 : ¬ a < k := by omega
            have h2 : ¬ a = k := by omega
            simp [lexb, h1, h2]
      · right
        refine ⟨x, hx, h1, ?_, vld_mono (by omega) h3, fun y hy hv => ?_⟩
        · rcases inner with ⟨e1, i2⟩ | ⟨x', e1, i2, i3, i4⟩
          · rw [e1] at h2; exact h2
          · rw [e1] at h2; simp at h2 i2 ⊢; omega
        · rcases split y hy hv with ⟨y', rfl, _, h⟩ | ⟨h, _⟩
          · have : T.length + (k :: y').length ≤ R1.length := by
              rcases inner with ⟨e1, i2⟩ | ⟨x', e1, i2, i3, i4⟩
              · rw [e1]; exact i2 y' h
              · have := (i4 y' h).1
                rw [e1]; simp at this ⊢; omega
            exact ⟨by simp at this h2 ⊢; omega, fun he => by simp at this h2 he; omega⟩
          · exact h4 y hy h
    · rw [if_neg hf]
      have same : ∀ y, y ≠ [] → (vld f (k + 1 + m) k T y ↔ vld f (k + 1 + m) (k + 1) T y) := fun y hy => ⟨fun h => by
        rcases split y hy h with ⟨_, _, h, _⟩ | ⟨h, _⟩
        · exact absurd h hf
        · exact h, fun h => vld_mono (by omega) h⟩
      rcases loopS_top f m (k + 1) T B with ⟨h1, h2⟩ | ⟨x, hx, h1, h2, h3, h4⟩
      · exact Or.inl ⟨h1, fun y hy h => h2 y hy ((same y hy).1 h)⟩
      · exact Or.inr ⟨x, hx, h1, h2, (same x hx).2 h3, fun y hy h => h4 y hy ((same y hy).1 h)⟩

theorem spec_top (f : Nat → Nat → Bool) (n : Nat) : Top (vld f n 0 []) (loopS f n 0 [] []) := by
  rcases loopS_top f n 0 [] [] with ⟨h1, h2⟩ | ⟨x, hx, h1, h2, h3, h4⟩
  · rw [h1]
    refine ⟨trivial, fun y hy => ?_⟩
    by_cases hy0 : y = []
    · subst hy0; exact ⟨Nat.le_refl _, fun _ => rfl⟩
    · have := h2 y hy0 (by rw [Nat.zero_add]; exact hy)
      have hlen : 0 < y.length := List.length_pos_iff.2 hy0
      simp at this
      subst this
      exact absurd rfl hy0
  · rw [h1]
    rw [Nat.zero_add] at h3 h4
    refine ⟨h3, fun y hy => ?_⟩
    by_cases hy0 : y = []
    · subst hy0
      have hlen : 0 < x.length := List.length_pos_iff.2 hx
      exact ⟨by simp, fun he => by simp at he; omega⟩
    · exact h4 y hy0 hy

/-- the numbers of a set -/
def ownN (n s : Nat) : List Nat := (List.range n).filter (fun i => s.testBit i)
/-- all pairs of a list are far from each other -/
def accN (f : Nat → Nat → Bool) : List Nat → List Nat → Bool
  | _, [] => true
  | T, a :: x => fitsN f T a && accN f (T ++ [a]) x
def betterN (x y : List Nat) : Bool := decide (y.length < x.length) || (decide (x.length = y.length) && lexb x y)
def bestN (f : Nat → Nat → Bool) (n : Nat) : Nat → List Nat
  | 0 => []
  | s + 1 => if (betterN (ownN n s) (bestN f n s) && accN f [] (ownN n s)) then ownN n s else bestN f n s
theorem bestN_top (f : Nat → Nat → Bool) (n : Nat) : ∀ s, 0 < s → Top (fun x => ∃ r, r < s ∧ ownN n r = x ∧ accN f [] x = true) (bestN f n s)
  | 0, h => absurd h (by omega)
  | s + 1, _ => by
    by_cases hs : s = 0
    · subst hs
      have h0 : ownN n 0 = [] := by simp [ownN]
      have hb : bestN f n 1 = [] := by simp [bestN, h0, betterN, lexb]
      rw [hb]
      refine ⟨⟨0, by omega, h0, rfl⟩, ?_⟩
      rintro y ⟨r, hr, rfl, _⟩
      obtain rfl : r = 0 := by omega
      rw [h0]
      exact ⟨Nat.le_refl _, fun _ => rfl⟩
    · have ih := bestN_top f n s (by omega)
      unfold bestN
      generalize bestN f n s = B at *
      obtain ⟨⟨r0, hr0, e0, a0⟩, ih2⟩ := ih
      by_cases h : (betterN (ownN n s) B && accN f [] (ownN n s)) = true
      · rw [if_pos h]
        simp only [Bool.and_eq_true, betterN, Bool.or_eq_true, decide_eq_true_eq] at h
        obtain ⟨hb, ha⟩ := h
        refine ⟨⟨s, by omega, rfl, ha⟩, ?_⟩
        rintro y ⟨r, hr, rfl, hy⟩
        by_cases hrs : r = s
        · subst hrs; exact ⟨Nat.le_refl _, fun _ => lexb_irrefl _⟩
        · have := ih2 (ownN n r) ⟨r, by omega, rfl, hy⟩
          rcases hb with hb | ⟨hb, hl⟩
          · exact ⟨by omega, fun he => by omega⟩
          · refine ⟨by omega, fun he => ?_⟩
            have h3 := this.2 (by omega)
            cases h4 : lexb (ownN n r) (ownN n s)
            · rfl
            · rw [lexb_trans _ _ _ h4 hl] at h3; cases h3
      · rw [if_neg h]
        refine ⟨⟨r0, by omega, e0, a0⟩, ?_⟩
        rintro y ⟨r, hr, rfl, hy⟩
        by_cases hrs : r = s
        · subst hrs
          simp only [Bool.and_eq_true, betterN, Bool.or_eq_true, decide_eq_true_eq] at h
          rw [hy] at h
          simp only [and_true, not_or, not_and] at h
          refine ⟨by omega, fun he => ?_⟩
          have := h.2 he
          simpa using this
        · exact ih2 (ownN n r) ⟨r, by omega, rfl, hy⟩

theorem bits_of (p : Nat → Bool) : ∀ n, ∃ s, s < 2 ^ n ∧ ∀ i, i < n → s.testBit i = p i
  | 0 => ⟨0, by simp, fun i h => absurd h (by omega)⟩
  | n + 1 => by
    obtain ⟨s, hs, h⟩ := bits_of p n
    have h2 : 2 ^ (n + 1) = 2 ^ n + 2 ^ n := by rw [Nat.pow_succ]; omega
    cases hp : p n
    · refine ⟨s, by omega, fun i hi => ?_⟩
      by_cases hin : i = n
      · subst hin; rw [hp]; exact Nat.testBit_lt_two_pow hs
      · exact h i (by omega)
    · refine ⟨2 ^ n + s, by omega, fun i hi => ?_⟩
      by_cases hin : i = n
      · subst hin
        rw [hp, Nat.testBit_two_pow_add_eq, Nat.testBit_lt_two_pow hs]; rfl
      · rw [Nat.testBit_two_pow_add_gt (by omega)]
        exact h i (by omega)
/-- x rises, within [k, n) -/
def risesN (n : Nat) : Nat → List Nat → Prop
  | _, [] => True
  | k, a :: x => k ≤ a ∧ a < n ∧ risesN n (a + 1) x
theorem rises_ge {n : Nat} : ∀ {x : List Nat} {k : Nat}, risesN n k x → ∀ a ∈ x, k ≤ a ∧ a < n
  | [], _, _, a, ha => by cases ha
  | b :: x, k, ⟨h1, h2, h3⟩, a, ha => by
    rcases List.mem_cons.1 ha with rfl | ha
    · exact ⟨h1, h2⟩
    · have := rises_ge h3 a ha; omega
theorem filter_rises (p : Nat → Bool) : ∀ (m k : Nat) (x : List Nat), risesN (k + m) k x → (∀ i, k ≤ i → i < k + m → (p i = true ↔ i ∈ x)) → (List.range' k m).filter p = x
  | 0, k, x, h, _ => by
    cases x with
    | nil => rfl
    | cons a x => simp only [risesN] at h; omega
  | m + 1, k, x, h, hp => by
    rw [List.range'_succ]
    have e : k + (m + 1) = k + 1 + m := by omega
    rw [e] at h hp
    cases x with
    | nil =>
      have : p k = false := by
        have := hp k (by omega) (by omega)
        simpa using this
      rw [List.filter_cons_of_neg (by rw [this]; simp)]
      exact filter_rises p m (k + 1) [] trivial (fun i h1 h2 => hp i (by omega) h2)
    | cons a x =>
      obtain ⟨h1, h2, h3⟩ := h
      by_cases ha : a = k
      · subst ha
        rw [List.filter_cons_of_pos ((hp a (by omega) (by omega)).2 (by simp))]
        rw [filter_rises p m (a + 1) x h3 (fun i h1 h2 => ?_)]
        rw [hp i (by omega) h2]
        constructor
        · intro hi
          rcases List.mem_cons.1 hi with rfl | hi
          · omega
          · exact hi
        · intro hi; exact List.mem_cons_of_mem _ hi
      · have hk : ¬ p k = true := by
          rw [hp k (by omega) (by omega)]
          intro hk
          rcases List.mem_cons.1 hk with rfl | hk
          · exact ha rfl
          · have := rises_ge h3 k hk; omega
        rw [List.filter_cons_of_neg hk]
        exact filter_rises p m (k + 1) (a :: x) ⟨by omega, h2, h3⟩ (fun i h1 h2 => hp i (by omega) h2)
theorem rises_filter (p : Nat → Bool) : ∀ (m k : Nat), risesN (k + m) k ((List.range' k m).filter p)
  | 0, k => trivial
  | m + 1, k => by
    rw [List.range'_succ]
    have e : k + (m + 1) = k + 1 + m := by omega
    have ih := rises_filter p m (k + 1)
    rw [e]
    cases hp : p k
    · rw [List.filter_cons_of_neg (by rw [hp]; simp)]
      have mono : ∀ {x : List Nat}, risesN (k + 1 + m) (k + 1) x → risesN (k + 1 + m) k x := by
        intro x h
        cases x with
        | nil => trivial
        | cons a x => exact ⟨by have := h.1; omega, h.2⟩
      exact mono ih
    · rw [List.filter_cons_of_pos hp]
      exact ⟨by omega, by omega, ih⟩
theorem own_rises (n s : Nat) : risesN n 0 (ownN n s) := by
  have := rises_filter (fun i => s.testBit i) n 0
  rw [Nat.zero_add] at this
  unfold ownN
  rw [List.range_eq_range']
  exact this
theorem vld_iff (f : Nat → Nat → Bool) (n : Nat) : ∀ (x : List Nat) (k : Nat) (T : List Nat), vld f n k T x ↔ risesN n k x ∧ accN f T x = true
  | [], k, T => by simp [vld, risesN, accN]
  | a :: x, k, T => by
    simp only [vld, risesN, accN, Bool.and_eq_true, vld_iff f n x]
    constructor
    · rintro ⟨h1, h2, h3, h4, h5⟩; exact ⟨⟨h1, h2, h4⟩, h3, h5⟩
    · rintro ⟨⟨h1, h2, h4⟩, h3, h5⟩; exact ⟨h1, h2, h3, h4, h5⟩
theorem own_all (f : Nat → Nat → Bool) (n : Nat) (x : List Nat) : (∃ r, r < 2 ^ n ∧ ownN n r = x ∧ accN f [] x = true) ↔ vld f n 0 [] x := by
  rw [vld_iff]
  constructor
  · rintro ⟨r, _, rfl, h⟩; exact ⟨own_rises n r, h⟩
  · rintro ⟨h1, h2⟩
    obtain ⟨s, hs, hb⟩ := bits_of (fun i => decide (i ∈ x)) n
    refine ⟨s, hs, ?_, h2⟩
    unfold ownN
    rw [List.range_eq_range']
    refine filter_rises _ n 0 x (by rw [Nat.zero_add]; exact h1) (fun i _ hi => ?_)
    rw [hb i (by omega)]; simp
/-- both searches find the same list -/
theorem best_both (f : Nat → Nat → Bool) (n : Nat) : bestN f n (2 ^ n) = loopS f n 0 [] [] := by
  have h1 := bestN_top f n (2 ^ n) (Nat.two_pow_pos n)
  have e : (fun x => ∃ r, r < 2 ^ n ∧ ownN n r = x ∧ accN f [] x = true) = vld f n 0 [] := by
    funext x; exact propext (own_all f n x)
  rw [e] at h1
  exact h1.one (spec_top f n)
end Go.Proofs.Ytjppoejkfpeicaa
