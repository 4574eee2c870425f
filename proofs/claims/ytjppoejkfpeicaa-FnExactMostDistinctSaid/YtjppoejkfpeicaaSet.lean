/- Slices of flags: blocks whose cells lie in runs of 24. -/
import Derived.Test.YtjppoejkfpeicaaA
import Derived.Test.YtjppoejkfpeicaaF1
import Derived.Laws.IdiomCopy
set_option linter.unusedVariables false
namespace Go.Proofs.Ytjppoejkfpeicaa
open Go.RowKit

theorem flat_length {α : Type} (f : α → List Value) (m : Nat) : ∀ (l : List α), (∀ x ∈ l, (f x).length = m) → (l.flatMap f).length = l.length * m
  | [], _ => by simp
  | x :: l, h => by
    rw [List.flatMap_cons, List.length_append, h x (by simp), flat_length f m l (fun y hy => h y (by simp [hy])), List.length_cons, Nat.add_mul, Nat.one_mul, Nat.add_comm]
theorem flat_get {α : Type} (f : α → List Value) (m : Nat) : ∀ (l : List α), (∀ x ∈ l, (f x).length = m) → ∀ (i : Nat) (x : α), l[i]? = some x → ∀ j, j < m → (l.flatMap f)[i * m + j]? = (f x)[j]?
  | [], _, i, x, h, _, _ => by simp at h
  | y :: l, hl, 0, x, h, j, hj => by
    have hy : y = x := by simpa using h
    subst hy
    rw [List.flatMap_cons, Nat.zero_mul, Nat.zero_add, List.getElem?_append_left (by rw [hl y (by simp)]; exact hj)]
  | y :: l, hl, i + 1, x, h, j, hj => by
    have h' : l[i]? = some x := by simpa using h
    rw [List.flatMap_cons, List.getElem?_append_right (by rw [hl y (by simp), Nat.add_mul, Nat.one_mul]; omega), hl y (by simp)]
    have := flat_get f m l (fun z hz => hl z (by simp [hz])) i x h' j hj
    rw [← this]
    congr 1
    rw [Nat.add_mul, Nat.one_mul]; omega
theorem flat_set {α : Type} (f : α → List Value) (m : Nat) (y : α) (hy : (f y).length = m) : ∀ (l : List α), (∀ x ∈ l, (f x).length = m) → ∀ (i : Nat), i < l.length →
    (l.flatMap f).take (i * m) ++ f y ++ (l.flatMap f).drop (i * m + m) = (l.set i y).flatMap f
  | [], _, i, h => by simp at h
  | z :: l, hl, 0, _ => by
    rw [List.flatMap_cons, Nat.zero_mul, List.take_zero, List.nil_append, Nat.zero_add, List.drop_left' (hl z (by simp)), List.set_cons_zero, List.flatMap_cons]
  | z :: l, hl, i + 1, h => by
    have hz := hl z (by simp)
    have ih := flat_set f m y hy l (fun x hx => hl x (by simp [hx])) i (by simpa using h)
    rw [List.set_cons_succ, List.flatMap_cons, List.flatMap_cons, ← ih]
    have e1 : (i + 1) * m = m + i * m := by rw [Nat.add_mul, Nat.one_mul]; omega
    rw [e1, List.take_append, List.drop_append, hz, List.take_of_length_le (by omega), List.drop_of_length_le (by omega)]
    simp only [List.nil_append, List.append_assoc]
    congr 3
    · congr 1; omega
    · congr 1; omega

/-- Stores of many cells into a block known whole. -/
theorem Blk.setCells {w : World} {b : Nat} {t : TypeId} : ∀ (vs : List Value) (o : Nat) (w : World) (cs : List Value), Blk w b cs t → o + vs.length ≤ cs.length → Blk (w.setCells b o vs) b (cs.take o ++ vs ++ cs.drop (o + vs.length)) t
  | [], o, w, cs, h, hl => by simpa [World.setCells] using h
  | v :: r, o, w, cs, h, hl => by
    have h1 := h.set o v
    have h2 := Blk.setCells (w := w) r (o + 1) _ _ h1 (by simp at hl ⊢; omega)
    rw [World.setCells]
    have e : (cs.set o v).take (o + 1) ++ r ++ (cs.set o v).drop (o + 1 + r.length) = cs.take o ++ (v :: r) ++ cs.drop (o + (v :: r).length) := by
      have hlo : o < cs.length := by simp at hl; omega
      apply List.ext_getElem?
      intro i
      simp only [List.getElem?_append, List.length_append, List.length_take, List.length_set, List.getElem?_take, List.getElem?_set, List.getElem?_drop, List.length_cons]
      rcases Nat.lt_trichotomy i o with hi | hi | hi
      · simp [show i < o + 1 by omega, show min (o + 1) cs.length = o + 1 by omega, show min o cs.length = o by omega, show o ≠ i by omega, hi, show i < o + 1 + r.length by omega, show i < o + (r.length + 1) by omega]
      · subst hi
        simp [show min (i + 1) cs.length = i + 1 by omega, show min i cs.length = i by omega, show i < i + 1 + r.length by omega, show i < i + (r.length + 1) by omega, hlo]
      · have e1 : min (o + 1) cs.length = o + 1 := by omega
        have e2 : min o cs.length = o := by omega
        by_cases h3 : i < o + 1 + r.length
        · simp [e1, e2, h3, show ¬ i < o + 1 by omega, show ¬ i < o by omega, show i < o + (r.length + 1) by omega]
          have : i - o = (i - (o + 1)) + 1 := by omega
          rw [this, List.getElem?_cons_succ]
        · simp [e1, e2, h3, show ¬ i < o + (r.length + 1) by omega]
          rw [if_neg (by omega)]
          congr 1; omega
    rw [e] at h2
    exact h2

/-- '.slice A fs.length c' is a slice that holds the flags fs. -/
def SlF (w : World) (A : Option Addr) (fs : List (List Int)) : Prop :=
  fs.length ≤ 9223372036854775807 ∧ (∀ f ∈ fs, f.length = 24) ∧ (∀ f ∈ fs, ∀ x ∈ f, 0 ≤ x ∧ x ≤ 255) ∧ (0 < fs.length → ∃ b o, A = some ⟨b, o, none⟩ ∧ ∀ i f, fs[i]? = some f → w.rangeAt b (o + i * 24) (u8s f))
theorem SlF.kept {w w' : World} {A : Option Addr} {fs : List (List Int)} (h : SlF w A fs) (hb : Below w.heap.size w w') : SlF w' A fs :=
  ⟨h.1, h.2.1, h.2.2.1, fun hp => by
    obtain ⟨b, o, e, hr⟩ := h.2.2.2 hp
    refine ⟨b, o, e, fun i f hf j v hv => ?_⟩
    have := hr i f hf j v hv
    rw [hb.cell (World.block_lt_of_cell? w _ this)]; exact this⟩
/-- A block of flags. -/
theorem Blk.slF {w : World} {b : Nat} {fs : List (List Int)} {t : TypeId} (h : Blk w b (fs.flatMap u8s) t) (hl : fs.length ≤ 9223372036854775807) (h24 : ∀ f ∈ fs, f.length = 24) (hb : ∀ f ∈ fs, ∀ x ∈ f, 0 ≤ x ∧ x ≤ 255) : SlF w (Option.some ⟨b, 0, none⟩) fs := by
  refine And.intro hl ⟨h24, hb, fun _ => ⟨b, 0, rfl, fun i f hf j v hv => ?_⟩⟩
  have hj : j < 24 := by
    have := (List.getElem?_eq_some_iff.1 hv).1
    rw [u8s_length, h24 f (List.mem_of_getElem? hf)] at this; exact this
  rw [Nat.zero_add, h.at, flat_get u8s 24 fs (fun x hx => by rw [u8s_length]; exact h24 x hx) i f hf j hj]
  exact hv
end Go.Proofs.Ytjppoejkfpeicaa
