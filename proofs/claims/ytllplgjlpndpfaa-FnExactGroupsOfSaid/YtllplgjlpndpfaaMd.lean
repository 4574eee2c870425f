/- Lists of meanings in own memory, each in a block of its own; marks. -/
import Derived.Test.YtllplgjlpndpfaaH5
import Derived.Test.YtllplgjlpndpfaaOn
import Derived.Test.YtllplgjlpndpfaaGw
import Derived.Test.YtllplgjlpndpfaaLs
set_option linter.unusedVariables false
namespace Go.Proofs.Ytllplgjlpndpfaa
open Go.RowKit

def nthL (ms : List (List Int)) (i : Nat) : List Int := ms.getD i []
theorem nthL_get (ms : List (List Int)) (i : Nat) (h : i < ms.length) : nthL ms i = ms[i] := by
  unfold nthL; rw [List.getD_eq_getElem?_getD, List.getElem?_eq_getElem h]; rfl
theorem nthL_mem (ms : List (List Int)) (i : Nat) (h : i < ms.length) : nthL ms i ∈ ms := by rw [nthL_get ms i h]; exact List.getElem_mem h
theorem nthL_lt {ms : List (List Int)} {m : List Int} {i : Nat} (h : i < ms.length) : nthL (ms ++ [m]) i = nthL ms i := by
  rw [nthL_get _ _ (by simp; omega), nthL_get _ _ h, List.getElem_append_left h]
theorem nthL_last {ms : List (List Int)} {m : List Int} : nthL (ms ++ [m]) ms.length = m := by
  rw [nthL_get _ _ (by simp)]; simp

theorem Own.typ {w : World} {base : Nat} {e : TypeId} {v : Value} {cs : List Value} (h : Own w base e v cs) (k : Nat) (hk : v.ownBlock = some k) : ∃ cur, w.heap[k]? = some (.cells cur e) := by
  rcases h.2 with ⟨hv, _⟩ | ⟨g, cap, cur, hv, hb, hh, _⟩
  · rw [hv] at hk; simp [Value.ownBlock] at hk
  · have : g = k := by rw [hv] at hk; simpa [Value.ownBlock] using hk
    subst this; exact ⟨cur, hh⟩
/-- Two slices lie in two blocks. -/
def Ap (u v : Value) : Prop := ∀ k, u.ownBlock = some k → v.ownBlock ≠ some k
theorem Ap.symm {u v : Value} (h : Ap u v) : Ap v u := fun k h1 h2 => h k h2 h1
theorem Ap.ne {u v : Value} (h : Ap u v) : u.ownBlock = none ∨ u.ownBlock ≠ v.ownBlock := by
  cases hu : u.ownBlock with
  | none => exact .inl rfl
  | some k => exact .inr fun e => h k hu e.symm
theorem Ap.of_typ {w : World} {b1 b2 : Nat} {e1 e2 : TypeId} {u v : Value} {cs ds : List Value} (h1 : Own w b1 e1 u cs) (h2 : Own w b2 e2 v ds) (he : e1 ≠ e2) : Ap u v := fun k hu hv => by
  obtain ⟨c1, q1⟩ := h1.typ k hu
  obtain ⟨c2, q2⟩ := h2.typ k hv
  rw [q1] at q2
  simp only [Option.some.injEq, Obj.cells.injEq] at q2
  exact he q2.2.1
theorem Ap.grown {w : World} {b1 : Nat} {e1 : TypeId} {u v v1 : Value} {cs : List Value} (h : Ap u v) (h1 : Own w b1 e1 u cs) (hat : v1.ownBlock = v.ownBlock ∨ ∃ b, v1.ownBlock = some b ∧ w.heap.size ≤ b) : Ap u v1 := fun k hu hv => by
  rcases hat with hat | ⟨b, hb, hl⟩
  · exact h k hu (by rw [← hat]; exact hv)
  · have := h1.lt k hu
    rw [hb] at hv; simp only [Option.some.injEq] at hv; omega

/-- The values of a list of lists: each in an own block. -/
def Inn (w : World) (base : Nat) (vs : List Value) (ms : List (List Int)) : Prop :=
  vs.length = ms.length ∧ ∀ i, i < ms.length → ∃ g c, vs[i]? = some (.slice (some ⟨g, 0, none⟩) (nthL ms i).length c) ∧ Own w base 62 (.slice (some ⟨g, 0, none⟩) (nthL ms i).length c) (i8s (nthL ms i))
section
variable {w w' : World} {base : Nat} {vs : List Value} {ms : List (List Int)}
theorem Inn.nil (w : World) (base : Nat) : Inn w base [] [] := ⟨rfl, fun i hi => by simp at hi⟩
theorem Inn.kept (h : Inn w base vs ms) (hb : Below w.heap.size w w') : Inn w' base vs ms :=
  ⟨h.1, fun i hi => by obtain ⟨g, c, e, hO⟩ := h.2 i hi; exact ⟨g, c, e, hO.kept hb⟩⟩
theorem Inn.lower (h : Inn w base vs ms) {b' : Nat} (hb : b' ≤ base) : Inn w b' vs ms :=
  ⟨h.1, fun i hi => by obtain ⟨g, c, e, hO⟩ := h.2 i hi; exact ⟨g, c, e, hO.lower hb⟩⟩
theorem Inn.grown (h : Inn w base vs ms) {u : Value} (hg : w.grownBy w' u.ownBlock) {b2 : Nat} {e2 : TypeId} {ds : List Value} (hu : Own w b2 e2 u ds) (he : 62 ≠ e2) : Inn w' base vs ms :=
  ⟨h.1, fun i hi => by obtain ⟨g, c, e, hO⟩ := h.2 i hi; exact ⟨g, c, e, hO.grown hg (Ap.of_typ hO hu he).ne⟩⟩
theorem Inn.snoc (h : Inn w base vs ms) {m : List Int} {g c : Nat} (hO : Own w base 62 (.slice (some ⟨g, 0, none⟩) m.length c) (i8s m)) : Inn w base (vs ++ [.slice (some ⟨g, 0, none⟩) m.length c]) (ms ++ [m]) := by
  refine ⟨by simp [h.1], fun i hi => ?_⟩
  by_cases hlt : i < ms.length
  · obtain ⟨g2, c2, e2, hO2⟩ := h.2 i hlt
    rw [nthL_lt hlt]
    exact ⟨g2, c2, by rw [List.getElem?_append_left (by rw [h.1]; exact hlt)]; exact e2, hO2⟩
  · obtain rfl : i = ms.length := by simp at hi; omega
    rw [nthL_last]
    exact ⟨g, c, by rw [← h.1]; simp, hO⟩
end
theorem im_ne : 62 ≠ 29 := by decide

theorem info_m : (Try.prog.info? 29).map (fun i => (i.zero, i.size, i.bytes)) = some (some (.slice none 0 0), 1, 24) := by kernel_rfl
/-- All in blocks of their own. -/
def Dis (vs : List Value) : Prop := ∀ (i j : Nat) (u x : Value), i ≠ j → vs[i]? = some u → vs[j]? = some x → Ap u x
/-- A list of lists, each in a block of its own. -/
def MD (w : World) (base : Nat) (v : Value) (gs : List (List Int)) : Prop := ∃ vs, Own w base 29 v vs ∧ Inn w base vs gs ∧ Dis vs
section
variable {w w' : World} {base : Nat} {v : Value} {gs : List (List Int)}
theorem MD.kept (h : MD w base v gs) (hb : Below w.heap.size w w') : MD w' base v gs := by
  obtain ⟨vs, h1, h2, h3⟩ := h; exact ⟨vs, h1.kept hb, h2.kept hb, h3⟩
theorem MD.lower (h : MD w base v gs) {b' : Nat} (hb : b' ≤ base) : MD w b' v gs := by
  obtain ⟨vs, h1, h2, h3⟩ := h; exact ⟨vs, h1.lower hb, h2.lower hb, h3⟩
theorem MD.slice (h : MD w base v gs) : ∃ A c, v = .slice A gs.length c := by
  obtain ⟨vs, h1, h2, h3⟩ := h
  rw [← h2.1]; exact h1.slice
theorem MD.at {A : Option Addr} {n c : Nat} (h : MD w base (.slice A n c) gs) (i : Nat) (hi : i < gs.length) : ∃ G g c', A = some ⟨G, 0, none⟩ ∧ w.cell? ⟨G, i, none⟩ = some (.slice (some ⟨g, 0, none⟩) (nthL gs i).length c') ∧ Own w base 62 (.slice (some ⟨g, 0, none⟩) (nthL gs i).length c') (i8s (nthL gs i)) := by
  obtain ⟨vs, h1, h2, _⟩ := h
  obtain ⟨g, c', e, hO⟩ := h2.2 i hi
  obtain ⟨G, rfl⟩ := h1.addr (by rw [h2.1]; omega)
  exact ⟨G, g, c', rfl, by rw [h1.cellAt i (by rw [h2.1]; exact hi)]; exact e, hO⟩
theorem MD.nil (w : World) (base : Nat) : MD w base (.slice none 0 0) [] := ⟨[], Own.nil _ _ _, ⟨rfl, fun i hi => by simp at hi⟩, fun i j u x _ h => by simp at h⟩
/-- A block below them has turned. -/
theorem MD.low (h : MD w base v gs) {row : Option Nat} (hg : w.grownBy w' row) (hl : ∀ k, row = some k → k < base) : MD w' base v gs := by
  obtain ⟨vs, h1, h2, h3⟩ := h
  have key : ∀ {e : TypeId} {u : Value} {cs : List Value}, Own w base e u cs → u.ownBlock = none ∨ u.ownBlock ≠ row := fun {e u cs} hO => by
    cases hu : u.ownBlock with
    | none => exact .inl rfl
    | some k => exact .inr fun e' => by have := hl k e'.symm; have := hO.ge k hu; omega
  exact ⟨vs, h1.grown hg (key h1), ⟨h2.1, fun i hi => by obtain ⟨g, c, e, hO⟩ := h2.2 i hi; exact ⟨g, c, e, hO.grown hg (key hO)⟩⟩, h3⟩
end
theorem nthL_set (gs : List (List Int)) (i j : Nat) (m : List Int) (h : i < gs.length) : nthL (gs.set i m) j = if j = i then m else nthL gs j := by
  unfold nthL
  rw [List.getD_eq_getElem?_getD, List.getD_eq_getElem?_getD, List.getElem?_set]
  by_cases e : i = j
  · subst e; rw [if_pos rfl, if_pos rfl, if_pos h]; rfl
  · rw [if_neg e, if_neg (fun q => e q.symm)]
section
variable {w w1 : World} {base : Nat} {vs : List Value} {gs : List (List Int)}
/-- The content of one has turned, in its place. -/
theorem Inn.upd (h2 : Inn w base vs gs) (h3 : Dis vs) (j : Nat) (hj : j < gs.length) {u : Value} (hu : vs[j]? = some u) {m : List Int} (hm : m.length = (nthL gs j).length) (hO : Own w1 base 62 u (i8s m)) (hg : w.grownBy w1 u.ownBlock) : Inn w1 base vs (gs.set j m) := by
  refine ⟨by rw [List.length_set]; exact h2.1, fun i hi => ?_⟩
  rw [List.length_set] at hi
  obtain ⟨g, c, e, hOi⟩ := h2.2 i hi
  rw [nthL_set gs j i m hj]
  by_cases ei : i = j
  · subst ei
    rw [if_pos rfl, hm]
    rw [e] at hu
    simp only [Option.some.injEq] at hu
    subst hu
    exact ⟨g, c, e, hO⟩
  · rw [if_neg ei]
    exact ⟨g, c, e, hOi.grown hg (h3 i j _ _ ei e hu).ne⟩
/-- One has grown (perhaps elsewhere): the new list of values. -/
theorem Inn.put (h2 : Inn w base vs gs) (h3 : Dis vs) (j : Nat) (hj : j < gs.length) {u : Value} (hu : vs[j]? = some u) {m : List Int} {g' c' : Nat} (hO : Own w1 base 62 (.slice (some ⟨g', 0, none⟩) m.length c') (i8s m)) (hg : w.grownBy w1 u.ownBlock)
    (hat : (Value.slice (some ⟨g', 0, none⟩) m.length c').ownBlock = u.ownBlock ∨ ∃ b, (Value.slice (some ⟨g', 0, none⟩) m.length c').ownBlock = some b ∧ w.heap.size ≤ b) : Inn w1 base (vs.set j (.slice (some ⟨g', 0, none⟩) m.length c')) (gs.set j m) ∧ Dis (vs.set j (.slice (some ⟨g', 0, none⟩) m.length c')) := by
  have hjv : j < vs.length := by rw [h2.1]; exact hj
  have hap : ∀ (i : Nat) (x : Value), i ≠ j → vs[i]? = some x → Ap x (.slice (some ⟨g', 0, none⟩) m.length c') := fun i x hi hx => by
    obtain ⟨g, c, e, hOi⟩ := h2.2 i (by rw [← h2.1]; exact (List.getElem?_eq_some_iff.1 hx).1)
    rw [hx] at e
    simp only [Option.some.injEq] at e
    subst e
    exact (h3 i j _ _ hi hx hu).grown hOi hat
  refine ⟨⟨by rw [List.length_set, List.length_set]; exact h2.1, fun i hi => ?_⟩, fun a b x y hab hx hy => ?_⟩
  · rw [List.length_set] at hi
    obtain ⟨g, c, e, hOi⟩ := h2.2 i hi
    rw [nthL_set gs j i m hj, List.getElem?_set]
    by_cases ei : i = j
    · subst ei
      rw [if_pos rfl, if_pos rfl, if_pos hjv]
      exact ⟨g', c', rfl, hO⟩
    · rw [if_neg ei, if_neg (fun q => ei q.symm)]
      exact ⟨g, c, e, hOi.grown hg (h3 i j _ _ ei e hu).ne⟩
  · rw [List.getElem?_set] at hx hy
    by_cases ea : j = a
    · rw [if_pos ea, if_pos (by omega)] at hx
      rw [if_neg (by omega)] at hy
      simp only [Option.some.injEq] at hx
      subst hx
      exact (hap b y (by omega) hy).symm
    · rw [if_neg ea] at hx
      by_cases eb : j = b
      · rw [if_pos eb, if_pos (by omega)] at hy
        simp only [Option.some.injEq] at hy
        subst hy
        exact hap a x (fun q => ea q.symm) hx
      · rw [if_neg eb] at hy
        exact h3 a b x y hab hx hy
theorem Inn.far {p : Addr} {u : Value} (h2 : Inn w base vs gs) {v : Value} {cs : List Value} (hv : Own w base 29 v cs) (hp : v.ownBlock = some p.block) : Inn (w.setCell p u) base vs gs :=
  ⟨h2.1, fun i hi => by
    obtain ⟨g, c, e, hO⟩ := h2.2 i hi
    refine ⟨g, c, e, hO.far (fun q => ?_) u⟩
    exact (Ap.of_typ hO hv im_ne) _ q hp⟩
/-- The whole step: the last one has grown and is put back. -/
theorem MD.put {G n c : Nat} (h1 : Own w base 29 (.slice (some ⟨G, 0, none⟩) n c) vs) (h2 : Inn w base vs gs) (h3 : Dis vs) (hn : n = vs.length) (j : Nat) (hj : j < gs.length) {u : Value} (hu : vs[j]? = some u) {m : List Int} {g' c' : Nat}
    (hO : Own w1 base 62 (.slice (some ⟨g', 0, none⟩) m.length c') (i8s m)) (hg : w.grownBy w1 u.ownBlock) (hOu : Own w base 62 u (i8s (nthL gs j)))
    (hat : (Value.slice (some ⟨g', 0, none⟩) m.length c').ownBlock = u.ownBlock ∨ ∃ b, (Value.slice (some ⟨g', 0, none⟩) m.length c').ownBlock = some b ∧ w.heap.size ≤ b) :
    MD (w1.setCell ⟨G, j, none⟩ (.slice (some ⟨g', 0, none⟩) m.length c')) base (.slice (some ⟨G, 0, none⟩) n c) (gs.set j m) := by
  have h1' : Own w1 base 29 (.slice (some ⟨G, 0, none⟩) n c) vs := h1.grown hg ((Ap.of_typ hOu h1 im_ne).symm).ne
  obtain ⟨p1, p2⟩ := h2.put h3 j hj hu hO hg hat
  exact ⟨_, h1'.set hn j _, p1.far h1' rfl, p2⟩
/-- One more list. -/
theorem MD.snoc {v v1 : Value} (h1 : Own w base 29 v vs) (h2 : Inn w base vs gs) (h3 : Dis vs) {m : List Int} {g c : Nat} (hO : Own w base 62 (.slice (some ⟨g, 0, none⟩) m.length c) (i8s m)) (hnew : ∀ (i : Nat) (x : Value), vs[i]? = some x → Ap x (.slice (some ⟨g, 0, none⟩) m.length c))
    (ho : Own w1 base 29 v1 (vs ++ [.slice (some ⟨g, 0, none⟩) m.length c])) (hg : w.grownBy w1 v.ownBlock) : MD w1 base v1 (gs ++ [m]) := by
  have hO' := hO.grown hg (Ap.of_typ hO h1 im_ne).ne
  refine ⟨_, ho, (h2.grown hg h1 im_ne).snoc hO', fun a b x y hab hx hy => ?_⟩
  rw [List.getElem?_append] at hx hy
  split at hx
  · split at hy
    · exact h3 a b x y hab hx hy
    · have : b - vs.length = 0 := by
        have := (List.getElem?_eq_some_iff.1 hy).1
        simp at this; omega
      rw [this] at hy
      simp only [List.getElem?_cons_zero, Option.some.injEq] at hy
      subst hy
      exact hnew a x hx
  · have e1 : a - vs.length = 0 := by
      have := (List.getElem?_eq_some_iff.1 hx).1
      simp at this; omega
    rw [e1] at hx
    simp only [List.getElem?_cons_zero, Option.some.injEq] at hx
    subst hx
    split at hy
    · exact (hnew b y hy).symm
    · have : b - vs.length = 0 := by
        have := (List.getElem?_eq_some_iff.1 hy).1
        simp at this; omega
      omega
end
end Go.Proofs.Ytllplgjlpndpfaa
