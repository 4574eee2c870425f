/- Lists of meanings in own memory; all meanings of a book: plain. -/
import Derived.Test.YtnokdbnlagoidaaCi
import Derived.Test.YtnokdbnlagoidaaBk
set_option linter.unusedVariables false
namespace Go.Proofs.Ytnokdbnlagoidaa
open Go.RowKit

def nthL (ms : List (List Int)) (i : Nat) : List Int := ms.getD i []
theorem nthL_get (ms : List (List Int)) (i : Nat) (h : i < ms.length) : nthL ms i = ms[i] := by
  unfold nthL; rw [List.getD_eq_getElem?_getD, List.getElem?_eq_getElem h]; rfl
theorem nthL_mem (ms : List (List Int)) (i : Nat) (h : i < ms.length) : nthL ms i ∈ ms := by rw [nthL_get ms i h]; exact List.getElem_mem h
theorem nthL_lt {ms : List (List Int)} {m : List Int} {i : Nat} (h : i < ms.length) : nthL (ms ++ [m]) i = nthL ms i := by
  rw [nthL_get _ _ (by simp; omega), nthL_get _ _ h, List.getElem_append_left h]
theorem nthL_last {ms : List (List Int)} {m : List Int} : nthL (ms ++ [m]) ms.length = m := by
  rw [nthL_get _ _ (by simp)]; simp

theorem Own.typ {w : World} {base : Nat} {e : TypeId} {v : Value} {cs : List Value} (h : Own w base e v cs) (k : Nat) (hk : v.ownBlock = some k) : ∃ cur, w.heap[k]? = some (.cells cur e) := by
  rcases h.2 with ⟨hv, _⟩ | ⟨g, cap, cur, hv, hb, hh, _⟩
  · rw [hv] at hk; simp [Value.ownBlock] at hk
  · have : g = k := by rw [hv] at hk; simpa [Value.ownBlock] using hk
    subst this; exact ⟨cur, hh⟩
/-- Two slices lie in two blocks. -/
def Ap (u v : Value) : Prop := ∀ k, u.ownBlock = some k → v.ownBlock ≠ some k
theorem Ap.symm {u v : Value} (h : Ap u v) : Ap v u := fun k h1 h2 => h k h2 h1
theorem Ap.ne {u v : Value} (h : Ap u v) : u.ownBlock = none ∨ u.ownBlock ≠ v.ownBlock := by
  cases hu : u.ownBlock with
  | none => exact .inl rfl
  | some k => exact .inr fun e => h k hu e.symm
theorem Ap.of_typ {w : World} {b1 b2 : Nat} {e1 e2 : TypeId} {u v : Value} {cs ds : List Value} (h1 : Own w b1 e1 u cs) (h2 : Own w b2 e2 v ds) (he : e1 ≠ e2) : Ap u v := fun k hu hv => by
  obtain ⟨c1, q1⟩ := h1.typ k hu
  obtain ⟨c2, q2⟩ := h2.typ k hv
  rw [q1] at q2
  simp only [Option.some.injEq, Obj.cells.injEq] at q2
  exact he q2.2.1
theorem Ap.grown {w : World} {b1 : Nat} {e1 : TypeId} {u v v1 : Value} {cs : List Value} (h : Ap u v) (h1 : Own w b1 e1 u cs) (hat : v1.ownBlock = v.ownBlock ∨ ∃ b, v1.ownBlock = some b ∧ w.heap.size ≤ b) : Ap u v1 := fun k hu hv => by
  rcases hat with hat | ⟨b, hb, hl⟩
  · exact h k hu (by rw [← hat]; exact hv)
  · have := h1.lt k hu
    rw [hb] at hv; simp only [Option.some.injEq] at hv; omega

/-- The values of a list of lists: each in an own block. -/
def Inn (w : World) (base : Nat) (vs : List Value) (ms : List (List Int)) : Prop :=
  vs.length = ms.length ∧ ∀ i, i < ms.length → ∃ g c, vs[i]? = some (.slice (some ⟨g, 0, none⟩) (nthL ms i).length c) ∧ Own w base 42 (.slice (some ⟨g, 0, none⟩) (nthL ms i).length c) (i8s (nthL ms i))
section
variable {w w' : World} {base : Nat} {vs : List Value} {ms : List (List Int)}
theorem Inn.nil (w : World) (base : Nat) : Inn w base [] [] := ⟨rfl, fun i hi => by simp at hi⟩
theorem Inn.kept (h : Inn w base vs ms) (hb : Below w.heap.size w w') : Inn w' base vs ms :=
  ⟨h.1, fun i hi => by obtain ⟨g, c, e, hO⟩ := h.2 i hi; exact ⟨g, c, e, hO.kept hb⟩⟩
theorem Inn.lower (h : Inn w base vs ms) {b' : Nat} (hb : b' ≤ base) : Inn w b' vs ms :=
  ⟨h.1, fun i hi => by obtain ⟨g, c, e, hO⟩ := h.2 i hi; exact ⟨g, c, e, hO.lower hb⟩⟩
theorem Inn.grown (h : Inn w base vs ms) {u : Value} (hg : w.grownBy w' u.ownBlock) {b2 : Nat} {e2 : TypeId} {ds : List Value} (hu : Own w b2 e2 u ds) (he : 42 ≠ e2) : Inn w' base vs ms :=
  ⟨h.1, fun i hi => by obtain ⟨g, c, e, hO⟩ := h.2 i hi; exact ⟨g, c, e, hO.grown hg (Ap.of_typ hO hu he).ne⟩⟩
theorem Inn.snoc (h : Inn w base vs ms) {m : List Int} {g c : Nat} (hO : Own w base 42 (.slice (some ⟨g, 0, none⟩) m.length c) (i8s m)) : Inn w base (vs ++ [.slice (some ⟨g, 0, none⟩) m.length c]) (ms ++ [m]) := by
  refine ⟨by simp [h.1], fun i hi => ?_⟩
  by_cases hlt : i < ms.length
  · obtain ⟨g2, c2, e2, hO2⟩ := h.2 i hlt
    rw [nthL_lt hlt]
    exact ⟨g2, c2, by rw [List.getElem?_append_left (by rw [h.1]; exact hlt)]; exact e2, hO2⟩
  · obtain rfl : i = ms.length := by simp at hi; omega
    rw [nthL_last]
    exact ⟨g, c, by rw [← h.1]; simp, hO⟩
end
theorem im_ne : 42 ≠ 26 := by decide
/-- A list of lists. -/
def ML (w : World) (base : Nat) (v : Value) (ms : List (List Int)) : Prop := ∃ vs, Own w base 26 v vs ∧ Inn w base vs ms
section
variable {w w' : World} {base : Nat} {v u v1 : Value} {ms ms' : List (List Int)}
theorem ML.kept (h : ML w base v ms) (hb : Below w.heap.size w w') : ML w' base v ms := by
  obtain ⟨vs, h1, h2⟩ := h; exact ⟨vs, h1.kept hb, h2.kept hb⟩
theorem ML.lower (h : ML w base v ms) {b' : Nat} (hb : b' ≤ base) : ML w b' v ms := by
  obtain ⟨vs, h1, h2⟩ := h; exact ⟨vs, h1.lower hb, h2.lower hb⟩
theorem ML.slice (h : ML w base v ms) : ∃ A c, v = .slice A ms.length c := by
  obtain ⟨vs, h1, h2⟩ := h
  rw [← h2.1]; exact h1.slice
/-- Another list has grown. -/
theorem ML.grown (h : ML w base v ms) (ha : Ap v u) {b2 : Nat} {ds : List Value} (hu : Own w b2 26 u ds) (hg : w.grownBy w' u.ownBlock) : ML w' base v ms := by
  obtain ⟨vs, h1, h2⟩ := h; exact ⟨vs, h1.grown hg ha.ne, h2.grown hg hu im_ne⟩
theorem ML.at {A : Option Addr} {n c : Nat} (h : ML w base (.slice A n c) ms) (i : Nat) (hi : i < ms.length) : ∃ G g c', A = some ⟨G, 0, none⟩ ∧ w.cell? ⟨G, i, none⟩ = some (.slice (some ⟨g, 0, none⟩) (nthL ms i).length c') ∧ Own w base 42 (.slice (some ⟨g, 0, none⟩) (nthL ms i).length c') (i8s (nthL ms i)) := by
  obtain ⟨vs, h1, h2⟩ := h
  obtain ⟨g, c', e, hO⟩ := h2.2 i hi
  obtain ⟨G, rfl⟩ := h1.addr (by rw [h2.1]; omega)
  exact ⟨G, g, c', rfl, by rw [h1.cellAt i (by rw [h2.1]; exact hi)]; exact e, hO⟩
end
theorem info_m : (Try.prog.info? 26).map (fun i => (i.zero, i.size, i.bytes)) = some (some (.slice none 0 0), 1, 24) := by kernel_rfl

/-- Three lists at work: what goes out, the last level, the next one. -/
structure Lv (w : World) (base : Nat) (vo vl vn : Value) (outs lst nxt : List (List Int)) : Prop where
  o : ML w base vo outs
  l : ML w base vl lst
  n : ML w base vn nxt
  ol : Ap vo vl
  on : Ap vo vn
  ln : Ap vl vn
section
variable {w w' : World} {base : Nat} {vo vl vn v1 : Value} {outs lst nxt : List (List Int)}
theorem Lv.kept (h : Lv w base vo vl vn outs lst nxt) (hb : Below w.heap.size w w') : Lv w' base vo vl vn outs lst nxt := ⟨h.o.kept hb, h.l.kept hb, h.n.kept hb, h.ol, h.on, h.ln⟩
end
section
variable {w w' : World} {base : Nat} {vo vl vn v1 : Value} {outs lst nxt : List (List Int)}
/-- Rows of 'next' and of 'out' at an append. -/
theorem Lv.appN (h : Lv w base vo vl vn outs lst nxt) {vs : List Value} (h1 : Own w base 26 vn vs) (h2 : Inn w base vs nxt) {m : List Int} {g c : Nat} (hO : Own w base 42 (.slice (some ⟨g, 0, none⟩) m.length c) (i8s m))
    (ho : Own w' base 26 v1 (vs ++ [.slice (some ⟨g, 0, none⟩) m.length c])) (hg : w.grownBy w' vn.ownBlock) (hat : v1.ownBlock = vn.ownBlock ∨ ∃ b, v1.ownBlock = some b ∧ w.heap.size ≤ b) :
    Lv w' base vo vl v1 outs lst (nxt ++ [m]) ∧ Own w' base 42 (.slice (some ⟨g, 0, none⟩) m.length c) (i8s m) := by
  have hO' := hO.grown hg (Ap.of_typ hO h1 im_ne).ne
  obtain ⟨us, g1, _⟩ := h.o
  obtain ⟨ls, g2, _⟩ := h.l
  exact ⟨⟨h.o.grown h.on h1 hg, h.l.grown h.ln h1 hg, ⟨_, ho, (h2.grown hg h1 im_ne).snoc hO'⟩, h.ol, h.on.grown g1 hat, h.ln.grown g2 hat⟩, hO'⟩
theorem Lv.appO (h : Lv w base vo vl vn outs lst nxt) {vs : List Value} (h1 : Own w base 26 vo vs) (h2 : Inn w base vs outs) {m : List Int} {g c : Nat} (hO : Own w base 42 (.slice (some ⟨g, 0, none⟩) m.length c) (i8s m))
    (ho : Own w' base 26 v1 (vs ++ [.slice (some ⟨g, 0, none⟩) m.length c])) (hg : w.grownBy w' vo.ownBlock) (hat : v1.ownBlock = vo.ownBlock ∨ ∃ b, v1.ownBlock = some b ∧ w.heap.size ≤ b) :
    Lv w' base v1 vl vn (outs ++ [m]) lst nxt := by
  have hO' := hO.grown hg (Ap.of_typ hO h1 im_ne).ne
  obtain ⟨us, g1, _⟩ := h.n
  obtain ⟨ls, g2, _⟩ := h.l
  exact ⟨⟨_, ho, (h2.grown hg h1 im_ne).snoc hO'⟩, h.l.grown h.ol.symm h1 hg, h.n.grown h.on.symm h1 hg, (h.ol.symm.grown g2 hat).symm, (h.on.symm.grown g1 hat).symm, h.ln⟩
end

/-- One kind more, the first k kinds. -/
def kidsTo (m : List Int) (k : Nat) : List (List Int) := (List.range k).map fun (x : Nat) => m ++ [(x : Int)]
theorem kidsTo_succ (m : List Int) (k : Nat) : kidsTo m (k + 1) = kidsTo m k ++ [m ++ [(k : Int)]] := by unfold kidsTo; rw [List.range_succ, List.map_append]; rfl
theorem kidsTo_length (m : List Int) (k : Nat) : (kidsTo m k).length = k := by simp [kidsTo]
/-- All lists of n kinds. -/
def lev (K : Nat) : Nat → List (List Int)
  | 0 => [[]]
  | n + 1 => (lev K n).flatMap fun m => kidsTo m K
def levTo (K n i : Nat) : List (List Int) := ((lev K n).take i).flatMap fun m => kidsTo m K
theorem levTo_zero (K n : Nat) : levTo K n 0 = [] := rfl
theorem levTo_full (K n : Nat) : levTo K n (lev K n).length = lev K (n + 1) := by unfold levTo; rw [List.take_length]; rfl
theorem levTo_succ (K n i : Nat) (h : i < (lev K n).length) : levTo K n (i + 1) = levTo K n i ++ kidsTo (nthL (lev K n) i) K := by
  unfold levTo
  rw [List.take_add_one, List.getElem?_eq_getElem h, List.flatMap_append, nthL_get _ _ h]
  simp
theorem flat_kids (K : Nat) : ∀ l : List (List Int), (l.flatMap fun m => kidsTo m K).length = l.length * K
  | [] => by simp
  | m :: l => by rw [List.flatMap_cons, List.length_append, kidsTo_length, flat_kids K l, List.length_cons, Nat.succ_mul]; omega
theorem lev_length (K : Nat) : ∀ n, (lev K n).length = K ^ n
  | 0 => rfl
  | n + 1 => by show (List.flatMap _ _).length = _; rw [flat_kids, lev_length K n, Nat.pow_succ]
theorem lev_mem (K : Nat) : ∀ n, ∀ m ∈ lev K n, m.length = n ∧ ∀ x ∈ m, 0 ≤ x ∧ x < (K : Int)
  | 0, m, h => by
    have : m = [] := by simpa [lev] using h
    subst this; exact ⟨rfl, fun x hx => by cases hx⟩
  | n + 1, m, h => by
    obtain ⟨m', h1, h2⟩ := List.mem_flatMap.1 h
    obtain ⟨h3, h4⟩ := lev_mem K n m' h1
    obtain ⟨x, hx, rfl⟩ := List.mem_map.1 h2
    rw [List.mem_range] at hx
    refine ⟨by simp [h3], fun y hy => ?_⟩
    rcases List.mem_append.1 hy with hy | hy
    · exact h4 y hy
    · simp at hy; subst hy; omega
theorem pow_small {K n : Nat} (hK : K ≤ 10) (hn : n ≤ 3) : K ^ n ≤ 1000 := by
  have h1 : K ^ n ≤ 10 ^ n := Nat.pow_le_pow_left hK n
  have h2 : 10 ^ n ≤ 10 ^ 3 := Nat.pow_le_pow_right (by omega) hn
  omega
/-- Whether a meaning can be hoisted with one set. -/
def canB (subs : Nat) (m : List Int) : Bool := !(found m 1 subs).isEmpty
/-- The meanings of up to n kinds that can. -/
def outs (K subs : Nat) : Nat → List (List Int)
  | 0 => []
  | n + 1 => outs K subs n ++ (lev K (n + 1)).filter (canB subs)
theorem outs_le (K subs : Nat) (hK : K ≤ 10) : ∀ n, n ≤ 3 → (outs K subs n).length ≤ n * 1000
  | 0, _ => by simp [outs]
  | n + 1, h => by
    show (outs K subs n ++ _).length ≤ _
    have := outs_le K subs hK n (by omega)
    have h2 := List.length_filter_le (canB subs) (lev K (n + 1))
    have h3 := pow_small hK h
    rw [lev_length] at h2
    rw [List.length_append]; omega
theorem outs_mem (K subs : Nat) : ∀ n, ∀ m ∈ outs K subs n, 1 ≤ m.length ∧ m.length ≤ n ∧ ∀ x ∈ m, 0 ≤ x ∧ x < (K : Int)
  | 0, m, h => by cases h
  | n + 1, m, h => by
    rcases List.mem_append.1 h with h | h
    · have := outs_mem K subs n m h; exact ⟨this.1, by omega, this.2.2⟩
    · have := lev_mem K (n + 1) m (List.mem_filter.1 h).1
      exact ⟨by omega, by omega, this.2⟩
/-- What has gone out in the midst of a level. -/
def outTo (K subs n : Nat) (nxt : List (List Int)) : List (List Int) := outs K subs n ++ nxt.filter (canB subs)
theorem outTo_nil (K subs n : Nat) : outTo K subs n [] = outs K subs n := by simp [outTo]
theorem outTo_snoc (K subs n : Nat) (nxt : List (List Int)) (m : List Int) : outTo K subs n (nxt ++ [m]) = if canB subs m then outTo K subs n nxt ++ [m] else outTo K subs n nxt := by
  unfold outTo
  rw [List.filter_append, List.filter_cons]
  split <;> simp [List.append_assoc]
theorem outTo_full (K subs n : Nat) : outTo K subs n (lev K (n + 1)) = outs K subs (n + 1) := rfl
theorem outTo_le (K subs n : Nat) (hK : K ≤ 10) (hn : n ≤ 3) (nxt : List (List Int)) : (outTo K subs n nxt).length ≤ 3000 + nxt.length := by
  unfold outTo
  have := outs_le K subs hK n hn
  have h2 := List.length_filter_le (canB subs) nxt
  rw [List.length_append]; omega
end Go.Proofs.Ytnokdbnlagoidaa
