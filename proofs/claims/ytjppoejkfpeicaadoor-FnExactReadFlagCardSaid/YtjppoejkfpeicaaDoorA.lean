/- Words used by all proofs of this seat: a block known whole ('Blk'), how arrays are loaded, stored and handed back. -/
import Derived.Test.YtjppoejkfpeicaaDoorProg
import Derived.WalkKit
import Derived.WalkLawsBesides
import Derived.WalkSpells
import Derived.Deep.MidRow
import Derived.Deep.WholeRow
import Derived.Deep.QuietTactic
import Derived.BigQuiet
import Derived.Lib.Hide
import Derived.KernelRfl
import Derived.Outline
import Derived.Laws.CopyOwn
set_option linter.unusedVariables false
namespace Go.Proofs.YtjppoejkfpeicaaDoor
open Go.RowKit

/-- A fact that the walk's simp does not look into. -/
structure As (p : Prop) : Prop where
  mk :: (out : p)

theorem ret_b {a b : Bool} (h : a = b) : Ending.returned (.bool a) = .returned (.bool b) := by rw [h]
theorem ret_n {k : IntKind} {a b : Int} (h : a = b) : Ending.returned (.int k a) = .returned (.int k b) := by rw [h]
theorem ret_s {a b : ByteArray} (h : a = b) : Ending.returned (.string a) = .returned (.string b) := by rw [h]
theorem ret_v {a b : Value} (h : a = b) : Ending.returned a = .returned b := by rw [h]

/-- Block b of w is a row of the cells cs, of element type t, none of them frozen. -/
def Blk (w : World) (b : Nat) (cs : List Value) (t : TypeId) : Prop := w.heap[b]? = some (.cells cs.toArray t (0, 0))

section
variable {w w' : World} {b : Nat} {cs : List Value} {t : TypeId}
theorem Blk.lt (h : Blk w b cs t) : b < w.heap.size := (Array.getElem?_eq_some_iff.1 h).1
theorem Blk.at (h : Blk w b cs t) (i : Nat) : w.cell? ⟨b, i, none⟩ = cs[i]? := by
  rw [cell_of_row w b i _ t (0, 0) h]; simp
theorem Blk.cell (h : Blk w b cs t) (i : Nat) (hi : i < cs.length) : w.cell? ⟨b, i, none⟩ = some cs[i] := by
  rw [h.at, List.getElem?_eq_getElem hi]
theorem Blk.some (h : Blk w b cs t) (i : Nat) (hi : i < cs.length) : ∃ v, w.cell? ⟨b, i, none⟩ = Option.some v := ⟨_, h.cell i hi⟩
theorem Blk.frozen (h : Blk w b cs t) (i : Nat) : w.frozen? ⟨b, i, none⟩ = false := by
  unfold Blk at h; simp [World.frozen?, h]
theorem Blk.range (h : Blk w b cs t) : w.rangeAt b 0 cs := fun j v hv => by rw [Nat.zero_add, h.at, hv]
theorem Blk.there (h : Blk w b cs t) : w.there b 0 cs.length := fun j hj => by
  rw [Nat.zero_add]; exact ⟨by rw [h.cell j hj]; rfl, h.frozen j⟩
theorem Blk.new (w : World) (cs : List Value) (t : TypeId) : Blk (w.alloc (.cells cs.toArray t)) w.heap.size cs t := heap_alloc_new w _
/-- The block made last, its number as it stands. -/
theorem Blk.mk (w : World) (cs : List Value) (t : TypeId) (hb : b = w.heap.size) : Blk (w.alloc (.cells cs.toArray t)) b cs t := by subst hb; exact Blk.new w cs t
theorem Blk.alloc (h : Blk w b cs t) (o : Obj) : Blk (w.alloc o) b cs t := Eq.trans (Below.heap_alloc w o b h.lt) h
theorem Blk.set (h : Blk w b cs t) (i : Nat) (v : Value) : Blk (w.setCell ⟨b, i, none⟩ v) b (cs.set i v) t := by
  have := heap_setCell_same w b i cs.toArray t v h
  unfold Blk; rw [this]; simp
theorem Blk.far (h : Blk w b cs t) {p : Addr} (hp : b ≠ p.block) (v : Value) : Blk (w.setCell p v) b cs t := (heap_setCell_other w p b v hp).trans h
theorem Blk.setRow (h : Blk w b cs t) (ds : List Value) : Blk (w.setRow b ds.toArray) b ds t := setRow_heap w b cs.toArray _ t _ h
theorem Blk.farRow (h : Blk w b cs t) {g : Nat} (hp : b ≠ g) (ds : Array Value) : Blk (w.setRow g ds) b cs t := (setRow_other w g b ds hp).trans h
theorem Blk.below (h : Blk w b cs t) {B : Nat} (hb : Below B w w') (hB : b < B) : Blk w' b cs t := (hb.block b hB).trans h
theorem Blk.kept (h : Blk w b cs t) (hb : Below w.heap.size w w') : Blk w' b cs t := h.below hb h.lt
theorem Blk.drew (h : Blk w b cs t) : Blk w.drew b cs t := h
theorem Blk.drewN (h : Blk w b cs t) (n : Nat) : Blk (w.drewN n) b cs t := h
theorem bl_setRow {B : Nat} {w0 : World} (hb : Below B w0 w) {g : Nat} (hg : B ≤ g) (ds : Array Value) : Below B w0 (w.setRow g ds) := below_setRow hb hg ds
/-- Behind a call that made its own blocks. -/
theorem bl_call {w0 : World} (hb : Below w0.heap.size w0 w) (k : Below w.heap.size w w') : Below w0.heap.size w0 w' := hb.trans (k.mono hb.size)
theorem bl_new {w0 : World} (hb : Below w0.heap.size w0 w) (o : Obj) : Below w0.heap.size w0 (w.alloc o) := hb.alloc hb.size o
theorem bl_drewN {B : Nat} {w0 : World} (hb : Below B w0 w) (n : Nat) : Below B w0 (w.drewN n) := ⟨hb.os, hb.tape, hb.output, hb.size, hb.block⟩
theorem bl_setCells {B : Nat} {w0 : World} (hb : Below B w0 w) {g : Nat} (hg : B ≤ g) (o : Nat) (vs : List Value) : Below B w0 (w.setCells g o vs) := by
  induction vs generalizing w o with
  | nil => exact hb
  | cons v r ih => exact ih (hb.setCell hg v) (o + 1)
end

section
variable {P : Program} {ops : Array Oper} {rest : List Oper} {op : Oper} {a : Act} {w : World} {Q : Exit → Act → World → Prop}
/-- A whole array out of a block. -/
theorem load_blk (hgd : Region.wanted op (yielded ops a.tmps) = true) (ty : TypeId) (x : Operand) (ho : op.op = .load ty x) (b : Nat) (hx : a.eval x = .pointer (some ⟨b, 0, none⟩)) {cs : List Value} {t : TypeId} (hB : Blk w b cs t) {d : TypeDesc}
    (hu : P.underlying ty = some d) (hd : (match d with | .struct _ | .array _ _ => true | _ => false) = true) {n : Nat} (hi : (P.info? ty).map (·.size) = some n) (hn : cs.length = n)
    (h : wpList P ops Q rest (a.put op.dst (.agg cs.toArray)) w) : wpList P ops Q (op :: rest) a w :=
  BigFrame.wpList_want hgd fun _ hK => wp_load_row ty x ho b hx t cs.toArray (0, 0) d hB hu hd (by rw [hi]; simp [hn]) (hK _ _ h)
/-- A whole array into a block. -/
theorem store_blk (hgd : Region.wanted op (yielded ops a.tmps) = true) (ty : TypeId) (x y : Operand) (ho : op.op = .store ty x y) (b : Nat) (hx : a.eval x = .pointer (some ⟨b, 0, none⟩)) {ds : List Value} (hy : a.eval y = .agg ds.toArray)
    {cs : List Value} {t : TypeId} (hB : Blk w b cs t) {n : Nat} (hi : (P.info? ty).map (·.size) = some n) (hn : ds.length = n) (hc : cs.length = n) (h1 : ∀ v ∈ ds, v.oneCell' = true)
    (h : wpList P ops Q rest (a.put op.dst undef) (w.setRow b ds.toArray)) : wpList P ops Q (op :: rest) a w :=
  BigFrame.wpList_want hgd fun _ hK => wp_store_row ty x y ho b ds.toArray hx hy t cs.toArray hB (by rw [hi]; simp [hn]) (by simp [hn, hc]) (all_oneCell_toArray h1) (hK _ _ h)
/-- The one result lies in a block. -/
theorem ret_blk {fn : Func} {R : Ending → World → Prop} {p : Tmp} {ty : TypeId} (hr : fn.results = #[.cell p ty]) (b : Nat) (hp : a.tmps.getD p undef = .pointer (some ⟨b, 0, none⟩)) {cs : List Value} {t : TypeId} (hB : Blk w b cs t) {d : TypeDesc}
    (hu : P.underlying ty = some d) (hd : (match d with | .struct _ | .array _ _ => true | _ => false) = true) {n : Nat} (hi : (P.info? ty).map (·.size) = some n) (hn : cs.length = n)
    (hdef : a.defers = []) (hR : R (.returned (.agg cs.toArray)) w) : bodyPost P fn R .ret a w :=
  bodyPost_ret (results_cell_row hr a.tmps w b t cs.toArray (0, 0) d hp hB hu hd (by rw [hi]; simp [hn])) hdef hR
/-- Two results: the first lies in a block, the second in a slot. -/
theorem ret_blk_tmp {fn : Func} {R : Ending → World → Prop} {p q : Tmp} {ty : TypeId} (hr : fn.results = #[.cell p ty, .tmp q]) (b : Nat) (hp : a.tmps.getD p undef = .pointer (some ⟨b, 0, none⟩)) {cs : List Value} {t : TypeId} (hB : Blk w b cs t) {d : TypeDesc}
    (hu : P.underlying ty = some d) (hd : (match d with | .struct _ | .array _ _ => true | _ => false) = true) {n : Nat} (hi : (P.info? ty).map (·.size) = some n) (hn : cs.length = n)
    (hdef : a.defers = []) (hR : R (.returned (.tuple #[.agg cs.toArray, a.tmps.getD q undef])) w) : bodyPost P fn R .ret a w := by
  refine bodyPost_ret ?_ hdef hR
  have hl := run_loadVar_row (P := P) w b t ty cs.toArray (0, 0) d hB hu hd (by rw [hi]; simp [hn])
  rw [results_cell_tmp hr, hp]
  simp [asAddr, Result.andThen, hl]
end

/-! Lists of bytes as values; flags -/
def u8s (xs : List Int) : List Value := xs.map (Value.int .u8)
def i8s (xs : List Int) : List Value := xs.map (Value.int .i8)
def i64s (xs : List Int) : List Value := xs.map (Value.int .i64)
/-- Element i of a list of numbers, 0 behind its end. -/
def nth (xs : List Int) (i : Nat) : Int := xs.getD i 0
theorem nth_get (xs : List Int) (i : Nat) (h : i < xs.length) : xs[i] = nth xs i := by simp [nth, List.getElem?_eq_getElem h]
theorem nth_get? (xs : List Int) (i : Nat) (h : i < xs.length) : xs[i]? = some (nth xs i) := by rw [List.getElem?_eq_getElem h, nth_get xs i h]
theorem nth_out (xs : List Int) (i : Nat) (h : xs.length ≤ i) : nth xs i = 0 := by simp [nth, List.getElem?_eq_none h]
theorem nth_mem (xs : List Int) (i : Nat) (h : i < xs.length) : nth xs i ∈ xs := by rw [← nth_get xs i h]; exact List.getElem_mem h
theorem nth_map_range (f : Nat → Int) (n i : Nat) (h : i < n) : nth ((List.range n).map f) i = f i := by simp [nth, h]
theorem u8s_length (xs : List Int) : (u8s xs).length = xs.length := by simp [u8s]
theorem i8s_length (xs : List Int) : (i8s xs).length = xs.length := by simp [i8s]
theorem i64s_length (xs : List Int) : (i64s xs).length = xs.length := by simp [i64s]
theorem u8s_get (xs : List Int) (i : Nat) (h : i < xs.length) : (u8s xs)[i]? = some (.int .u8 (nth xs i)) := by simp [u8s, nth, List.getElem?_eq_getElem h]
theorem i8s_get (xs : List Int) (i : Nat) (h : i < xs.length) : (i8s xs)[i]? = some (.int .i8 (nth xs i)) := by simp [i8s, nth, List.getElem?_eq_getElem h]
theorem i64s_get (xs : List Int) (i : Nat) (h : i < xs.length) : (i64s xs)[i]? = some (.int .i64 (nth xs i)) := by simp [i64s, nth, List.getElem?_eq_getElem h]
theorem u8s_one (xs : List Int) : ∀ v ∈ u8s xs, v.oneCell' = true := by intro v hv; simp only [u8s, List.mem_map] at hv; obtain ⟨x, _, rfl⟩ := hv; rfl
theorem i8s_one (xs : List Int) : ∀ v ∈ i8s xs, v.oneCell' = true := by intro v hv; simp only [i8s, List.mem_map] at hv; obtain ⟨x, _, rfl⟩ := hv; rfl
theorem i64s_one (xs : List Int) : ∀ v ∈ i64s xs, v.oneCell' = true := by intro v hv; simp only [i64s, List.mem_map] at hv; obtain ⟨x, _, rfl⟩ := hv; rfl
theorem u8s_set (xs : List Int) (i : Nat) (x : Int) : (u8s xs).set i (.int .u8 x) = u8s (xs.set i x) := by simp [u8s, List.map_set]
theorem i8s_set (xs : List Int) (i : Nat) (x : Int) : (i8s xs).set i (.int .i8 x) = i8s (xs.set i x) := by simp [i8s, List.map_set]
theorem i64s_set (xs : List Int) (i : Nat) (x : Int) : (i64s xs).set i (.int .i64 x) = i64s (xs.set i x) := by simp [i64s, List.map_set]

/-- A flag. -/
def fl (xs : List Int) : Value := .agg (u8s xs).toArray

/-- the first k numbers of f over a row of n zeros -/
def part (f : Nat → Int) (n k : Nat) : List Int := (List.range n).map fun i => if i < k then f i else 0
theorem part_length (f : Nat → Int) (n k : Nat) : (part f n k).length = n := by simp [part]
theorem part_zero (f : Nat → Int) (n : Nat) : part f n 0 = List.replicate n 0 := by
  apply List.ext_getElem <;> simp [part]
theorem part_set (f : Nat → Int) (n k : Nat) : (part f n k).set k (f k) = part f n (k + 1) := by
  apply List.ext_getElem
  · simp [part]
  · intro i h1 h2
    simp only [List.getElem_set, part, List.getElem_map, List.getElem_range]
    by_cases h : k = i
    · subst h; simp
    · rw [if_neg h]
      by_cases h3 : i < k
      · rw [if_pos h3, if_pos (by omega)]
      · rw [if_neg h3, if_neg (by omega)]
theorem part_full (f : Nat → Int) (n : Nat) : part f n n = (List.range n).map f := by
  apply List.map_congr_left
  intro i hi
  rw [if_pos (List.mem_range.1 hi)]
theorem range_nth (xs : List Int) (n : Nat) (h : xs.length = n) : (List.range n).map (nth xs) = xs := by
  apply List.ext_getElem
  · simp [h]
  · intro i h1 h2; simp [nth, List.getElem?_eq_getElem h2]
end Go.Proofs.YtjppoejkfpeicaaDoor
