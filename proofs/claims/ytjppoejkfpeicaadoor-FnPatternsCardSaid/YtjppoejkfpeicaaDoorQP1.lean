/- Contracts and plain facts, several texts in one. -/
import Derived.Test.YtjppoejkfpeicaaDoorProg
import Derived.WalkKit
import Derived.WalkLawsBesides
import Derived.WalkSpells
import Derived.Deep.MidRow
import Derived.Deep.WholeRow
import Derived.Deep.QuietTactic
import Derived.BigQuiet
import Derived.Lib.Hide
import Derived.KernelRfl
import Derived.Outline
import Derived.Laws.CopyOwn
import Derived.Test.YtjppoejkfpeicaaDoorRows
import Derived.ProofKit
import Derived.OpenShut
import Derived.ShutString
import Derived.ChangeOld
import Derived.Below
import Derived.Handed
import Derived.HandedShaped
import Derived.Shelf.Vars
import Derived.Maps.AppendAt
import Derived.Laws.BytesArg
import Derived.OwnWalk
import Derived.Laws.OwnMore
import Derived.Deep.RegionHeld3
/- Words used by all proofs of this seat: a block known whole ('Blk'), how arrays are loaded, stored and handed back. -/
set_option linter.unusedVariables false
namespace Go.Proofs.YtjppoejkfpeicaaDoor
open Go.RowKit

/-- A fact that the walk's simp does not look into. -/
structure As (p : Prop) : Prop where
  mk :: (out : p)

theorem ret_b {a b : Bool} (h : a = b) : Ending.returned (.bool a) = .returned (.bool b) := by rw [h]
theorem ret_n {k : IntKind} {a b : Int} (h : a = b) : Ending.returned (.int k a) = .returned (.int k b) := by rw [h]
theorem ret_s {a b : ByteArray} (h : a = b) : Ending.returned (.string a) = .returned (.string b) := by rw [h]
theorem ret_v {a b : Value} (h : a = b) : Ending.returned a = .returned b := by rw [h]

/-- Block b of w is a row of the cells cs, of element type t, none of them frozen. -/
def Blk (w : World) (b : Nat) (cs : List Value) (t : TypeId) : Prop := w.heap[b]? = some (.cells cs.toArray t (0, 0))

section
variable {w w' : World} {b : Nat} {cs : List Value} {t : TypeId}
theorem Blk.lt (h : Blk w b cs t) : b < w.heap.size := (Array.getElem?_eq_some_iff.1 h).1
theorem Blk.at (h : Blk w b cs t) (i : Nat) : w.cell? ⟨b, i, none⟩ = cs[i]? := by
  rw [cell_of_row w b i _ t (0, 0) h]; simp
theorem Blk.cell (h : Blk w b cs t) (i : Nat) (hi : i < cs.length) : w.cell? ⟨b, i, none⟩ = some cs[i] := by
  rw [h.at, List.getElem?_eq_getElem hi]
theorem Blk.some (h : Blk w b cs t) (i : Nat) (hi : i < cs.length) : ∃ v, w.cell? ⟨b, i, none⟩ = Option.some v := ⟨_, h.cell i hi⟩
theorem Blk.frozen (h : Blk w b cs t) (i : Nat) : w.frozen? ⟨b, i, none⟩ = false := by
  unfold Blk at h; simp [World.frozen?, h]
theorem Blk.range (h : Blk w b cs t) : w.rangeAt b 0 cs := fun j v hv => by rw [Nat.zero_add, h.at, hv]
theorem Blk.there (h : Blk w b cs t) : w.there b 0 cs.length := fun j hj => by
  rw [Nat.zero_add]; exact ⟨by rw [h.cell j hj]; rfl, h.frozen j⟩
theorem Blk.new (w : World) (cs : List Value) (t : TypeId) : Blk (w.alloc (.cells cs.toArray t)) w.heap.size cs t := heap_alloc_new w _
/-- The block made last, its number as it stands. -/
theorem Blk.mk (w : World) (cs : List Value) (t : TypeId) (hb : b = w.heap.size) : Blk (w.alloc (.cells cs.toArray t)) b cs t := by subst hb; exact Blk.new w cs t
theorem Blk.alloc (h : Blk w b cs t) (o : Obj) : Blk (w.alloc o) b cs t := Eq.trans (Below.heap_alloc w o b h.lt) h
theorem Blk.set (h : Blk w b cs t) (i : Nat) (v : Value) : Blk (w.setCell ⟨b, i, none⟩ v) b (cs.set i v) t := by
  have := heap_setCell_same w b i cs.toArray t v h
  unfold Blk; rw [this]; simp
theorem Blk.far (h : Blk w b cs t) {p : Addr} (hp : b ≠ p.block) (v : Value) : Blk (w.setCell p v) b cs t := (heap_setCell_other w p b v hp).trans h
theorem Blk.setRow (h : Blk w b cs t) (ds : List Value) : Blk (w.setRow b ds.toArray) b ds t := setRow_heap w b cs.toArray _ t _ h
theorem Blk.farRow (h : Blk w b cs t) {g : Nat} (hp : b ≠ g) (ds : Array Value) : Blk (w.setRow g ds) b cs t := (setRow_other w g b ds hp).trans h
theorem Blk.below (h : Blk w b cs t) {B : Nat} (hb : Below B w w') (hB : b < B) : Blk w' b cs t := (hb.block b hB).trans h
theorem Blk.kept (h : Blk w b cs t) (hb : Below w.heap.size w w') : Blk w' b cs t := h.below hb h.lt
theorem Blk.drew (h : Blk w b cs t) : Blk w.drew b cs t := h
theorem Blk.drewN (h : Blk w b cs t) (n : Nat) : Blk (w.drewN n) b cs t := h
theorem bl_setRow {B : Nat} {w0 : World} (hb : Below B w0 w) {g : Nat} (hg : B ≤ g) (ds : Array Value) : Below B w0 (w.setRow g ds) := below_setRow hb hg ds
/-- Behind a call that made its own blocks. -/
theorem bl_call {w0 : World} (hb : Below w0.heap.size w0 w) (k : Below w.heap.size w w') : Below w0.heap.size w0 w' := hb.trans (k.mono hb.size)
theorem bl_new {w0 : World} (hb : Below w0.heap.size w0 w) (o : Obj) : Below w0.heap.size w0 (w.alloc o) := hb.alloc hb.size o
theorem bl_drewN {B : Nat} {w0 : World} (hb : Below B w0 w) (n : Nat) : Below B w0 (w.drewN n) := ⟨hb.os, hb.tape, hb.output, hb.size, hb.block⟩
theorem bl_setCells {B : Nat} {w0 : World} (hb : Below B w0 w) {g : Nat} (hg : B ≤ g) (o : Nat) (vs : List Value) : Below B w0 (w.setCells g o vs) := by
  induction vs generalizing w o with
  | nil => exact hb
  | cons v r ih => exact ih (hb.setCell hg v) (o + 1)
end

section
variable {P : Program} {ops : Array Oper} {rest : List Oper} {op : Oper} {a : Act} {w : World} {Q : Exit → Act → World → Prop}
/-- A whole array out of a block. -/
theorem load_blk (hgd : Region.wanted op (yielded ops a.tmps) = true) (ty : TypeId) (x : Operand) (ho : op.op = .load ty x) (b : Nat) (hx : a.eval x = .pointer (some ⟨b, 0, none⟩)) {cs : List Value} {t : TypeId} (hB : Blk w b cs t) {d : TypeDesc}
    (hu : P.underlying ty = some d) (hd : (match d with | .struct _ | .array _ _ => true | _ => false) = true) {n : Nat} (hi : (P.info? ty).map (·.size) = some n) (hn : cs.length = n)
    (h : wpList P ops Q rest (a.put op.dst (.agg cs.toArray)) w) : wpList P ops Q (op :: rest) a w :=
  BigFrame.wpList_want hgd fun _ hK => wp_load_row ty x ho b hx t cs.toArray (0, 0) d hB hu hd (by rw [hi]; simp [hn]) (hK _ _ h)
/-- A whole array into a block. -/
theorem store_blk (hgd : Region.wanted op (yielded ops a.tmps) = true) (ty : TypeId) (x y : Operand) (ho : op.op = .store ty x y) (b : Nat) (hx : a.eval x = .pointer (some ⟨b, 0, none⟩)) {ds : List Value} (hy : a.eval y = .agg ds.toArray)
    {cs : List Value} {t : TypeId} (hB : Blk w b cs t) {n : Nat} (hi : (P.info? ty).map (·.size) = some n) (hn : ds.length = n) (hc : cs.length = n) (h1 : ∀ v ∈ ds, v.oneCell' = true)
    (h : wpList P ops Q rest (a.put op.dst undef) (w.setRow b ds.toArray)) : wpList P ops Q (op :: rest) a w :=
  BigFrame.wpList_want hgd fun _ hK => wp_store_row ty x y ho b ds.toArray hx hy t cs.toArray hB (by rw [hi]; simp [hn]) (by simp [hn, hc]) (all_oneCell_toArray h1) (hK _ _ h)
/-- The one result lies in a block. -/
theorem ret_blk {fn : Func} {R : Ending → World → Prop} {p : Tmp} {ty : TypeId} (hr : fn.results = #[.cell p ty]) (b : Nat) (hp : a.tmps.getD p undef = .pointer (some ⟨b, 0, none⟩)) {cs : List Value} {t : TypeId} (hB : Blk w b cs t) {d : TypeDesc}
    (hu : P.underlying ty = some d) (hd : (match d with | .struct _ | .array _ _ => true | _ => false) = true) {n : Nat} (hi : (P.info? ty).map (·.size) = some n) (hn : cs.length = n)
    (hdef : a.defers = []) (hR : R (.returned (.agg cs.toArray)) w) : bodyPost P fn R .ret a w :=
  bodyPost_ret (results_cell_row hr a.tmps w b t cs.toArray (0, 0) d hp hB hu hd (by rw [hi]; simp [hn])) hdef hR
/-- Two results: the first lies in a block, the second in a slot. -/
theorem ret_blk_tmp {fn : Func} {R : Ending → World → Prop} {p q : Tmp} {ty : TypeId} (hr : fn.results = #[.cell p ty, .tmp q]) (b : Nat) (hp : a.tmps.getD p undef = .pointer (some ⟨b, 0, none⟩)) {cs : List Value} {t : TypeId} (hB : Blk w b cs t) {d : TypeDesc}
    (hu : P.underlying ty = some d) (hd : (match d with | .struct _ | .array _ _ => true | _ => false) = true) {n : Nat} (hi : (P.info? ty).map (·.size) = some n) (hn : cs.length = n)
    (hdef : a.defers = []) (hR : R (.returned (.tuple #[.agg cs.toArray, a.tmps.getD q undef])) w) : bodyPost P fn R .ret a w := by
  refine bodyPost_ret ?_ hdef hR
  have hl := run_loadVar_row (P := P) w b t ty cs.toArray (0, 0) d hB hu hd (by rw [hi]; simp [hn])
  rw [results_cell_tmp hr, hp]
  simp [asAddr, Result.andThen, hl]
end

/-! Lists of bytes as values; flags -/
def u8s (xs : List Int) : List Value := xs.map (Value.int .u8)
def i8s (xs : List Int) : List Value := xs.map (Value.int .i8)
def i64s (xs : List Int) : List Value := xs.map (Value.int .i64)
/-- Element i of a list of numbers, 0 behind its end. -/
def nth (xs : List Int) (i : Nat) : Int := xs.getD i 0
theorem nth_get (xs : List Int) (i : Nat) (h : i < xs.length) : xs[i] = nth xs i := by simp [nth, List.getElem?_eq_getElem h]
theorem nth_get? (xs : List Int) (i : Nat) (h : i < xs.length) : xs[i]? = some (nth xs i) := by rw [List.getElem?_eq_getElem h, nth_get xs i h]
theorem nth_out (xs : List Int) (i : Nat) (h : xs.length ≤ i) : nth xs i = 0 := by simp [nth, List.getElem?_eq_none h]
theorem nth_mem (xs : List Int) (i : Nat) (h : i < xs.length) : nth xs i ∈ xs := by rw [← nth_get xs i h]; exact List.getElem_mem h
theorem nth_map_range (f : Nat → Int) (n i : Nat) (h : i < n) : nth ((List.range n).map f) i = f i := by simp [nth, h]
theorem u8s_length (xs : List Int) : (u8s xs).length = xs.length := by simp [u8s]
theorem i8s_length (xs : List Int) : (i8s xs).length = xs.length := by simp [i8s]
theorem i64s_length (xs : List Int) : (i64s xs).length = xs.length := by simp [i64s]
theorem u8s_get (xs : List Int) (i : Nat) (h : i < xs.length) : (u8s xs)[i]? = some (.int .u8 (nth xs i)) := by simp [u8s, nth, List.getElem?_eq_getElem h]
theorem i8s_get (xs : List Int) (i : Nat) (h : i < xs.length) : (i8s xs)[i]? = some (.int .i8 (nth xs i)) := by simp [i8s, nth, List.getElem?_eq_getElem h]
theorem i64s_get (xs : List Int) (i : Nat) (h : i < xs.length) : (i64s xs)[i]? = some (.int .i64 (nth xs i)) := by simp [i64s, nth, List.getElem?_eq_getElem h]
theorem u8s_one (xs : List Int) : ∀ v ∈ u8s xs, v.oneCell' = true := by intro v hv; simp only [u8s, List.mem_map] at hv; obtain ⟨x, _, rfl⟩ := hv; rfl
theorem i8s_one (xs : List Int) : ∀ v ∈ i8s xs, v.oneCell' = true := by intro v hv; simp only [i8s, List.mem_map] at hv; obtain ⟨x, _, rfl⟩ := hv; rfl
theorem i64s_one (xs : List Int) : ∀ v ∈ i64s xs, v.oneCell' = true := by intro v hv; simp only [i64s, List.mem_map] at hv; obtain ⟨x, _, rfl⟩ := hv; rfl
theorem u8s_set (xs : List Int) (i : Nat) (x : Int) : (u8s xs).set i (.int .u8 x) = u8s (xs.set i x) := by simp [u8s, List.map_set]
theorem i8s_set (xs : List Int) (i : Nat) (x : Int) : (i8s xs).set i (.int .i8 x) = i8s (xs.set i x) := by simp [i8s, List.map_set]
theorem i64s_set (xs : List Int) (i : Nat) (x : Int) : (i64s xs).set i (.int .i64 x) = i64s (xs.set i x) := by simp [i64s, List.map_set]

/-- A flag. -/
def fl (xs : List Int) : Value := .agg (u8s xs).toArray

/-- the first k numbers of f over a row of n zeros -/
def part (f : Nat → Int) (n k : Nat) : List Int := (List.range n).map fun i => if i < k then f i else 0
theorem part_length (f : Nat → Int) (n k : Nat) : (part f n k).length = n := by simp [part]
theorem part_zero (f : Nat → Int) (n : Nat) : part f n 0 = List.replicate n 0 := by
  apply List.ext_getElem <;> simp [part]
theorem part_set (f : Nat → Int) (n k : Nat) : (part f n k).set k (f k) = part f n (k + 1) := by
  apply List.ext_getElem
  · simp [part]
  · intro i h1 h2
    simp only [List.getElem_set, part, List.getElem_map, List.getElem_range]
    by_cases h : k = i
    · subst h; simp
    · rw [if_neg h]
      by_cases h3 : i < k
      · rw [if_pos h3, if_pos (by omega)]
      · rw [if_neg h3, if_neg (by omega)]
theorem part_full (f : Nat → Int) (n : Nat) : part f n n = (List.range n).map f := by
  apply List.map_congr_left
  intro i hi
  rw [if_pos (List.mem_range.1 hi)]
theorem range_nth (xs : List Int) (n : Nat) (h : xs.length = n) : (List.range n).map (nth xs) = xs := by
  apply List.ext_getElem
  · simp [h]
  · intro i h1 h2; simp [nth, List.getElem?_eq_getElem h2]
end Go.Proofs.YtjppoejkfpeicaaDoor

/- How a law's arguments are opened: what the walk is told of each, and that they read behind the call as before. -/
set_option linter.unusedVariables false
namespace Go.Proofs.YtjppoejkfpeicaaDoor
open Go.ChangeShapes Go.WideShapes Go.ChangeAt Go.RowKit

theorem own : ownKnob Tryd.prog.godebug = none := by kernel_rfl
theorem laidOut : laidOutB Tryd.prog = true := by kernel_rfl

section
variable {H : Type} {enc : TypeId × Value → H} {P : Program}
theorem trodAll_below (hl : laidOutB P = true) {W W' : World} (hb : Below W.heap.size W W') : ∀ {ts : List TypeId} {vs : List Value} {ds : List (DataW H)} {p : List MemPlace},
    ts.all (fun t => P.readableRec t && decide (t < P.types.size)) = true → DataW.TrodAll enc P W 0 (fun _ => true) true ts vs ds p → (∀ x ∈ p, x.block < W.heap.size) →
    DataW.TrodAll enc P W' 0 (fun b => decide (b < W.heap.size)) true ts vs ds p
  | [], [], [], p, _, h, _ => h
  | t :: ts, v :: vs, d :: ds, p, hts, h, hlt => by
    obtain ⟨p1, p2, h1, h2, rfl⟩ := h
    simp only [List.all_cons, Bool.and_eq_true, decide_eq_true_eq] at hts
    exact ⟨p1, p2, Below.trod hl hts.1.1 hts.1.2 h1 hb (fun x hx => hlt x (by simp [hx])), trodAll_below hl hb (by simpa using hts.2) h2 (fun x hx => hlt x (by simp [hx])), rfl⟩
  | [], _ :: _, _, _, _, h, _ => h.elim
  | [], [], _ :: _, _, _, h, _ => h.elim
  | _ :: _, [], _, _, _, h, _ => h.elim
  | _ :: _, _ :: _, [], _, _, h, _ => h.elim

/-- An array of n bytes, by value. -/
theorem open_bytes {n : Nat} {t e : TypeId} (ht : P.underlying t = some (.array n e)) (he : P.underlying e = some (.int .u8)) (hc : P.cellsOf e = 1) (hn : P.cellsOf t = n)
    {w : World} {r : Reach} {b : Nat} {v : Value} {base : Nat} {spare : Nat → Bool} {held : Bool} {d : DataW H} {p : List MemPlace}
    (hv : Value.okWide P w r b t v) (h : DataW.Trod enc P w base spare held t v d p) :
    ∃ xs : List Int, v = fl xs ∧ xs.length = n ∧ ∀ x ∈ xs, 0 ≤ x ∧ x ≤ 255 := by
  simp only [Value.okWide, ht] at hv
  obtain ⟨cs, rfl, hsz, _⟩ := hv
  obtain ⟨fuel, hf⟩ := h
  simp only [Value.cells] at hf
  obtain ⟨xs, m, _, _, hl, hxl, hi⟩ := DataW.trod_array ht hf
  have key : ∀ i, (hi' : i < cs.toList.length) → ∃ x : Int, cs.toList[i] = .int .u8 x ∧ 0 ≤ x ∧ x ≤ 255 := by
    intro i hi'
    have h1 := hi i (by rw [hl, hn] at hi'; exact hi')
    have h2 : ((cs.toList.drop (i * P.cellsOf e)).take (P.cellsOf e)) = [cs.toList[i]] := by
      rw [hc, Nat.mul_one, List.drop_eq_getElem_cons hi']; rfl
    rw [h2] at h1
    have h3 : i < xs.length := by rw [hxl]; rw [hl, hn] at hi'; exact hi'
    rw [List.getElem?_eq_getElem h3] at h1
    obtain ⟨x, hx, _, hw⟩ := DataW.trod_int he h1
    refine ⟨x, by simpa using hx, ?_⟩
    have := bounds_u8 hw
    exact this
  refine ⟨cs.toList.map intOf, ?_, by rw [List.length_map, hl, hn], ?_⟩
  · unfold fl u8s
    congr 1
    apply Array.ext'
    simp only [List.map_map]
    apply List.ext_getElem
    · simp
    · intro i h1 h2
      obtain ⟨x, hx, _⟩ := key i (by simpa using h1)
      simp only [List.getElem_map, Function.comp, hx, intOf]
  · intro x hx
    obtain ⟨v, hv, rfl⟩ := List.mem_map.1 hx
    obtain ⟨i, hi1, rfl⟩ := List.mem_iff_getElem.1 hv
    obtain ⟨y, hy, h0, h1⟩ := key i hi1
    rw [hy]; exact ⟨h0, h1⟩

/-- What the walk is told of a slice of numbers that came in. -/
def Ints (k : IntKind) (w : World) (A : Option Addr) (len cap : Nat) (zs : List Int) : Prop :=
  zs.length = len ∧ len ≤ 9223372036854775807 ∧ (0 < len → ∃ b o, A = some ⟨b, o, none⟩ ∧ w.rangeAt b o (zs.map (Value.int k))) ∧ ∀ n ∈ zs, (Lit.int k n).wf = true
end
end Go.Proofs.YtjppoejkfpeicaaDoor

/- The wrap of a law's walk with the row's list of variables and the world's shape both kept. -/
set_option linter.unusedVariables false
namespace Go.Proofs.YtjppoejkfpeicaaDoor
open Go.ChangeShapes Go.WideShapes Go.ChangeAt Go.RowKit

theorem handed_shaped {H : Type} {enc : TypeId × Value → H} {a : Assume} {C : Checked} {os : Os} {f : FuncId} {fn : Func} {s : ChangeSpec} {conds : List PathCond} {apart fresh handsOn again : Bool} {X : World → Array Value → Prop}
    (hX : ∀ (w w' : World) (args : Array Value), w.heap = w'.heap → X w args → X w' args)
    (own : ownKnob C.prog.godebug = none) (started : os.Started) (noInit : C.prog.inits.idxOf? f = none) (hfn : C.prog.funcs[f]? = some fn)
    (witness : ∃ (w : World) (tape : Tape) (i : Input), w.os = os ∧ (w.forCall tape i).Shaped C.prog ∧ i.vars = [] ∧ Input.okWide C.prog (w.forCall tape i) .any w.heap.size f i ∧
      ((s.pre enc C.prog fn conds apart (w.forCall tape i).memory i.args ∧ X (w.forCall tape i).memory i.args) ∧ sizedMet enc C.prog fn (OpenSpec.ofChange s) apart (w.forCall tape i).memory i.args) ∧ a.holds C.prog (lone (Frame.enter C.prog f i.args .normal) [] (w.forCall tape i)))
    (contract : ∀ (W : World) (base : Nat) (args : Array Value) (ds gs : List (DataW H)) (before : List MemPlace),
      (∀ (j : Nat) t v, fn.params[j]? = some t → args[j]? = some v → Value.okWide C.prog W .any base t v) →
      DataW.Whole enc C.prog fn.params.toList s.vars apart W args.toList ds gs before →
      conds.all (PathCond.test C.prog ⟨fn.params.toList, ds, s.plain.varTypes C.prog, gs⟩) = true →
      (DataW.weightsEach C.prog (fn.params.toList ++ s.plain.varTypes C.prog) (ds ++ gs)).all (· ≤ reachBytes) = true → X W args → W.ShapedOpen C.prog →
      a.holds C.prog (lone (Frame.enter C.prog f args .normal) [] W) →
      Calls C.prog f args W fun e W' => ∃ v, e = .returned v ∧ s.post enc C.prog fn apart fresh handsOn again W args v W') :
    ReturnsInHanded a C os f .any (fun w args => (s.pre enc C.prog fn conds apart w args ∧ X w args) ∧ sizedMet enc C.prog fn (OpenSpec.ofChange s) apart w args) (s.post enc C.prog fn apart fresh handsOn again) := by
  refine returnsInHanded_of_calls own started noInit witness ?_
  intro w tape i _ hsh _ hok hpre hholds
  obtain ⟨_, _, _, fn', hfn', _, _, _, _, hval⟩ := hok
  have e : fn' = fn := Option.some.inj (hfn'.symm.trans hfn)
  subst e
  obtain ⟨⟨⟨ds, gs, before, hw, hc⟩, hx⟩, hz⟩ := hpre
  have hw' := DataW.Whole.of_heap (w' := w.forCall tape i) (by rfl) hw
  refine (contract (w.forCall tape i) w.heap.size i.args ds gs before hval hw' hc (hz.weights hw) (hX _ _ _ (by rfl) hx) hsh hholds).mono fun e W' ⟨v, he, hp⟩ => ?_
  subst he
  exact ChangeSpec.post_blind hp
/-- The first variable holds some number. -/
theorem maxLen_cell {W : World} (h : W.ShapedOpen Tryd.prog) : ∃ m, W.cell? ⟨0, 0, none⟩ = some (.int .i64 m) :=
  cell_of_shapedOpen_int h (zero := #[.int .i64 0]) (t := 3) (of_decide_eq_true (by kernel_rfl)) (by kernel_rfl) rfl (by kernel_rfl) (by kernel_rfl) Tryd.underlying3
end Go.Proofs.YtjppoejkfpeicaaDoor

/- Contracts: ranges, colours, valid flags; slices.IndexFunc and ContainsFunc over bytes. -/
set_option linter.unusedVariables false
namespace Go.Proofs.YtjppoejkfpeicaaDoor
open Go.RowKit

/-- A call of g enters it. -/
theorem enters {P : Program} {f : FuncId} {fn : Func} {c : Code} (hf : P.funcs[f]? = some fn) (hname : (fn.name == "runtime.NumGoroutine") = false) (hb : fn.body = some c) (args : Array Value) (w : World) : (callFunc f args).run P w = .ok (.enter f args) w := by
  have h1 : fn.name ≠ "runtime.NumGoroutine" := by simpa using hname
  simp [callFunc, hf, h1, hb, mark]

def inR (n lo hi : Int) : Bool := decide (lo ≤ n) && decide (n ≤ hi)
theorem inR_iff (n lo hi : Int) : inR n lo hi = true ↔ lo ≤ n ∧ n ≤ hi := by simp [inR]
theorem inR_not (n lo hi : Int) : inR n lo hi = false ↔ ¬ (lo ≤ n ∧ n ≤ hi) := by rw [← inR_iff]; cases inR n lo hi <;> simp

theorem within_any (n lo hi : Int) (w : World) : Calls Tryd.prog 67 #[.int .i64 n, .int .i64 lo, .int .i64 hi] w fun e w' => e = .returned (.bool (inR n lo hi)) ∧ w = w' := by
  by_cases h1 : lo ≤ n <;> by_cases h2 : n ≤ hi
  all_goals
    go_enter Tryd.func67, Tryd.ntmps67
    go_wp2
    go_ret
    exact ⟨by simp [inR, *], rfl⟩
theorem l00In_any (n lo hi : Int) (w : World) : Calls Tryd.prog 78 #[.int .i64 n, .int .i64 lo, .int .i64 hi] w fun e w' => e = .returned (.bool (inR n lo hi)) ∧ w = w' := by
  by_cases h1 : lo ≤ n <;> by_cases h2 : n ≤ hi
  all_goals
    go_enter Tryd.func78, Tryd.ntmps78
    go_wp2
    go_ret
    exact ⟨by simp [inR, *], rfl⟩
theorem isColour_any (n : Int) (w : World) : Calls Tryd.prog 51 #[.int .i64 n] w fun e w' => e = .returned (.bool (inR n 0 5)) ∧ w = w' := by
  go_enter Tryd.func51, Tryd.ntmps51
  go_wp2_with (go_at_call 67; refine (within_any _ _ _ _).mono ?_; rintro e w' ⟨rfl, rfl⟩)
  go_ret
  exact ⟨rfl, rfl⟩
theorem l01Colour_any (n : Int) (w : World) : Calls Tryd.prog 77 #[.int .i64 n] w fun e w' => e = .returned (.bool (inR n 0 5)) ∧ w = w' := by
  go_enter Tryd.func77, Tryd.ntmps77
  go_wp2_with (go_at_call 78; refine (l00In_any _ _ _ _).mono ?_; rintro e w' ⟨rfl, rfl⟩)
  go_ret
  exact ⟨rfl, rfl⟩

theorem all_succ {p : Nat → Prop} {k : Nat} (h : ∀ j, j < k → p j) (hk : p k) : ∀ j, j < k + 1 → p j := by
  intro j hj
  rcases Nat.lt_or_eq_of_le (Nat.le_of_lt_succ hj) with h' | rfl
  · exact h j h'
  · exact hk

/-- A flag is valid: its 24 colours are colours. -/
def vf (xs : List Int) : Bool := xs.all fun x => decide (x ≤ 5)

/-- spec.l01Ok, at a flag in memory: 24 bytes at o in block b. -/
theorem l01Ok_any (xs : List Int) (hl : xs.length = 24) (b o : Nat) (w : World) (hr : w.rangeAt b o (u8s xs)) :
    Calls Tryd.prog 35 #[.pointer (some ⟨b, o, none⟩)] w fun e w' => e = .returned (.bool (vf xs)) ∧ w = w' := by
  go_enter Tryd.func35, Tryd.ntmps35
  go_wp2
  go_loop [3] (fun i => ∃ k : Nat, k ≤ 24 ∧ i = .int .i64 k ∧ As (∀ j, j < k → nth xs j ≤ 5)) (fun i => 24 - (intOf i).toNat)
  case atStart => exact ⟨0, by omega, rfl, ⟨fun j hj => by omega⟩⟩
  case round =>
    obtain ⟨k, hk, rfl, H⟩ := hrel
    by_cases hlt : k < 24
    · have c0 : w.cell? ⟨b, o + k, none⟩ = some (.int .u8 (nth xs k)) := hr k _ (by rw [u8s_get xs k (by omega)])
      by_cases h5 : nth xs k ≤ 5
      · go_wp2
        go_round
        case rel => exact ⟨k + 1, by omega, by go_num, ⟨all_succ H.out h5⟩⟩
        case measure => simp [intOf]; omega
      · go_wp2
        go_ret
        have : vf xs = false := by
          unfold vf; rw [List.all_eq_false]
          exact ⟨nth xs k, nth_mem xs k (by omega), by simpa using h5⟩
        exact ⟨ret_b this.symm, rfl⟩
    · obtain rfl : k = 24 := by omega
      go_wp2
      go_ret
      have : vf xs = true := by
        unfold vf; rw [List.all_eq_true]
        intro x hx
        obtain ⟨i, hi, rfl⟩ := List.mem_iff_getElem.1 hx
        rw [nth_get xs i hi]
        simpa using H.out i (by omega)
      exact ⟨ret_b this.symm, rfl⟩
end Go.Proofs.YtjppoejkfpeicaaDoor

/- Slices that the call itself made: what they hold, one more appended, as a string. -/
set_option linter.unusedVariables false
namespace Go.Proofs.YtjppoejkfpeicaaDoor
open Go.RowKit

/-- v is a slice of the cells cs (one cell an element of type e), in a block from base on that nobody else knows, or nil. -/
def Own (w : World) (base : Nat) (e : TypeId) (v : Value) (cs : List Value) : Prop := w.ownsRow base e 1 v cs.length cs

section
variable {w w' : World} {base : Nat} {e : TypeId} {v : Value} {cs : List Value}
theorem Own.nil (w : World) (base : Nat) (e : TypeId) : Own w base e (.slice none 0 0) [] := ⟨by simp, .inl ⟨rfl, rfl⟩⟩
theorem Own.lit (w : World) (base : Nat) (e : TypeId) (cs : List Value) (hb : base ≤ w.heap.size) (hm : cs.length ≤ 9223372036854775807) :
    Own (w.alloc (.cells cs.toArray e)) base e (.slice (some ⟨w.heap.size, 0, none⟩) cs.length cs.length) cs := by
  have h := World.ownsRow_lit (base := base) (e := e) (size := 1) w cs.toArray cs.length hb (by simpa [maxLen] using hm) (by simp)
  unfold Own
  simpa using h
/-- What it is: nil and empty, or a slice at the head of a block. -/
theorem Own.form (h : Own w base e v cs) : (v = .slice none 0 0 ∧ cs = []) ∨ ∃ g c, v = .slice (some ⟨g, 0, none⟩) cs.length c ∧ base ≤ g ∧ g < w.heap.size ∧ w.rangeAt g 0 cs ∧ (∀ j, w.frozen? ⟨g, j, none⟩ = false) ∧ cs.length ≤ 9223372036854775807 ∧ cs.length ≤ c := by
  rcases h.2 with ⟨hv, hn⟩ | ⟨g, cap, cur, hv, hb, hh, h1, h2, h3⟩
  · exact .inl ⟨hv, List.eq_nil_of_length_eq_zero hn⟩
  · refine .inr ⟨g, cap, hv, hb, (Array.getElem?_eq_some_iff.1 hh).1, fun j u hu => ?_, fun j => by simp [World.frozen?, hh], by simp only [maxLen] at h2; omega, h1⟩
    subst hv
    have := World.ownsRow.cells (g := g) h rfl j u hu
    rwa [show (⟨g, 0, none⟩ : Addr).add j = ⟨g, 0 + j, none⟩ by unfold Addr.add; split <;> simp_all] at this
theorem Own.slice (h : Own w base e v cs) : ∃ A c, v = .slice A cs.length c := by
  rcases h.form with ⟨rfl, rfl⟩ | ⟨g, c, rfl, _⟩
  · exact ⟨none, 0, rfl⟩
  · exact ⟨_, c, rfl⟩
theorem Own.kept (h : Own w base e v cs) (hb : Below w.heap.size w w') : Own w' base e v cs :=
  World.ownsRow.kept (row := Option.none) h ⟨hb.os, hb.tape, hb.output, hb.size, fun i hi _ => hb.block i hi⟩ (by cases v.ownBlock <;> simp)
theorem Own.grown (h : Own w base e v cs) {row : Option Nat} (hg : w.grownBy w' row) (hne : v.ownBlock = none ∨ v.ownBlock ≠ row) : Own w' base e v cs := World.ownsRow.kept h hg hne
theorem Own.alloc (h : Own w base e v cs) (o : Obj) : Own (w.alloc o) base e v cs := World.ownsRow.alloc h o
theorem Own.drewN (h : Own w base e v cs) (n : Nat) : Own (w.drewN n) base e v cs := h
theorem Own.ge (h : Own w base e v cs) (k : Nat) (hk : v.ownBlock = some k) : base ≤ k := by
  rcases h.form with ⟨rfl, rfl⟩ | ⟨g, c, rfl, hb, _⟩
  · simp [Value.ownBlock] at hk
  · have : g = k := by simpa [Value.ownBlock] using hk
    omega
theorem Own.lt (h : Own w base e v cs) (k : Nat) (hk : v.ownBlock = some k) : k < w.heap.size := by
  rcases h.form with ⟨rfl, rfl⟩ | ⟨g, c, rfl, hb, hl, _⟩
  · simp [Value.ownBlock] at hk
  · have : g = k := by simpa [Value.ownBlock] using hk
    omega
theorem Own.lower (h : Own w base e v cs) {b' : Nat} (hb : b' ≤ base) : Own w b' e v cs := by
  obtain ⟨h1, h2⟩ := h
  refine ⟨h1, ?_⟩
  rcases h2 with h2 | ⟨g, cap, cur, rfl, hg, r⟩
  · exact .inl h2
  · exact .inr ⟨g, cap, cur, rfl, Nat.le_trans hb hg, r⟩
/-- A store into another block. -/
theorem Own.far (h : Own w base e v cs) {p : Addr} (hp : v.ownBlock ≠ some p.block) (u : Value) : Own (w.setCell p u) base e v cs := by
  obtain ⟨h1, h2⟩ := h
  refine ⟨h1, ?_⟩
  rcases h2 with h2 | ⟨g, cap, cur, rfl, hg, hh, r⟩
  · exact .inl h2
  · exact .inr ⟨g, cap, cur, rfl, hg, by rw [Below.heap_setCell _ _ _ _ (fun e => hp (by rw [← e]; rfl))]; exact hh, r⟩
/-- A store into it. -/
theorem Own.set {g n c : Nat} (h : Own w base e (.slice (some ⟨g, 0, none⟩) n c) cs) (hn : n = cs.length) (i : Nat) (u : Value) : Own (w.setCell ⟨g, i, none⟩ u) base e (.slice (some ⟨g, 0, none⟩) n c) (cs.set i u) := by
  subst hn
  have := (World.ownsRow.stored h i u).1
  unfold Own
  rw [List.length_set]
  exact this
end

section
variable {P : Program} {ops : Array Oper} {rest : List Oper} {op : Oper} {a : Act} {Q : Exit → Act → World → Prop}
/-- append(v, y): behind 'at_builtin'; the world at hand is 'W.alloc' of y's box. -/
theorem app1 {w0 W : World} (base : Nat) (hgd : op.guard = none) (s x : Operand) (t e : TypeId) (z : Value) (bytes : Nat)
    (ho : op.op = .call { callee := .builtin .append, args := #[s, x], argTypes := #[t, t] })
    (ht : P.underlying t = some (.slice e)) (hinfo : (P.info? e).map (fun i => (i.zero, i.size, i.bytes)) = some (some z, 1, bytes)) (hz : z.cells.size = 1) (hb0 : 0 < bytes)
    (v : Value) (cs : List Value) (y : Value) (hs : a.eval s = v) (hx : a.eval x = .slice (some ⟨W.heap.size, 0, none⟩) 1 1) (h1 : y.oneCell' = true)
    (HO : Own W base e v cs) (HB : Below base w0 W) (hbase : base ≤ W.heap.size) (hl : (cs.length + 1) * bytes ≤ 140737488355328)
    (h : ∀ v1 w1, Own w1 base e v1 (cs ++ [y]) → Below base w0 w1 → W.grownBy w1 v.ownBlock → (v1.ownBlock = v.ownBlock ∨ ∃ b, v1.ownBlock = some b ∧ W.heap.size ≤ b) → wpList P ops Q rest (a.put op.dst v1) w1) :
    wpList P ops Q (op :: rest) a (W.alloc (.cells #[y] e)) := by
  obtain ⟨i0, hi, hzz⟩ := Option.map_eq_some_iff.1 hinfo
  simp only [Prod.mk.injEq] at hzz
  obtain ⟨hz0, hz1, hz2⟩ := hzz
  have hlen : cs.length + 1 ≤ 140737488355328 := Nat.le_trans (Nat.le_mul_of_pos_right _ hb0) hl
  refine wpList_append_own_at (W.alloc (.cells #[y] e)) hgd s x t ho base e i0 z 1 bytes ht hi hz0 hz1 hz2 hz (by omega) v cs.length cs hs (World.ownsRow.alloc HO _) ⟨W.heap.size, 0, none⟩ 1 1 [y] hx rfl
    (cell_one_new _ _ _) (by simpa using h1) (by simp only [maxLen]; omega) hl (by simp; omega) ?_
  intro v1 w1 hown hg _ hat
  have hg' : W.grownBy w1 v.ownBlock := ⟨hg.os, hg.tape, hg.output, Nat.le_trans (by simp) hg.size, fun k hk hne => (hg.block k (by simp; omega) hne).trans (Below.heap_alloc _ _ _ hk)⟩
  refine h v1 w1 (by unfold Own; simpa using hown) (HB.grown hg' hbase (fun k hk => Own.ge HO k hk)) hg' ?_
  rcases hat with hat | hat
  · exact .inl hat
  · exact .inr ⟨_, hat, by simp⟩
end

/-- Bytes as a string. -/
theorem own_string {P : Program} {w : World} {base : Nat} {e' src dst e : TypeId} {v : Value} {xs : List Int} (hs : P.underlying src = some (.slice e)) (he : P.underlying e = some (.int .u8)) (hd : P.underlying dst = some .string)
    (h : Own w base e' v (u8s xs)) : (convert src dst v).run P w = .ok (.string (strOfNums xs)) w := by
  rcases h.form with ⟨rfl, hn⟩ | ⟨g, c, rfl, _, _, hr, _⟩
  · have : xs = [] := by simpa [u8s] using hn
    subst this
    exact run_convert_bytes_nil w src e hs he 0 0 dst hd
  · rw [u8s_length]
    refine run_convert_bytes_arg w src e hs he g 0 xs.length c xs rfl (fun i hi => ?_) dst hd
    have := hr i _ (u8s_get xs i hi)
    exact this
end Go.Proofs.YtjppoejkfpeicaaDoor

/- Contracts: slices of int8: copied, compared. -/
set_option linter.unusedVariables false
namespace Go.Proofs.YtjppoejkfpeicaaDoor
open Go.RowKit

/-- '.slice A xs.length c' is a slice that holds the numbers xs. -/
def Sl (k : IntKind) (w : World) (A : Option Addr) (xs : List Int) : Prop :=
  xs.length ≤ 9223372036854775807 ∧ (0 < xs.length → ∃ b o, A = some ⟨b, o, none⟩ ∧ w.rangeAt b o (xs.map (Value.int k)))
theorem range_below {w w' : World} {b o : Nat} {cs : List Value} (h : w.rangeAt b o cs) (hb : Below w.heap.size w w') : w'.rangeAt b o cs := fun j v hv => by
  have := h j v hv
  rw [hb.cell (World.block_lt_of_cell? w _ this)]; exact this
theorem Sl.kept {k : IntKind} {w w' : World} {A : Option Addr} {xs : List Int} (h : Sl k w A xs) (hb : Below w.heap.size w w') : Sl k w' A xs :=
  ⟨h.1, fun hp => by obtain ⟨b, o, e, hr⟩ := h.2 hp; exact ⟨b, o, e, range_below hr hb⟩⟩
theorem nth_ext (xs ys : List Int) (hl : xs.length = ys.length) (h : ∀ j, j < xs.length → nth xs j = nth ys j) : xs = ys := by
  apply List.ext_getElem hl
  intro i h1 h2
  rw [nth_get xs i h1, nth_get ys i h2]
  exact h i h1
theorem nth_ne {xs ys : List Int} {k : Nat} (h : (nth xs k != nth ys k) = true) : decide (xs = ys) = false := by
  rw [decide_eq_false_iff_not]; rintro rfl; simp at h

end Go.Proofs.YtjppoejkfpeicaaDoor

/- Slices of numbers among a law's arguments. -/
set_option linter.unusedVariables false
namespace Go.Proofs.YtjppoejkfpeicaaDoor
open Go.ChangeShapes Go.WideShapes Go.ChangeAt Go.RowKit
section
variable {H : Type} {enc : TypeId × Value → H} {P : Program}
theorem open_row {k : IntKind} {t e : TypeId} (ht : P.underlying t = some (.slice e)) (he : P.underlying e = some (.int k)) (hc : P.cellsOf e = 1)
    {w : World} {r : Reach} {b : Nat} {v : Value} {base : Nat} {spare : Nat → Bool} {held : Bool} {d : DataW H} {p : List MemPlace}
    (hv : Value.okWide P w r b t v) (h : DataW.Trod enc P w base spare held t v d p) :
    ∃ (A : Option Addr) (xs : List Int) (cap : Nat), v = .slice A xs.length cap ∧ Sl k w A xs ∧ ∀ n ∈ xs, (Lit.int k n).wf = true := by
  obtain ⟨A, len, cap, rfl⟩ := okWide_slice ht hv
  obtain ⟨fuel, hf⟩ := h
  rcases open_ints ht he hc hf with ⟨hcs, _⟩ | ⟨x, l, c, zs, hcs, _, hl, hm, hz, _, hcell, hwz⟩
  · simp [Value.cells] at hcs
    obtain ⟨rfl, rfl, rfl⟩ := hcs
    exact ⟨none, [], 0, rfl, ⟨by simp, fun hp => by simp at hp⟩, fun n hn => by cases hn⟩
  · simp [Value.cells] at hcs
    obtain ⟨rfl, rfl, rfl⟩ := hcs
    have hzl : len ≤ zs.length := by rw [hz]; split <;> omega
    have hlen : (zs.take len).length = len := by rw [List.length_take]; omega
    refine ⟨some x, zs.take len, cap, by rw [hlen], ⟨by rw [hlen]; simp only [maxLen] at hm; omega, fun hp => ?_⟩, fun n hn => hwz n (List.mem_of_mem_take hn)⟩
    rw [hlen] at hp
    obtain ⟨bb, off, spot⟩ := x
    have h0 := hcell 0 (by omega)
    have hspot : spot = none := by simpa [Addr.add] using World.cell?_spot h0
    subst hspot
    refine ⟨bb, off, rfl, fun j u hu => ?_⟩
    rw [List.getElem?_map, List.getElem?_take] at hu
    split at hu
    · rename_i hj
      have hjl : j < zs.length := by omega
      have hj' := hcell j hjl
      rw [List.getElem?_eq_getElem hjl] at hu
      simp at hu
      subst hu
      have ha : (⟨bb, off, none⟩ : Addr).add j = ⟨bb, off + j, none⟩ := Addr.add_mid _ _ _
      rw [ha] at hj'
      rw [hj']
      simp [List.getElem?_eq_getElem hjl]
    · cases hu
end
end Go.Proofs.YtjppoejkfpeicaaDoor


namespace Go.Proofs.YtjppoejkfpeicaaDoor
open Go.RowKit

theorem info_fl : (Tryd.prog.info? 23).map (·.size) = some 24 := by kernel_rfl
theorem info_fl' : (Tryd.prog.info? 22).map (·.size) = some 24 := by kernel_rfl

end Go.Proofs.YtjppoejkfpeicaaDoor

/- For laws: a region that draws its order and calls functions which make memory, beside loads of whole flags. -/
set_option linter.unusedVariables false
namespace Go.Proofs.YtjppoejkfpeicaaDoor
open Go.RowKit

theorem range_kept {w w' : World} {b o : Nat} {cs : List Value} (h : w.rangeAt b o cs) (hb : Below w.heap.size w w') : w'.rangeAt b o cs := fun j v hv => by
  have := h j v hv
  rw [hb.cell (World.block_lt_of_cell? w _ this)]; exact this
/-- What is kept through such a region: what came before lies as it did, and one or two flags lie where they did. -/
theorem keep1 {w W W' : World} {b1 : Nat} {c1 : List Value} (h : Below w.heap.size w W ∧ W.rangeAt b1 0 c1) (hb : Below W.heap.size W W') :
    Below w.heap.size w W' ∧ W'.rangeAt b1 0 c1 := ⟨bl_call h.1 hb, range_kept h.2 hb⟩
theorem keep2 {w W W' : World} {b1 b2 : Nat} {c1 c2 : List Value} (h : Below w.heap.size w W ∧ W.rangeAt b1 0 c1 ∧ W.rangeAt b2 0 c2) (hb : Below W.heap.size W W') :
    Below w.heap.size w W' ∧ W'.rangeAt b1 0 c1 ∧ W'.rangeAt b2 0 c2 := ⟨bl_call h.1 hb, range_kept h.2.1 hb, range_kept h.2.2 hb⟩
theorem drew2 {w W : World} {b1 b2 : Nat} {c1 c2 : List Value} (h : Below w.heap.size w W ∧ W.rangeAt b1 0 c1 ∧ W.rangeAt b2 0 c2) :
    Below w.heap.size w W.drew ∧ W.drew.rangeAt b1 0 c1 ∧ W.drew.rangeAt b2 0 c2 := ⟨h.1.drew, h.2.1, h.2.2⟩
theorem start2 (w : World) (c1 c2 : List Value) (t1 t2 : TypeId) : Below w.heap.size w ((w.alloc (.cells c1.toArray t1)).alloc (.cells c2.toArray t2)) ∧ ((w.alloc (.cells c1.toArray t1)).alloc (.cells c2.toArray t2)).rangeAt w.heap.size 0 c1 ∧ ((w.alloc (.cells c1.toArray t1)).alloc (.cells c2.toArray t2)).rangeAt (w.heap.size + 1) 0 c2 :=
  ⟨bl_new (bl_new (Below.refl _ w) _) _, ((Blk.new _ _ _).alloc _).range, (Blk.mk _ _ _ (by simp)).range⟩

section
variable {P : Program} {ops : Array Oper} {Q : Exit → Act → World → Prop} {S : World → Prop} {listed : Array Bool} {ts : List Value} {ds : List Deferred} {w : World} {fuel : Nat}
/-- 'wpAnyH_take', the slot and the frame written out. -/
theorem hTake (i d : Nat) {oi : Oper} {v : Value} (hi : ops[i]? = some oi) (hd : oi.dst = some d)
    (hs : Region.noSelect ops = true) (hf : Region.free .any ops listed i = true) (hr : (Region.ready .any ops listed).contains i = true)
    (hQ : ∀ c a w, Q (.panic c) (a.put oi.dst v) w → Q (.panic c) a w) (hy : YieldsIf P ops S oi v ⟨ts.toArray, ds⟩) (hS : S w)
    (h : wpAnyH P .any ops Q S fuel (listed.setIfInBounds i true) ⟨(ts.set d v).toArray, ds⟩ w) : wpAnyH P .any ops Q S (fuel + 1) listed ⟨ts.toArray, ds⟩ w :=
  wpAnyH_take hi hs hf hr hQ hy hS (by rw [hd]; simpa [Act.put] using h)
/-- The one operation that may come up is a call of function f. -/
theorem hCall (i d f : Nat) {oi : Oper} (hi : ops[i]? = some oi) (hd : oi.dst = some d) (hr : Region.ready .any ops listed = [i]) {args : Array Value}
    (hw : Region.wanted oi (yielded ops ts.toArray) = true) (he : (execOp (Act.mk ts.toArray ds).eval oi).run P w = .ok (.enter f args) w) (v : Value) {R : World → Prop}
    (hc : Calls P f args w fun e w' => e = .returned v ∧ R w')
    (h : ∀ w', R w' → S w' ∧ wpAnyH P .any ops Q S fuel (listed.setIfInBounds i true) ⟨(ts.set d v).toArray, ds⟩ w') : wpAnyH P .any ops Q S (fuel + 1) listed ⟨ts.toArray, ds⟩ w := by
  refine wpAnyH_ready (rs := [i]) hr (by simp) (AllReadyH.cons hi (fun K hK => ?_) AllReadyH.nil)
  rw [if_pos hw]
  unfold Oper.wp
  rw [he, Oper.upon_enter]
  refine hc.mono ?_
  rintro e w' ⟨rfl, hR⟩
  obtain ⟨h1, h2⟩ := h w' hR
  refine hK.out _ _ h1 (fun _ => ?_)
  rw [hd]
  simpa [Act.put] using h2
end
end Go.Proofs.YtjppoejkfpeicaaDoor

/- Many cells appended to a slice that the call itself made. -/
set_option linter.unusedVariables false
namespace Go.Proofs.YtjppoejkfpeicaaDoor
open Go.RowKit
section
variable {P : Program} {ops : Array Oper} {rest : List Oper} {op : Oper} {a : Act} {Q : Exit → Act → World → Prop}
/-- append(v, s...): s is not empty. -/
theorem appN {w0 W : World} (base : Nat) (hgd : op.guard = none) (s x : Operand) (t e : TypeId) (z : Value) (bytes : Nat)
    (ho : op.op = .call { callee := .builtin .append, args := #[s, x], argTypes := #[t, t] })
    (ht : P.underlying t = some (.slice e)) (hinfo : (P.info? e).map (fun i => (i.zero, i.size, i.bytes)) = some (some z, 1, bytes)) (hz : z.cells.size = 1) (hb0 : 0 < bytes)
    (v : Value) (cs : List Value) (ys : List Value) (b o c m : Nat) (hs : a.eval s = v) (hx : a.eval x = .slice (some ⟨b, o, none⟩) m c) (hm : ys.length = m) (h1 : ∀ u ∈ ys, u.oneCell' = true)
    (HO : Own W base e v cs) (hr : W.rangeAt b o ys) (HB : Below base w0 W) (hbase : base ≤ W.heap.size) (hl : (cs.length + m) * bytes ≤ 140737488355328)
    (h : ∀ v1 w1, Own w1 base e v1 (cs ++ ys) → Below base w0 w1 → W.grownBy w1 v.ownBlock → (v1.ownBlock = v.ownBlock ∨ ∃ b, v1.ownBlock = some b ∧ W.heap.size ≤ b) → wpList P ops Q rest (a.put op.dst v1) w1) :
    wpList P ops Q (op :: rest) a W := by
  obtain ⟨i0, hi, hzz⟩ := Option.map_eq_some_iff.1 hinfo
  simp only [Prod.mk.injEq] at hzz
  obtain ⟨hz0, hz1, hz2⟩ := hzz
  have hlen : cs.length + m ≤ 140737488355328 := Nat.le_trans (Nat.le_mul_of_pos_right _ hb0) hl
  refine wpList_append_own_at W hgd s x t ho base e i0 z 1 bytes ht hi hz0 hz1 hz2 hz (by omega) v cs.length cs hs HO ⟨b, o, none⟩ m c ys hx (by omega)
    (fun j u hu => by have := hr j u hu; rwa [show (⟨b, o, none⟩ : Addr).add j = ⟨b, o + j, none⟩ from Addr.add_mid _ _ _]) h1 (by simp only [maxLen]; omega) hl hbase ?_
  intro v1 w1 hown hg _ hat
  refine h v1 w1 (by unfold Own; rw [List.length_append, hm]; exact hown) (HB.grown hg hbase (fun k hk => Own.ge HO k hk)) hg ?_
  rcases hat with hat | hat
  · exact .inl hat
  · exact .inr ⟨_, hat, Nat.le_refl _⟩
end
theorem info_s : (Tryd.prog.info? 9).map (fun i => (i.zero, i.size, i.bytes)) = some (some (.string ⟨#[]⟩), 1, 16) := by kernel_rfl
end Go.Proofs.YtjppoejkfpeicaaDoor

/- Contracts: slices.IndexFunc and ContainsFunc over bytes; both ValidFlag. -/
set_option linter.unusedVariables false
namespace Go.Proofs.YtjppoejkfpeicaaDoor
open Go.RowKit

/-- What slices.IndexFunc asks of its function, a closure of function g with captured lb: at element k, in whatever later world. -/
def Pred (g : Nat) (lb : Array Value) (el : Nat → Value) (n : Nat) (p : Nat → Bool) (w : World) : Prop :=
  ∀ (W : World) (k : Nat), k < n → Below w.heap.size w W → Calls Tryd.prog g (#[el k] ++ lb) W fun e w' => e = .returned (.bool (p k)) ∧ Below W.heap.size W w'

/-- The first k < n with p k, as an int; -1. -/
def firstIdx (p : Nat → Bool) : Nat → Nat → Int
  | 0, _ => -1
  | n + 1, k => if p k then (k : Int) else firstIdx p n (k + 1)
theorem firstIdx_hit (p : Nat → Bool) : ∀ (n k j : Nat), j < n → (∀ i, i < j → p (k + i) = false) → p (k + j) = true → firstIdx p n k = ((k + j : Nat) : Int)
  | 0, _, _, h, _, _ => by omega
  | n + 1, k, j, h, hf, ht => by
    unfold firstIdx
    rcases Nat.eq_zero_or_pos j with rfl | hj
    · rw [if_pos (by simpa using ht)]; simp
    · rw [if_neg (by simpa using hf 0 hj)]
      have := firstIdx_hit p n (k + 1) (j - 1) (by omega) (fun i hi => by have := hf (i + 1) (by omega); rwa [show k + (i + 1) = k + 1 + i by omega] at this) (by rwa [show k + 1 + (j - 1) = k + j by omega])
      rw [this]; congr 1; omega
theorem firstIdx_miss (p : Nat → Bool) : ∀ (n k : Nat), (∀ i, i < n → p (k + i) = false) → firstIdx p n k = -1
  | 0, _, _ => rfl
  | n + 1, k, hf => by
    unfold firstIdx
    rw [if_neg (by simpa using hf 0 (by omega))]
    exact firstIdx_miss p n (k + 1) (fun i hi => by have := hf (i + 1) (by omega); rwa [show k + (i + 1) = k + 1 + i by omega] at this)
/-- Is there a k < n with p k? -/
def anyBelow (p : Nat → Bool) (n : Nat) : Bool := (List.range n).any p
theorem firstIdx_nonneg (p : Nat → Bool) (n : Nat) : decide (0 ≤ firstIdx p n 0) = anyBelow p n := by
  unfold anyBelow
  cases h : (List.range n).any p with
  | false =>
    rw [firstIdx_miss p n 0 (fun i hi => by
      rw [List.any_eq_false] at h
      simpa using h i (List.mem_range.2 hi))]
    rfl
  | true =>
    rw [List.any_eq_true] at h
    obtain ⟨i, hi, hp⟩ := h
    rw [List.mem_range] at hi
    have key : ∀ m, m ≤ n → (∀ i, i < m → p i = false) ∨ ∃ j, j < m ∧ (∀ i, i < j → p i = false) ∧ p j = true := by
      intro m
      induction m with
      | zero => intro _; exact .inl (fun i hi => by omega)
      | succ m ih =>
        intro hm
        rcases ih (by omega) with h | ⟨j, hj, h1, h2⟩
        · cases hpm : p m with
          | false => exact .inl (all_succ h hpm)
          | true => exact .inr ⟨m, by omega, h, hpm⟩
        · exact .inr ⟨j, by omega, h1, h2⟩
    rcases key n (Nat.le_refl _) with h | ⟨j, hj, h1, h2⟩
    · rw [h i hi] at hp; cases hp
    · rw [firstIdx_hit p n 0 j hj (by simpa using h1) (by simpa using h2)]
      simp

set_option maxHeartbeats 400000 in
theorem IndexFunc_u8 (g : Nat) (lb : Array Value) (eg : ∀ args w, (callFunc g args).run Tryd.prog w = .ok (.enter g args) w) (xs : List Int) (p : Nat → Bool) (b o c : Nat) (w : World)
    (hp : Pred g lb (fun k => .int .u8 (nth xs k)) xs.length p w) (hbig : xs.length ≤ 9223372036854775807) (hr : w.rangeAt b o (u8s xs)) :
    Calls Tryd.prog 63 #[.slice (some ⟨b, o, none⟩) xs.length c, .func (.func g) #[] lb] w fun e w' => e = .returned (.int .i64 (firstIdx p xs.length 0)) ∧ Below w.heap.size w w' := by
  go_enter Tryd.func63, Tryd.ntmps63
  go_wp2
  go_loopw [5, 8] (fun _ i wr => ∃ k : Nat, k ≤ xs.length ∧ i = .int .i64 k ∧ Below w.heap.size w wr ∧ As (∀ j, j < k → p j = false)) (fun _ i _ => xs.length - (intOf i).toNat)
  case atStart => exact ⟨0, by omega, rfl, Below.refl _ _, ⟨fun j hj => by omega⟩⟩
  case round =>
    obtain ⟨k, hk, rfl, hb, H⟩ := hrel
    by_cases hlt : k < xs.length
    · have c0 : wr.cell? ⟨b, o + k, none⟩ = some (.int .u8 (nth xs k)) := by
        have h0 := hr k _ (by rw [u8s_get xs k hlt])
        rw [hb.cell (World.block_lt_of_cell? w _ h0)]; exact h0
      have hcall := hp wr k hlt hb
      cases hq : p k with
      | true =>
        rw [hq] at hcall
        go_wp2_with (refine hcall.mono ?_; rintro e w' ⟨rfl, hb'⟩)
        go_ret
        exact ⟨ret_n (by rw [firstIdx_hit p xs.length 0 k hlt (by simpa using H.out) (by simpa using hq)]; simp), bl_call hb hb'⟩
      | false =>
        rw [hq] at hcall
        go_wp2_with (refine hcall.mono ?_; rintro e w' ⟨rfl, hb'⟩)
        go_roundw
        case rel => exact ⟨k + 1, by omega, by go_num, bl_call hb hb', ⟨all_succ H.out hq⟩⟩
        case measure => simp [intOf]; omega
    · obtain rfl : k = xs.length := by omega
      go_wp2
      go_ret
      exact ⟨ret_n (by rw [firstIdx_miss p xs.length 0 (by simpa using H.out)]), hb⟩

theorem ContainsFunc_u8 (g : Nat) (lb : Array Value) (eg : ∀ args w, (callFunc g args).run Tryd.prog w = .ok (.enter g args) w) (xs : List Int) (p : Nat → Bool) (b o c : Nat) (w : World)
    (hp : Pred g lb (fun k => .int .u8 (nth xs k)) xs.length p w) (hbig : xs.length ≤ 9223372036854775807) (hr : w.rangeAt b o (u8s xs)) :
    Calls Tryd.prog 39 #[.slice (some ⟨b, o, none⟩) xs.length c, .func (.func g) #[] lb] w fun e w' => e = .returned (.bool (anyBelow p xs.length)) ∧ Below w.heap.size w w' := by
  rw [← firstIdx_nonneg]
  go_enter Tryd.func39, Tryd.ntmps39
  go_wp2_with (go_at_call 63; refine (IndexFunc_u8 g lb eg xs p b o c _ hp hbig hr).mono ?_; rintro e w' ⟨rfl, hb⟩)
  go_ret
  exact ⟨rfl, hb⟩

theorem ValidFlag1_any (n : Int) (w : World) : Calls Tryd.prog 40 #[.int .u8 n] w fun e w' => e = .returned (.bool (decide (6 ≤ n))) ∧ Below w.heap.size w w' := by
  go_enter Tryd.func40, Tryd.ntmps40
  go_wp2
  go_ret
  exact ⟨rfl, Below.refl _ _⟩

theorem any_vf (xs : List Int) : (!anyBelow (fun k => decide (6 ≤ nth xs k)) xs.length) = vf xs := by
  unfold anyBelow vf
  rw [Bool.eq_iff_iff]
  simp only [Bool.not_eq_true', List.any_eq_false, List.all_eq_true, decide_eq_true_eq, List.mem_range]
  constructor
  · intro h x hx
    obtain ⟨i, hi, rfl⟩ := List.mem_iff_getElem.1 hx
    rw [nth_get xs i hi]
    have := h i hi
    omega
  · intro h i hi
    have := h _ (nth_mem xs i hi)
    omega

theorem ValidFlag_any (xs : List Int) (hl : xs.length = 24) (w : World) : Calls Tryd.prog 16 #[fl xs] w fun e w' => e = .returned (.bool (vf xs)) ∧ Below w.heap.size w w' := by
  unfold fl
  rw [← any_vf xs]
  have hcf := fun W c h => ContainsFunc_u8 40 #[] (enters Tryd.func40 (by kernel_rfl) rfl) xs (fun k => decide (6 ≤ nth xs k)) w.heap.size 0 c W (fun W k _ _ => ValidFlag1_any _ W) (by omega) h
  rw [hl] at hcf ⊢
  go_enter Tryd.func16, Tryd.ntmps16
  go_wp2_with (go_at_call 39; refine (hcf _ _ (Blk.new _ _ _).range).mono ?_; rintro e w' ⟨rfl, hb⟩)
  go_ret
  exact ⟨rfl, bl_call (bl_new (Below.refl _ _) _) hb⟩

end Go.Proofs.YtjppoejkfpeicaaDoor

/- Contracts: in how many places two rows of bytes differ. -/
set_option linter.unusedVariables false
namespace Go.Proofs.YtjppoejkfpeicaaDoor
open Go.RowKit

/-- In how many of the first k places two lists differ. -/
def diffs (xs ys : List Int) (k : Nat) : Int := ((List.range k).countP fun i => nth xs i != nth ys i : Nat)
theorem diffs_zero (xs ys : List Int) : diffs xs ys 0 = 0 := rfl
theorem diffs_succ (xs ys : List Int) (k : Nat) : diffs xs ys (k + 1) = diffs xs ys k + if nth xs k != nth ys k then 1 else 0 := by
  unfold diffs
  rw [List.range_succ, List.countP_append, List.countP_singleton]
  split <;> simp
/-- The counter behind a round, whichever way the test went. -/
theorem diffs_t {xs ys : List Int} {k : Nat} (h : (nth xs k != nth ys k) = true) : diffs xs ys (k + 1) = diffs xs ys k + 1 := by rw [diffs_succ, if_pos h]
theorem diffs_f {xs ys : List Int} {k : Nat} (h : (nth xs k != nth ys k) = false) : diffs xs ys (k + 1) = diffs xs ys k := by rw [diffs_succ, h]; simp
theorem diffs_bd (xs ys : List Int) (k : Nat) : 0 ≤ diffs xs ys k ∧ diffs xs ys k ≤ k := by
  unfold diffs
  have := List.countP_le_length (p := fun i => nth xs i != nth ys i) (l := List.range k)
  rw [List.length_range] at this
  omega
theorem diffs_comm (xs ys : List Int) (k : Nat) : diffs xs ys k = diffs ys xs k := by
  unfold diffs
  congr 1
  apply List.countP_congr
  intro i _
  rw [bne_comm]
theorem drewN_two (w : World) (a b : Nat) : (w.drewN a).drewN b = w.drewN (a + b) := World.drewN_drewN ..

set_option maxHeartbeats 400000 in
theorem l01Distance_any (xs ys : List Int) (hx : xs.length = 24) (hy : ys.length = 24) (b o b' o' : Nat) (w : World) (hr : w.rangeAt b o (u8s xs)) (hr' : w.rangeAt b' o' (u8s ys)) :
    Calls Tryd.prog 42 #[.pointer (some ⟨b, o, none⟩), .pointer (some ⟨b', o', none⟩)] w fun e w' => e = .returned (.int .i64 (diffs xs ys 24)) ∧ Below w.heap.size w w' := by
  go_enter Tryd.func42, Tryd.ntmps42
  go_wp2
  go_loopw [5, 6] (fun n i wr => ∃ k q : Nat, k ≤ 24 ∧ i = .int .i64 k ∧ n = .int .i64 (diffs xs ys k) ∧ wr = w.drewN q) (fun _ i _ => 24 - (intOf i).toNat)
  case atStart => exact ⟨0, 0, by omega, rfl, rfl, rfl⟩
  case round =>
    obtain ⟨k, q, hk, rfl, rfl, rfl⟩ := hrel
    have hbd := diffs_bd xs ys k
    by_cases hlt : k < 24
    · have hlt' : (k : Int) < 24 := by omega
      have c0 : w.cell? ⟨b, o + k, none⟩ = some (.int .u8 (nth xs k)) := hr k _ (by rw [u8s_get xs k (by omega)])
      have c1 : w.cell? ⟨b', o' + k, none⟩ = some (.int .u8 (nth ys k)) := hr' k _ (by rw [u8s_get ys k (by omega)])
      go_wp2
      go_quiet (fail)
      go_wp2
      all_goals
        go_roundw
        case rel => exact ⟨k + 1, _, by omega, by go_num, by first | rw [diffs_t (by assumption)] | rw [diffs_f (by assumption)], rfl⟩
        case measure => simp [intOf]; omega
    · obtain rfl : k = 24 := by omega
      go_wp2
      go_ret
      exact ⟨rfl, bl_drewN (Below.refl _ _) _⟩

set_option maxHeartbeats 400000 in
theorem unlike_any (xs ys : List Int) (hxy : xs.length = ys.length) (hbig : xs.length ≤ 1000000) (b o c b' o' c' : Nat) (w : World) (hr : w.rangeAt b o (u8s xs)) (hr' : w.rangeAt b' o' (u8s ys)) :
    Calls Tryd.prog 41 #[.slice (some ⟨b, o, none⟩) xs.length c, .slice (some ⟨b', o', none⟩) xs.length c'] w fun e w' => e = .returned (.int .i64 (diffs xs ys xs.length)) ∧ w' = w := by
  go_enter Tryd.func41, Tryd.ntmps41
  go_wp2
  go_loop [5, 10] (fun n i => ∃ k : Nat, k ≤ xs.length ∧ i = .int .i64 k ∧ n = .int .i64 (diffs xs ys k)) (fun _ i => xs.length - (intOf i).toNat)
  case atStart => exact ⟨0, by omega, rfl, rfl⟩
  case round =>
    obtain ⟨k, hk, rfl, rfl⟩ := hrel
    have hbd := diffs_bd xs ys k
    by_cases hlt : k < xs.length
    · have hlt' : (k : Int) < (xs.length : Int) := by omega
      have c0 : w.cell? ⟨b, o + k, none⟩ = some (.int .u8 (nth xs k)) := hr k _ (by rw [u8s_get xs k (by omega)])
      have c1 : w.cell? ⟨b', o' + k, none⟩ = some (.int .u8 (nth ys k)) := hr' k _ (by rw [u8s_get ys k (by omega)])
      go_wp2
      all_goals
        go_round
        case rel => exact ⟨k + 1, by omega, by go_num, by first | rw [diffs_t (by rw [bne_comm]; assumption)] | rw [diffs_f (by rw [bne_comm]; assumption)]⟩
        case measure => simp [intOf]; omega
    · obtain rfl : k = xs.length := by omega
      go_wp2
      go_ret
      exact ⟨rfl, rfl⟩
end Go.Proofs.YtjppoejkfpeicaaDoor

/- Contracts: DistanceOf: both sides. -/
set_option linter.unusedVariables false
namespace Go.Proofs.YtjppoejkfpeicaaDoor
open Go.RowKit

/-- The code of valid flags: 0, or 1. -/
def codeV (b : Bool) : Int := if b then 0 else 1
/-- What DistanceOf answers. -/
def distN (xs ys : List Int) : Int := if vf xs && vf ys then diffs xs ys 24 else 0
def ret2 (a b : Value) : Value := .tuple #[a, b]
theorem ret_2 {k k' : IntKind} {a b a' b' : Int} (h : a = a') (h' : b = b') : Ending.returned (.tuple #[.int k a, .int k' b]) = .returned (.tuple #[.int k a', .int k' b']) := by rw [h, h']

set_option maxHeartbeats 800000 in
theorem sDistanceOf_any (xs ys : List Int) (hx : xs.length = 24) (hy : ys.length = 24) (w : World) :
    Calls Tryd.prog 18 #[fl xs, fl ys] w fun e w' => e = .returned (.tuple #[.int .i64 (distN xs ys), .int .i64 (codeV (vf xs && vf ys))]) ∧ Below w.heap.size w w' := by
  unfold fl
  have B0 : Blk ((w.alloc (.cells (u8s xs).toArray 23)).alloc (.cells (u8s ys).toArray 23)) w.heap.size (u8s xs) 23 := (Blk.new _ _ _).alloc _
  have B1 : Blk ((w.alloc (.cells (u8s xs).toArray 23)).alloc (.cells (u8s ys).toArray 23)) (w.heap.size + 1) (u8s ys) 23 := Blk.mk _ _ _ (by simp)
  have b0 := bl_new (bl_new (Below.refl _ w) (.cells (u8s xs).toArray 23)) (.cells (u8s ys).toArray 23)
  cases h1 : vf xs <;> cases h2 : vf ys
  all_goals
    have hN := As.mk (show distN xs ys = if vf xs && vf ys then diffs xs ys 24 else 0 from rfl)
    go_enter Tryd.func18, Tryd.ntmps18
    go_wp2_with (first | (go_at_call_of 35 (Value.pointer (some ⟨w.heap.size, 0, none⟩)); refine (l01Ok_any xs hx _ 0 _ B0.range).mono ?_; rintro e w' ⟨rfl, rfl⟩) | (go_at_call 35; refine (l01Ok_any ys hy _ 0 _ B1.range).mono ?_; rintro e w' ⟨rfl, rfl⟩) | (go_at_call 42; refine (l01Distance_any xs ys hx hy _ 0 _ 0 _ B0.range B1.range).mono ?_; rintro e w' ⟨rfl, hb⟩))
    go_ret2
    exact ⟨ret_2 (by rw [hN.out, h1, h2]; rfl) rfl, by first | exact b0 | exact bl_call b0 hb⟩
end Go.Proofs.YtjppoejkfpeicaaDoor
