/- Plain: what patterns are when they are turned and mirrored. -/
import Derived.Test.YtjppoejkfpeicaaG8
import Derived.Test.YtjppoejkfpeicaaG3
import Derived.Test.YtjppoejkfpeicaaG5
import Derived.Test.YtjppoejkfpeicaaF10
import Derived.Test.YtjppoejkfpeicaaF13
import Derived.Test.YtjppoejkfpeicaaF15
import Derived.Test.YtjppoejkfpeicaaF16
import Derived.Test.YtjppoejkfpeicaaF3
import Derived.Test.YtjppoejkfpeicaaSr
import Derived.Great.FillDense
set_option linter.unusedVariables false
namespace Go.Proofs.Ytjppoejkfpeicaa
open Go.RowKit

/-- A flag that stays as it is. -/
structure Still (xs : List Int) : Prop where
  len : xs.length = 24
  bytes : Bytes xs
  ok : vf xs = true
  mir : mirrorL xs = xs
  turn : turnL xs = xs
instance (xs : List Int) : Decidable (Bytes xs) := by unfold Bytes; infer_instance
theorem still_dec {xs : List Int} (h : xs.length = 24 ∧ Bytes xs ∧ vf xs = true ∧ mirrorL xs = xs ∧ turnL xs = xs) : Still xs := ⟨h.1, h.2.1, h.2.2.1, h.2.2.2.1, h.2.2.2.2⟩
theorem made_facts {a b : Int} (ha : 0 ≤ a ∧ a < 6) (hb : 0 ≤ b ∧ b < 6) :
    Still (plainL a) ∧ Still (madeL 0 a b) ∧ Still (madeL 1 a b) ∧ ((madeL 2 a b).length = 24 ∧ Bytes (madeL 2 a b) ∧ vf (madeL 2 a b) = true ∧ mirrorL (madeL 2 a b) = madeL 2 b a ∧ turnL (madeL 2 a b) = madeL 2 a b) ∧ (madeL 2 b a).length = 24 ∧
    ((stripeL [a, b] true).length = 24 ∧ Bytes (stripeL [a, b] true) ∧ vf (stripeL [a, b] true) = true) ∧ stripesOk [a, b] true = true ∧ aC [a, b] = true ∧ aC [b, a] = true ∧ inR a 0 5 = true ∧
    nth (countL (stripeL [a, b] true) 24) a.toNat = (if a = b then 24 else 12) ∧ nth (countL (stripeL [a, b] true) 24) b.toNat = (if a = b then 24 else 12) ∧ (countL (stripeL [a, b] true) 24).length = 6 := by
  have key : ∀ i j : Fin 6, ∀ a b : Int, a = (i.1 : Int) → b = (j.1 : Int) → True := fun _ _ _ _ _ _ => trivial
  obtain ⟨i, rfl⟩ : ∃ i : Fin 6, a = (i.1 : Int) := ⟨⟨a.toNat, by omega⟩, by simp; omega⟩
  obtain ⟨j, rfl⟩ : ∃ j : Fin 6, b = (j.1 : Int) := ⟨⟨b.toNat, by omega⟩, by simp; omega⟩
  have s0 : ∀ i : Fin 6, ((plainL (i.1 : Int)).length = 24 ∧ Bytes (plainL (i.1 : Int)) ∧ vf (plainL (i.1 : Int)) = true ∧ mirrorL (plainL (i.1 : Int)) = plainL (i.1 : Int) ∧ turnL (plainL (i.1 : Int)) = plainL (i.1 : Int)) ∧ inR (i.1 : Int) 0 5 = true := by decide +kernel
  have s1 : ∀ i j : Fin 6, ((madeL 0 i.1 j.1).length = 24 ∧ Bytes (madeL 0 i.1 j.1) ∧ vf (madeL 0 i.1 j.1) = true ∧ mirrorL (madeL 0 i.1 j.1) = madeL 0 i.1 j.1 ∧ turnL (madeL 0 i.1 j.1) = madeL 0 i.1 j.1) ∧
    ((madeL 1 i.1 j.1).length = 24 ∧ Bytes (madeL 1 i.1 j.1) ∧ vf (madeL 1 i.1 j.1) = true ∧ mirrorL (madeL 1 i.1 j.1) = madeL 1 i.1 j.1 ∧ turnL (madeL 1 i.1 j.1) = madeL 1 i.1 j.1) := by decide +kernel
  have s2 : ∀ i j : Fin 6, ((madeL 2 i.1 j.1).length = 24 ∧ Bytes (madeL 2 i.1 j.1) ∧ vf (madeL 2 i.1 j.1) = true ∧ mirrorL (madeL 2 i.1 j.1) = madeL 2 j.1 i.1 ∧ turnL (madeL 2 i.1 j.1) = madeL 2 i.1 j.1) := by decide +kernel
  have s3 : ∀ i j : Fin 6, ((stripeL [(i.1 : Int), (j.1 : Int)] true).length = 24 ∧ Bytes (stripeL [(i.1 : Int), (j.1 : Int)] true) ∧ vf (stripeL [(i.1 : Int), (j.1 : Int)] true) = true) ∧ stripesOk [(i.1 : Int), (j.1 : Int)] true = true ∧ aC [(i.1 : Int), (j.1 : Int)] = true := by decide +kernel
  have s4 : ∀ i j : Fin 6, nth (countL (stripeL [(i.1 : Int), (j.1 : Int)] true) 24) (i.1 : Int).toNat = (if (i.1 : Int) = (j.1 : Int) then 24 else 12) ∧ nth (countL (stripeL [(i.1 : Int), (j.1 : Int)] true) 24) (j.1 : Int).toNat = (if (i.1 : Int) = (j.1 : Int) then 24 else 12) ∧ (countL (stripeL [(i.1 : Int), (j.1 : Int)] true) 24).length = 6 := by decide +kernel
  exact ⟨still_dec (s0 i).1, still_dec (s1 i j).1, still_dec (s1 i j).2, s2 i j, (s2 j i).1, (s3 i j).1, (s3 i j).2.1, (s3 i j).2.2, (s3 j i).2.2, (s0 i).2, s4 i j⟩
set_option linter.unusedSimpArgs false
theorem build3 (a b c : List Int) (ha : a.length = 24) (hb : b.length = 24) (hc : c.length = 24) (w : World) :
    (Instr.buildSlice 27 3 #[(0, .agg (u8s a).toArray), (1, .agg (u8s b).toArray), (2, .agg (u8s c).toArray)]).run Try.prog w = .ok (.slice (some ⟨w.heap.size, 0, none⟩) 3 3) (w.alloc (.cells (u8s a ++ (u8s b ++ u8s c)).toArray 38)) := by
  have hf := fun (cells : Array Value) (h : 3 * 24 = cells.size) => Great.fill_whole (s := 24) (by omega) [.agg (u8s a).toArray, .agg (u8s b).toArray, .agg (u8s c).toArray] cells (by
    intro v hv
    simp only [List.mem_cons, List.not_mem_nil, or_false] at hv
    rcases hv with rfl | rfl | rfl <;> simp [Value.cells, u8s_length, ha, hb, hc]) (by simpa using h)
  have hu := Try.underlying27
  have hz : ∀ W, (zeroValue 38).run Try.prog W = .ok (.agg #[.int .u8 0, .int .u8 0, .int .u8 0, .int .u8 0, .int .u8 0, .int .u8 0, .int .u8 0, .int .u8 0, .int .u8 0, .int .u8 0, .int .u8 0, .int .u8 0, .int .u8 0, .int .u8 0, .int .u8 0, .int .u8 0, .int .u8 0, .int .u8 0, .int .u8 0, .int .u8 0, .int .u8 0, .int .u8 0, .int .u8 0, .int .u8 0]) W := fun W => by go_simp
  have hs : ∀ W, (sizeOf 38).run Try.prog W = .ok 24 W := fun W => by go_simp
  have hn : ∀ W cs, (newRow 38 cs).run Try.prog W = .ok ⟨W.heap.size, 0, none⟩ (W.alloc (.cells cs 38)) := fun W cs => by go_simp
  unfold Instr.buildSlice
  simp only [Sem.run_bind, run_underlying hu w, Result.andThen_ok, hs, Sem.run_pure]
  rw [if_neg (by decide), if_neg (by decide)]
  simp only [Sem.run_bind, hz, Result.andThen_ok, Sem.run_pure]
  have hf2 : ∀ cells : Array Value, 3 * 24 = cells.size → Instr.fill (fun i => some (i * 24, 24)) cells [(0, Value.agg (u8s a).toArray), (1, Value.agg (u8s b).toArray), (2, Value.agg (u8s c).toArray)] = some (u8s a ++ (u8s b ++ u8s c)).toArray := fun cells h => by
    have := hf cells h
    simpa [Value.cells] using this
  rw [hf2 _ (by simp)]
  simp only [Sem.run_bind, hn, Result.andThen_ok, Sem.run_pure]
section
variable {ops : Array Oper} {rest : List Oper} {op : Oper} {a : Act} {w : World} {Q : Exit → Act → World → Prop}
/-- A list of three flags, written out. -/
theorem build_step (hgd : Region.wanted op (yielded ops a.tmps) = true) (xs ys zs : List Int) (hx : xs.length = 24) (hy : ys.length = 24) (hz : zs.length = 24) (x y z : Operand) (ho : op.op = .buildSlice 27 3 #[(0, x), (1, y), (2, z)])
    (ex : a.eval x = .agg (u8s xs).toArray) (ey : a.eval y = .agg (u8s ys).toArray) (ez : a.eval z = .agg (u8s zs).toArray)
    (h : wpList Try.prog ops Q rest (a.put op.dst (.slice (some ⟨w.heap.size, 0, none⟩) 3 3)) (w.alloc (.cells (u8s xs ++ (u8s ys ++ u8s zs)).toArray 38))) : wpList Try.prog ops Q (op :: rest) a w :=
  BigFrame.wpList_want hgd fun _ hK => by
    have hb := build3 xs ys zs hx hy hz w
    have he : (execOp a.eval op).run Try.prog w = .ok (.value (.slice (some ⟨w.heap.size, 0, none⟩) 3 3)) (w.alloc (.cells (u8s xs ++ (u8s ys ++ u8s zs)).toArray 38)) := by
      unfold execOp
      rw [ho]
      simp only [List.map_toArray, List.map_cons, List.map_nil, ex, ey, ez, Sem.run_bind, Sem.run_pure, Result.andThen_ok, hb]
    unfold Oper.wp
    rw [he, Oper.upon_value]
    exact hK _ _ h
end
end Go.Proofs.Ytjppoejkfpeicaa
