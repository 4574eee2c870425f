/- For laws: a region that draws its order and calls functions which make memory, beside loads of whole flags. -/
import Derived.Test.YtjppoejkfpeicaaDoorT1
import Derived.Test.YtjppoejkfpeicaaDoorF1
import Derived.Deep.RegionHeld3
set_option linter.unusedVariables false
namespace Go.Proofs.YtjppoejkfpeicaaDoor
open Go.RowKit

theorem range_kept {w w' : World} {b o : Nat} {cs : List Value} (h : w.rangeAt b o cs) (hb : Below w.heap.size w w') : w'.rangeAt b o cs := fun j v hv => by
  have := h j v hv
  rw [hb.cell (World.block_lt_of_cell? w _ this)]; exact this
/-- What is kept through such a region: what came before lies as it did, and one or two flags lie where they did. -/
theorem keep1 {w W W' : World} {b1 : Nat} {c1 : List Value} (h : Below w.heap.size w W ∧ W.rangeAt b1 0 c1) (hb : Below W.heap.size W W') :
    Below w.heap.size w W' ∧ W'.rangeAt b1 0 c1 := ⟨bl_call h.1 hb, range_kept h.2 hb⟩
theorem keep2 {w W W' : World} {b1 b2 : Nat} {c1 c2 : List Value} (h : Below w.heap.size w W ∧ W.rangeAt b1 0 c1 ∧ W.rangeAt b2 0 c2) (hb : Below W.heap.size W W') :
    Below w.heap.size w W' ∧ W'.rangeAt b1 0 c1 ∧ W'.rangeAt b2 0 c2 := ⟨bl_call h.1 hb, range_kept h.2.1 hb, range_kept h.2.2 hb⟩
theorem drew2 {w W : World} {b1 b2 : Nat} {c1 c2 : List Value} (h : Below w.heap.size w W ∧ W.rangeAt b1 0 c1 ∧ W.rangeAt b2 0 c2) :
    Below w.heap.size w W.drew ∧ W.drew.rangeAt b1 0 c1 ∧ W.drew.rangeAt b2 0 c2 := ⟨h.1.drew, h.2.1, h.2.2⟩
theorem start2 (w : World) (c1 c2 : List Value) (t1 t2 : TypeId) : Below w.heap.size w ((w.alloc (.cells c1.toArray t1)).alloc (.cells c2.toArray t2)) ∧ ((w.alloc (.cells c1.toArray t1)).alloc (.cells c2.toArray t2)).rangeAt w.heap.size 0 c1 ∧ ((w.alloc (.cells c1.toArray t1)).alloc (.cells c2.toArray t2)).rangeAt (w.heap.size + 1) 0 c2 :=
  ⟨bl_new (bl_new (Below.refl _ w) _) _, ((Blk.new _ _ _).alloc _).range, (Blk.mk _ _ _ (by simp)).range⟩

section
variable {P : Program} {ops : Array Oper} {Q : Exit → Act → World → Prop} {S : World → Prop} {listed : Array Bool} {ts : List Value} {ds : List Deferred} {w : World} {fuel : Nat}
/-- 'wpAnyH_take', the slot and the frame written out. -/
theorem hTake (i d : Nat) {oi : Oper} {v : Value} (hi : ops[i]? = some oi) (hd : oi.dst = some d)
    (hs : Region.noSelect ops = true) (hf : Region.free .any ops listed i = true) (hr : (Region.ready .any ops listed).contains i = true)
    (hQ : ∀ c a w, Q (.panic c) (a.put oi.dst v) w → Q (.panic c) a w) (hy : YieldsIf P ops S oi v ⟨ts.toArray, ds⟩) (hS : S w)
    (h : wpAnyH P .any ops Q S fuel (listed.setIfInBounds i true) ⟨(ts.set d v).toArray, ds⟩ w) : wpAnyH P .any ops Q S (fuel + 1) listed ⟨ts.toArray, ds⟩ w :=
  wpAnyH_take hi hs hf hr hQ hy hS (by rw [hd]; simpa [Act.put] using h)
/-- The one operation that may come up is a call of function f. -/
theorem hCall (i d f : Nat) {oi : Oper} (hi : ops[i]? = some oi) (hd : oi.dst = some d) (hr : Region.ready .any ops listed = [i]) {args : Array Value}
    (hw : Region.wanted oi (yielded ops ts.toArray) = true) (he : (execOp (Act.mk ts.toArray ds).eval oi).run P w = .ok (.enter f args) w) (v : Value) {R : World → Prop}
    (hc : Calls P f args w fun e w' => e = .returned v ∧ R w')
    (h : ∀ w', R w' → S w' ∧ wpAnyH P .any ops Q S fuel (listed.setIfInBounds i true) ⟨(ts.set d v).toArray, ds⟩ w') : wpAnyH P .any ops Q S (fuel + 1) listed ⟨ts.toArray, ds⟩ w := by
  refine wpAnyH_ready (rs := [i]) hr (by simp) (AllReadyH.cons hi (fun K hK => ?_) AllReadyH.nil)
  rw [if_pos hw]
  unfold Oper.wp
  rw [he, Oper.upon_enter]
  refine hc.mono ?_
  rintro e w' ⟨rfl, hR⟩
  obtain ⟨h1, h2⟩ := h w' hR
  refine hK.out _ _ h1 (fun _ => ?_)
  rw [hd]
  simpa [Act.put] using h2
end
end Go.Proofs.YtjppoejkfpeicaaDoor
