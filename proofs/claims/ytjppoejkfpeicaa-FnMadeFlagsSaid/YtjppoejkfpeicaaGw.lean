/- What a call leaves: all old blocks but those of a set. And steps of a region that draws its order: calls whose answer is not known ahead, append. -/
import Derived.Test.YtjppoejkfpeicaaLw
import Derived.Test.YtjppoejkfpeicaaOn
import Derived.Test.YtjppoejkfpeicaaDc
set_option linter.unusedVariables false
namespace Go.Proofs.Ytjppoejkfpeicaa
open Go.RowKit

structure Grw (S : Nat → Prop) (w w' : World) : Prop where
  os : w'.os = w.os
  tape : w'.tape = w.tape
  output : w'.output = w.output
  size : w.heap.size ≤ w'.heap.size
  block : ∀ k, k < w.heap.size → ¬ S k → w'.heap[k]? = w.heap[k]?
section
variable {S S' : Nat → Prop} {w w' w'' : World}
theorem Grw.refl (S : Nat → Prop) (w : World) : Grw S w w := ⟨rfl, rfl, rfl, Nat.le_refl _, fun _ _ _ => rfl⟩
theorem Grw.trans (h : Grw S w w') (k : Grw S w' w'') : Grw S w w'' :=
  ⟨k.os.trans h.os, k.tape.trans h.tape, k.output.trans h.output, Nat.le_trans h.size k.size, fun i hi hn => (k.block i (Nat.lt_of_lt_of_le hi h.size) hn).trans (h.block i hi hn)⟩
theorem Grw.below (h : Below w.heap.size w w') : Grw S w w' := ⟨h.os, h.tape, h.output, h.size, fun i hi _ => h.block i hi⟩
theorem Grw.wider (h : Grw S w w') (hs : ∀ k, S k → S' k) : Grw S' w w' := ⟨h.os, h.tape, h.output, h.size, fun i hi hn => h.block i hi (fun hk => hn (hs i hk))⟩
theorem Grw.grown {P : Nat} (h : w.grownBy w' (some P)) (hp : S P) : Grw S w w' := ⟨h.os, h.tape, h.output, h.size, fun i hi hn => h.block i hi (fun e => by injection e with e; subst e; exact hn hp)⟩
theorem Grw.drewN (h : Grw S w w') (n : Nat) : Grw S w (w'.drewN n) := ⟨h.os, h.tape, h.output, h.size, h.block⟩
theorem Grw.drew (h : Grw S w w') : Grw S w w'.drew := ⟨h.os, h.tape, h.output, h.size, h.block⟩
theorem Grw.cell (h : Grw S w w') {a : Addr} {v : Value} (hc : w.cell? a = some v) (hn : ¬ S a.block) : w'.cell? a = some v :=
  (World.cell?_of_block (h.block a.block (World.block_lt_of_cell? w a hc) hn)).trans hc
theorem Grw.range (h : Grw S w w') {b o : Nat} {cs : List Value} (hr : w.rangeAt b o cs) (hn : ¬ S b) : w'.rangeAt b o cs := fun j v hv => h.cell (hr j v hv) hn
theorem Grw.blk (h : Grw S w w') {b : Nat} {cs : List Value} {t : TypeId} (hB : Blk w b cs t) (hn : ¬ S b) : Blk w' b cs t := (h.block b hB.lt hn).trans hB
theorem Grw.toBelow {B : Nat} {w0 : World} (h : Grw S w w') (hb : Below B w0 w) (hB : B ≤ w.heap.size) (hs : ∀ k, S k → B ≤ k) : Below B w0 w' :=
  ⟨h.os.trans hb.os, h.tape.trans hb.tape, h.output.trans hb.output, Nat.le_trans hb.size h.size, fun k hk => (h.block k (Nat.lt_of_lt_of_le hk hB) (fun e => Nat.not_lt.2 (hs k e) hk)).trans (hb.block k hk)⟩
end

section
variable {P : Program} {ops : Array Oper} {Q : Exit → Act → World → Prop} {S : World → Prop} {listed : Array Bool} {ts : List Value} {ds : List Deferred} {w : World} {fuel : Nat}
/-- One of the operations that may come up: a call of function f, whose answer is told by R. -/
theorem kCallE (i d f : Nat) {oi : Oper} (hi : ops[i]? = some oi) (hd : oi.dst = some d) {args : Array Value}
    (hw : Region.wanted oi (yielded ops ts.toArray) = true) (he : (execOp (Act.mk ts.toArray ds).eval oi).run P w = .ok (.enter f args) w) {R : Value → World → Prop}
    (hc : Calls P f args w fun e w' => ∃ v, e = .returned v ∧ R v w') {rs : List Nat}
    (h : ∀ v w', R v w' → S w' ∧ wpAnyH P .any ops Q S fuel (listed.setIfInBounds i true) ⟨(ts.set d v).toArray, ds⟩ w')
    (hs : AllReadyH P .any ops Q S fuel listed ⟨ts.toArray, ds⟩ w rs) : AllReadyH P .any ops Q S fuel listed ⟨ts.toArray, ds⟩ w (i :: rs) := by
  refine AllReadyH.cons hi (fun K hK => ?_) hs
  rw [if_pos hw]
  unfold Oper.wp
  rw [he, Oper.upon_enter]
  refine hc.mono ?_
  rintro e w' ⟨v, rfl, hR⟩
  obtain ⟨h1, h2⟩ := h v w' hR
  refine hK.out _ _ h1 (fun _ => ?_)
  rw [hd]
  simpa [Act.put] using h2
/-- One of the operations that may come up: append(v, ys...), v being a slice of our own. -/
theorem kApp {w0 : World} (i d : Nat) (base : Nat) {oi : Oper} (hi : ops[i]? = some oi) (hd : oi.dst = some d) (s x : Operand) (t e : TypeId) (z : Value) (bytes : Nat)
    (ho : oi.op = .call { callee := .builtin .append, args := #[s, x], argTypes := #[t, t] })
    (hw : Region.wanted oi (yielded ops ts.toArray) = true)
    (ht : P.underlying t = some (.slice e)) (hinfo : (P.info? e).map (fun i => (i.zero, i.size, i.bytes)) = some (some z, 1, bytes)) (hz : z.cells.size = 1) (hb0 : 0 < bytes)
    (v : Value) (cs : List Value) (ys : List Value) (b o c m : Nat) (hs : (Act.mk ts.toArray ds).eval s = v) (hx : (Act.mk ts.toArray ds).eval x = .slice (some ⟨b, o, none⟩) m c) (hm : ys.length = m) (h1 : ∀ u ∈ ys, u.oneCell' = true)
    (HO : Own w base e v cs) (hr : w.rangeAt b o ys) (HB : Below base w0 w) (hbase : base ≤ w.heap.size) (hl : (cs.length + m) * bytes ≤ 140737488355328) {rs : List Nat}
    (h : ∀ v1 w1, Own w1 base e v1 (cs ++ ys) → Below base w0 w1 → S w1 ∧ wpAnyH P .any ops Q S fuel (listed.setIfInBounds i true) ⟨(ts.set d v1).toArray, ds⟩ w1)
    (hrest : AllReadyH P .any ops Q S fuel listed ⟨ts.toArray, ds⟩ w rs) : AllReadyH P .any ops Q S fuel listed ⟨ts.toArray, ds⟩ w (i :: rs) := by
  obtain ⟨i0, hi0, hzz⟩ := Option.map_eq_some_iff.1 hinfo
  simp only [Prod.mk.injEq] at hzz
  obtain ⟨hz0, hz1, hz2⟩ := hzz
  have hlen : cs.length + m ≤ 140737488355328 := Nat.le_trans (Nat.le_mul_of_pos_right _ hb0) hl
  refine AllReadyH.cons hi (fun K hK => ?_) hrest
  rw [if_pos hw]
  obtain ⟨v', w', hrun, h2, h3, h4, h5⟩ := run_append_own_at (P := P) w base t oi.type e i0 z 1 bytes ht hi0 hz0 hz1 hz2 hz (by omega) v cs.length cs HO ⟨b, o, none⟩ m c ys (by omega)
    (fun j u hu => by have := hr j u hu; rwa [show (⟨b, o, none⟩ : Addr).add j = ⟨b, o + j, none⟩ from Addr.add_mid _ _ _]) h1 (by simp only [maxLen]; omega) hl hbase
  unfold Oper.wp execOp
  simp only [ho, resolve, invoke, builtin, Sem.run_bind, Sem.run_pure, Result.andThen_ok, List.map_toArray, List.map_cons, List.map_nil, hs, hx, hrun]
  have hO1 : Own w' base e v' (cs ++ ys) := by unfold Own; rw [List.length_append, hm]; exact h2
  obtain ⟨hS, hN⟩ := h v' w' hO1 (HB.grown h3 hbase (fun k hk => Own.ge HO k hk))
  refine hK.out _ _ hS (fun _ => ?_)
  rw [hd]
  simpa [Act.put] using hN
end
end Go.Proofs.Ytjppoejkfpeicaa
