/- Many cells appended to a slice that the call itself made. -/
import Derived.Test.YtjppoejkfpeicaaOwn
set_option linter.unusedVariables false
namespace Go.Proofs.Ytjppoejkfpeicaa
open Go.RowKit
section
variable {P : Program} {ops : Array Oper} {rest : List Oper} {op : Oper} {a : Act} {Q : Exit → Act → World → Prop}
/-- append(v, s...): s is not empty. -/
theorem appN {w0 W : World} (base : Nat) (hgd : op.guard = none) (s x : Operand) (t e : TypeId) (z : Value) (bytes : Nat)
    (ho : op.op = .call { callee := .builtin .append, args := #[s, x], argTypes := #[t, t] })
    (ht : P.underlying t = some (.slice e)) (hinfo : (P.info? e).map (fun i => (i.zero, i.size, i.bytes)) = some (some z, 1, bytes)) (hz : z.cells.size = 1) (hb0 : 0 < bytes)
    (v : Value) (cs : List Value) (ys : List Value) (b o c m : Nat) (hs : a.eval s = v) (hx : a.eval x = .slice (some ⟨b, o, none⟩) m c) (hm : ys.length = m) (h1 : ∀ u ∈ ys, u.oneCell' = true)
    (HO : Own W base e v cs) (hr : W.rangeAt b o ys) (HB : Below base w0 W) (hbase : base ≤ W.heap.size) (hl : (cs.length + m) * bytes ≤ 140737488355328)
    (h : ∀ v1 w1, Own w1 base e v1 (cs ++ ys) → Below base w0 w1 → W.grownBy w1 v.ownBlock → (v1.ownBlock = v.ownBlock ∨ ∃ b, v1.ownBlock = some b ∧ W.heap.size ≤ b) → wpList P ops Q rest (a.put op.dst v1) w1) :
    wpList P ops Q (op :: rest) a W := by
  obtain ⟨i0, hi, hzz⟩ := Option.map_eq_some_iff.1 hinfo
  simp only [Prod.mk.injEq] at hzz
  obtain ⟨hz0, hz1, hz2⟩ := hzz
  have hlen : cs.length + m ≤ 140737488355328 := Nat.le_trans (Nat.le_mul_of_pos_right _ hb0) hl
  refine wpList_append_own_at W hgd s x t ho base e i0 z 1 bytes ht hi hz0 hz1 hz2 hz (by omega) v cs.length cs hs HO ⟨b, o, none⟩ m c ys hx (by omega)
    (fun j u hu => by have := hr j u hu; rwa [show (⟨b, o, none⟩ : Addr).add j = ⟨b, o + j, none⟩ from Addr.add_mid _ _ _]) h1 (by simp only [maxLen]; omega) hl hbase ?_
  intro v1 w1 hown hg _ hat
  refine h v1 w1 (by unfold Own; rw [List.length_append, hm]; exact hown) (HB.grown hg hbase (fun k hk => Own.ge HO k hk)) hg ?_
  rcases hat with hat | hat
  · exact .inl hat
  · exact .inr ⟨_, hat, Nat.le_refl _⟩
end
theorem info_s : (Try.prog.info? 9).map (fun i => (i.zero, i.size, i.bytes)) = some (some (.string ⟨#[]⟩), 1, 16) := by kernel_rfl
end Go.Proofs.Ytjppoejkfpeicaa
