/- Laws over slices: what stays while a slice is marked. -/
import Derived.Test.YtjppoejkfpeicaaH3
set_option linter.unusedVariables false
namespace Go.Proofs.Ytjppoejkfpeicaa
open Go.RowKit
section
variable {w w' w0 : World} {base : Nat} {e : TypeId} {v : Value} {cs : List Value} {k : IntKind} {xs : List Int}
theorem Blk.ownN {b : Nat} (h : Blk w b (xs.map (Value.int k)) e) (hb : base ≤ b) (hm : xs.length ≤ 9223372036854775807) : Own w base e (.slice (Option.some ⟨b, 0, none⟩) xs.length xs.length) (xs.map (Value.int k)) := by
  have := h.own hb (by rw [List.length_map]; exact hm)
  rwa [List.length_map] at this
theorem Blk.grown {b g n c : Nat} (h : Blk w b cs e) (hg : w.grownBy w' (Value.slice (Option.some ⟨g, 0, none⟩) n c).ownBlock) (hne : b ≠ g) : Blk w' b cs e :=
  (hg.block b h.lt (by simp only [Value.ownBlock, ne_eq, Option.some.injEq]; exact hne)).trans h
theorem Own.sl' {A : Option Addr} {n c : Nat} (h : Own w base e (.slice A n c) (xs.map (Value.int k))) : Sl k w A xs := by
  obtain ⟨A', c', hv, S⟩ := h.sl
  simp only [Value.slice.injEq] at hv
  rw [hv.1]; exact S
theorem Own.slN {A : Option Addr} {n c : Nat} {kd : IntKind} {k0 : Int} (h : Own w base e (.slice A n c) ((marks kd k0 n).map (Value.int k))) : Sl k w A (marks kd k0 n) := h.sl'
/-- A slice stays while a block below it is turned. -/
theorem Own.keptBy {g n c : Nat} (h : Own w base e v cs) (hg : w.grownBy w' (Value.slice (some ⟨g, 0, none⟩) n c).ownBlock) (hlt : g < base) : Own w' base e v cs := by
  refine h.grown hg ?_
  cases hv : v.ownBlock with
  | none => exact .inl rfl
  | some k =>
    refine .inr fun e' => ?_
    simp only [Value.ownBlock, Option.some.injEq] at e'
    have := h.ge k hv
    omega
theorem bl_mark {B g n c : Nat} (hb : Below B w0 w) (hB : B ≤ w.heap.size) (hg : w.grownBy w' (Value.slice (some ⟨g, 0, none⟩) n c).ownBlock) (hBg : B ≤ g) : Below B w0 w' :=
  hb.grown hg hB (fun k hk => by simp only [Value.ownBlock, Option.some.injEq] at hk; omega)
end
end Go.Proofs.Ytjppoejkfpeicaa
