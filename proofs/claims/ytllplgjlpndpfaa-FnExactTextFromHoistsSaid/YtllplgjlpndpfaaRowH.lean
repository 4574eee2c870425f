/- Slices of slices of numbers among a law's arguments. -/
import Derived.Test.YtllplgjlpndpfaaRow
import Derived.Test.YtllplgjlpndpfaaN1
set_option linter.unusedVariables false
namespace Go.Proofs.Ytllplgjlpndpfaa
open Go.ChangeShapes Go.WideShapes Go.ChangeAt Go.RowKit
section
variable {H : Type} {enc : TypeId × Value → H} {P : Program}
/-- The one cell of a slice of numbers. -/
theorem row_of_trod {k : IntKind} {t e : TypeId} (ht : P.underlying t = some (.slice e)) (he : P.underlying e = some (.int k)) (hc : P.cellsOf e = 1)
    {w : World} {base : Nat} {spare : Nat → Bool} {held : Bool} {fuel : Nat} {cs : List Value} {y : DataW H × List MemPlace} (hf : DataW.trod enc P w base spare held fuel t cs = some y) :
    ∃ (A : Option Addr) (xs : List Int) (cap : Nat), cs = [.slice A xs.length cap] ∧ Sl k w A xs ∧ ∀ n ∈ xs, (Lit.int k n).wf = true := by
  rcases open_ints ht he hc hf with ⟨hcs, _⟩ | ⟨x, len, cap, zs, hcs, _, hl, hm, hz, _, hcell, hwz⟩
  · exact ⟨none, [], 0, hcs, ⟨by simp, fun hp => by simp at hp⟩, fun n hn => by cases hn⟩
  · have hzl : len ≤ zs.length := by rw [hz]; split <;> omega
    have hlen : (zs.take len).length = len := by rw [List.length_take]; omega
    refine ⟨some x, zs.take len, cap, by rw [hlen]; exact hcs, ⟨by rw [hlen]; simp only [maxLen] at hm; omega, fun hp => ?_⟩, fun n hn => hwz n (List.mem_of_mem_take hn)⟩
    rw [hlen] at hp
    obtain ⟨bb, off, spot⟩ := x
    have h0 := hcell 0 (by omega)
    have hspot : spot = none := by simpa [Addr.add] using World.cell?_spot h0
    subst hspot
    refine ⟨bb, off, rfl, fun j u hu => ?_⟩
    rw [List.getElem?_map, List.getElem?_take] at hu
    split at hu
    · rename_i hj
      have hjl : j < zs.length := by omega
      have hj' := hcell j hjl
      rw [List.getElem?_eq_getElem hjl] at hu
      simp at hu
      subst hu
      have ha : (⟨bb, off, none⟩ : Addr).add j = ⟨bb, off + j, none⟩ := Addr.add_mid _ _ _
      rw [ha] at hj'
      rw [hj']
      simp [List.getElem?_eq_getElem hjl]
    · cases hu
theorem open_hoists {t e e' : TypeId} (ht : P.underlying t = some (.slice e)) (he : P.underlying e = some (.slice e')) (he' : P.underlying e' = some (.int .i8)) (hc' : P.cellsOf e' = 1) (hc : P.cellsOf e = 1)
    {w : World} {r : Reach} {b : Nat} {v : Value} {base : Nat} {spare : Nat → Bool} {held : Bool} {d : DataW H} {p : List MemPlace}
    (hv : Value.okWide P w r b t v) (h : DataW.Trod enc P w base spare held t v d p) :
    ∃ (A : Option Addr) (hs : List (List Int)) (cap : Nat), v = .slice A hs.length cap ∧ SlH w A hs ∧ ∀ xs ∈ hs, ∀ n ∈ xs, (Lit.int .i8 n).wf = true := by
  obtain ⟨A, len, cap, rfl⟩ := okWide_slice ht hv
  obtain ⟨fuel, hf⟩ := h
  rcases DataW.trod_slice ht hf with ⟨hcs, _⟩ | ⟨a, l, c, elems, rest, n, _, hcs, _, hb, hl, hm, hlen, hel, _, _⟩
  · simp [Value.cells] at hcs
    obtain ⟨rfl, rfl, rfl⟩ := hcs
    exact ⟨none, [], 0, rfl, ⟨by simp, (fun hp => by simp at hp)⟩, fun xs hx => by cases hx⟩
  · simp [Value.cells] at hcs
    obtain ⟨rfl, rfl, rfl⟩ := hcs
    have each : ∀ i, i < len → ∃ f : List Int, (∀ n ∈ f, (Lit.int .i8 n).wf = true) ∧ ∃ v, w.cell? (a.add i) = some v ∧ SlV w v f := by
      intro i hi
      have h1 := hel i hi
      have h2 : i < elems.length := by omega
      rw [hc, List.getElem?_eq_getElem h2, Option.bind_eq_some_iff] at h1
      obtain ⟨cs', hcs, hy⟩ := h1
      obtain ⟨A1, f, c1, rfl, S1, hw⟩ := row_of_trod he he' hc' hy
      obtain ⟨_, hcl, hcell⟩ := World.cells?_some hcs
      have := hcell 0 (by omega)
      rw [Addr.add_add] at this
      refine ⟨f, hw, _, ?_, A1, c1, rfl, S1⟩
      simpa using this
    have pick : ∃ F : Nat → List Int, ∀ i, i < len → (∀ n ∈ F i, (Lit.int .i8 n).wf = true) ∧ ∃ v, w.cell? (a.add i) = some v ∧ SlV w v (F i) :=
      ⟨fun i => if h : i < len then Classical.choose (each i h) else [], fun i hi => by simp only [dif_pos hi]; exact Classical.choose_spec (each i hi)⟩
    obtain ⟨F, hF⟩ := pick
    have hlF : ((List.range len).map F).length = len := by simp
    refine ⟨some a, (List.range len).map F, cap, by rw [hlF], And.intro (by rw [hlF]; simp only [maxLen] at hm; omega) fun hp => ?_, ?_⟩
    · rw [hlF] at hp
      obtain ⟨bb, off, spot⟩ := a
      obtain ⟨_, v0, h0, _⟩ := hF 0 hp
      have hspot : spot = none := by simpa [Addr.add] using World.cell?_spot h0
      subst hspot
      refine ⟨bb, off, rfl, fun i hi => ?_⟩
      rw [hlF] at hi
      obtain ⟨_, v1, h1, h2⟩ := hF i hi
      rw [Addr.add_mid] at h1
      refine ⟨v1, h1, ?_⟩
      have : nthH ((List.range len).map F) i = F i := by simp [nthH, hi]
      rw [this]; exact h2
    · intro f hf
      obtain ⟨i, hi, rfl⟩ := List.mem_map.1 hf
      exact (hF i (List.mem_range.1 hi)).1
end
end Go.Proofs.Ytllplgjlpndpfaa
