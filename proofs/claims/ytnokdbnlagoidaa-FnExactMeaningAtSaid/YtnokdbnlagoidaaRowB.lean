/- Books among a law's arguments. -/
import Derived.Test.YtnokdbnlagoidaaRow
import Derived.Test.YtnokdbnlagoidaaBk
set_option linter.unusedVariables false
namespace Go.Proofs.Ytnokdbnlagoidaa
open Go.ChangeShapes Go.WideShapes Go.ChangeAt Go.RowKit
section
variable {H : Type} {enc : TypeId × Value → H} {P : Program}
/-- The one cell of a slice of strings. -/
theorem strs_of_trod {t e : TypeId} (ht : P.underlying t = some (.slice e)) (he : P.underlying e = some .string) (hc : P.cellsOf e = 1)
    {w : World} {base : Nat} {spare : Nat → Bool} {held : Bool} {fuel : Nat} {cs : List Value} {y : DataW H × List MemPlace} (hf : DataW.trod enc P w base spare held fuel t cs = some y) :
    ∃ (A : Option Addr) (ss : List ByteArray) (cap : Nat), cs = [.slice A ss.length cap] ∧ SlS w A ss := by
  rcases DataW.trod_slice ht hf with ⟨hcs, _⟩ | ⟨a, len, c, elems, rest, n, _, hcs, _, hb, hl, hm, hlen, hel, _, _⟩
  · exact ⟨none, [], 0, hcs, by simp, (fun s hs => by cases hs), (fun hp => by simp at hp)⟩
  · have each : ∀ i, i < len → ∃ f : ByteArray, f.size ≤ maxLen ∧ w.cell? (a.add i) = some (.string f) := by
      intro i hi
      have h1 := hel i hi
      have h2 : i < elems.length := by omega
      rw [hc, List.getElem?_eq_getElem h2, Option.bind_eq_some_iff] at h1
      obtain ⟨cs', hcs, hy⟩ := h1
      obtain ⟨f, rfl, _, hw⟩ := DataW.trod_string he hy
      obtain ⟨_, hcl, hcell⟩ := World.cells?_some hcs
      have := hcell 0 (by omega)
      rw [Addr.add_add] at this
      refine ⟨f, hw, ?_⟩
      simpa using this
    have pick : ∃ F : Nat → ByteArray, ∀ i, i < len → (F i).size ≤ maxLen ∧ w.cell? (a.add i) = some (.string (F i)) :=
      ⟨fun i => if h : i < len then Classical.choose (each i h) else ⟨#[]⟩, fun i hi => by simp only [dif_pos hi]; exact Classical.choose_spec (each i hi)⟩
    obtain ⟨F, hF⟩ := pick
    have hlF : ((List.range len).map F).length = len := by simp
    refine ⟨some a, (List.range len).map F, c, by rw [hlF]; exact hcs, by rw [hlF]; simp only [maxLen] at hm; omega, (fun s hs => ?_), (fun hp => ?_)⟩
    · obtain ⟨i, hi, rfl⟩ := List.mem_map.1 hs
      exact (hF i (List.mem_range.1 hi)).1
    · rw [hlF] at hp
      obtain ⟨bb, off, spot⟩ := a
      have h0 := (hF 0 hp).2
      have hspot : spot = none := by simpa [Addr.add] using World.cell?_spot h0
      subst hspot
      refine ⟨bb, off, rfl, fun j u hu => ?_⟩
      unfold strs at hu
      rw [List.map_map, List.getElem?_map, Option.map_eq_some_iff] at hu
      obtain ⟨i, hi, rfl⟩ := hu
      rw [List.getElem?_eq_some_iff] at hi
      obtain ⟨hi1, hi2⟩ := hi
      simp at hi1 hi2
      subst hi2
      have := (hF j hi1).2
      rwa [Addr.add_mid] at this
theorem open_book {t e : TypeId} {f0 f1 f2 f3 : Field} (ht : P.underlying t = some (.struct #[f0, f1, f2, f3])) (o0 : f0.offset = 0) (o1 : f1.offset = 1) (o2 : f2.offset = 2) (o3 : f3.offset = 3) (_hx : True = True)
    (h0 : P.underlying f0.type = some (.int .i8)) (h1 : P.underlying f1.type = some (.int .i8)) (h2 : P.underlying f2.type = some (.int .i8)) (h3 : P.underlying f3.type = some (.slice e)) (he : P.underlying e = some .string) (hc : P.cellsOf e = 1)
    (ci : P.cellsOf f0.type = 1 ∧ P.cellsOf f1.type = 1 ∧ P.cellsOf f2.type = 1) (cs3 : P.cellsOf f3.type = 1) (ct : P.cellsOf t = 4)
    {w : World} {r : Reach} {bb : Nat} {v : Value} {base : Nat} {spare : Nat → Bool} {held : Bool} {d : DataW H} {p : List MemPlace}
    (hv : Value.okWide P w r bb t v) (h : DataW.Trod enc P w base spare held t v d p) :
    ∃ (A : Option Addr) (b : Bok) (c : Nat), v = bok b A c ∧ SlS w A b.ps ∧ bokR b := by
  obtain ⟨cs, rfl, hsz⟩ := okWide_struct ht hv
  obtain ⟨fuel, hf⟩ := h
  simp only [Value.cells] at hf
  obtain ⟨xs, n, _, _, hl, hxl, hi⟩ := DataW.trod_struct ht hf
  have hx4 : xs.length = 4 := hxl
  rw [ct] at hl
  obtain ⟨a0, a1, a2, a3, hcs⟩ : ∃ a0 a1 a2 a3, cs.toList = [a0, a1, a2, a3] := by
    match hcl : cs.toList, hl with
    | [a0, a1, a2, a3], _ => exact ⟨a0, a1, a2, a3, rfl⟩
  have g : ∀ i f, (#[f0, f1, f2, f3] : Array Field)[i]? = some f → i < 4 → ∃ y, DataW.trod enc P w base spare held n f.type ((cs.toList.drop f.offset).take (P.cellsOf f.type)) = some y := fun i f hf' hi' => by
    have := hi i f hf'
    rw [List.getElem?_eq_getElem (by omega)] at this
    exact ⟨_, this⟩
  obtain ⟨y0, k0⟩ := g 0 f0 rfl (by omega)
  obtain ⟨y1, k1⟩ := g 1 f1 rfl (by omega)
  obtain ⟨y2, k2⟩ := g 2 f2 rfl (by omega)
  obtain ⟨y3, k3⟩ := g 3 f3 rfl (by omega)
  rw [hcs, o0, ci.1] at k0
  rw [hcs, o1, ci.2.1] at k1
  rw [hcs, o2, ci.2.2] at k2
  rw [hcs, o3, cs3] at k3
  obtain ⟨n0, e0, _, w0⟩ := DataW.trod_int h0 k0
  obtain ⟨n1, e1, _, w1⟩ := DataW.trod_int h1 k1
  obtain ⟨n2, e2, _, w2⟩ := DataW.trod_int h2 k2
  obtain ⟨A, ss, cap, e3, S⟩ := strs_of_trod h3 he hc k3
  simp at e0 e1 e2 e3
  refine ⟨A, ⟨n0, n1, n2, ss⟩, cap, ?_, S, bounds_i8 w0, bounds_i8 w1, bounds_i8 w2⟩
  unfold bok bokC
  congr 1
  apply Array.ext'
  rw [hcs, e0, e1, e2, e3]
end
end Go.Proofs.Ytnokdbnlagoidaa
