/- Slices of flags among a law's arguments. -/
import Derived.Test.YtjppoejkfpeicaaRow
import Derived.Test.YtjppoejkfpeicaaSet
set_option linter.unusedVariables false
namespace Go.Proofs.Ytjppoejkfpeicaa
open Go.ChangeShapes Go.WideShapes Go.ChangeAt Go.RowKit
section
variable {H : Type} {enc : TypeId × Value → H} {P : Program}
/-- The cells of an array of bytes. -/
theorem bytes_of_trod {n : Nat} {t e : TypeId} (ht : P.underlying t = some (.array n e)) (he : P.underlying e = some (.int .u8)) (hc : P.cellsOf e = 1) (hn : P.cellsOf t = n)
    {w : World} {base : Nat} {spare : Nat → Bool} {held : Bool} {fuel : Nat} {cs : List Value} {y : DataW H × List MemPlace} (h : DataW.trod enc P w base spare held fuel t cs = some y) :
    ∃ f : List Int, cs = u8s f ∧ f.length = n ∧ ∀ x ∈ f, 0 ≤ x ∧ x ≤ 255 := by
  obtain ⟨xs, m, _, _, hl, hxl, hi⟩ := DataW.trod_array ht h
  have key : ∀ i, (hi' : i < cs.length) → ∃ x : Int, cs[i] = .int .u8 x ∧ 0 ≤ x ∧ x ≤ 255 := by
    intro i hi'
    have h1 := hi i (by rw [hl, hn] at hi'; exact hi')
    have h2 : ((cs.drop (i * P.cellsOf e)).take (P.cellsOf e)) = [cs[i]] := by
      rw [hc, Nat.mul_one, List.drop_eq_getElem_cons hi']; rfl
    rw [h2] at h1
    have h3 : i < xs.length := by rw [hxl]; rw [hl, hn] at hi'; exact hi'
    rw [List.getElem?_eq_getElem h3] at h1
    obtain ⟨x, hx, _, hw⟩ := DataW.trod_int he h1
    exact ⟨x, by simpa using hx, bounds_u8 hw⟩
  refine ⟨cs.map intOf, ?_, by rw [List.length_map, hl, hn], ?_⟩
  · unfold u8s
    apply List.ext_getElem
    · simp
    · intro i h1 h2
      obtain ⟨x, hx, _⟩ := key i h1
      simp only [List.getElem_map, hx, intOf]
  · intro x hx
    obtain ⟨v, hv, rfl⟩ := List.mem_map.1 hx
    obtain ⟨i, hi1, rfl⟩ := List.mem_iff_getElem.1 hv
    obtain ⟨y, hy, h0, h1⟩ := key i hi1
    rw [hy]; exact ⟨h0, h1⟩
theorem open_flags {t e e' : TypeId} (ht : P.underlying t = some (.slice e)) (he : P.underlying e = some (.array 24 e')) (he' : P.underlying e' = some (.int .u8)) (hc' : P.cellsOf e' = 1) (hc : P.cellsOf e = 24)
    {w : World} {r : Reach} {b : Nat} {v : Value} {base : Nat} {spare : Nat → Bool} {held : Bool} {d : DataW H} {p : List MemPlace}
    (hv : Value.okWide P w r b t v) (h : DataW.Trod enc P w base spare held t v d p) :
    ∃ (A : Option Addr) (fs : List (List Int)) (cap : Nat), v = .slice A fs.length cap ∧ SlF w A fs := by
  obtain ⟨A, len, cap, rfl⟩ := okWide_slice ht hv
  obtain ⟨fuel, hf⟩ := h
  rcases DataW.trod_slice ht hf with ⟨hcs, _⟩ | ⟨a, l, c, elems, rest, n, _, hcs, _, hb, hl, hm, hlen, hel, _, _⟩
  · simp [Value.cells] at hcs
    obtain ⟨rfl, rfl, rfl⟩ := hcs
    exact ⟨none, [], 0, rfl, ⟨by simp, (fun f hf => by cases hf), (fun f hf => by cases hf), (fun hp => by simp at hp)⟩⟩
  · simp [Value.cells] at hcs
    obtain ⟨rfl, rfl, rfl⟩ := hcs
    have each : ∀ i, i < len → ∃ f : List Int, f.length = 24 ∧ (∀ x ∈ f, 0 ≤ x ∧ x ≤ 255) ∧ ∀ j, j < 24 → w.cell? (a.add (i * 24 + j)) = (u8s f)[j]? := by
      intro i hi
      have h1 := hel i hi
      have h2 : i < elems.length := by omega
      rw [hc, List.getElem?_eq_getElem h2, Option.bind_eq_some_iff] at h1
      obtain ⟨cs', hcs, hy⟩ := h1
      obtain ⟨f, rfl, hf24, hfb⟩ := bytes_of_trod he he' hc' hc hy
      obtain ⟨_, hcl, hcell⟩ := World.cells?_some hcs
      refine ⟨f, hf24, hfb, fun j hj => ?_⟩
      have := hcell j hj
      rw [Addr.add_add] at this
      exact this
    have pick : ∃ F : Nat → List Int, ∀ i, i < len → (F i).length = 24 ∧ (∀ x ∈ F i, 0 ≤ x ∧ x ≤ 255) ∧ ∀ j, j < 24 → w.cell? (a.add (i * 24 + j)) = (u8s (F i))[j]? :=
      ⟨fun i => if h : i < len then Classical.choose (each i h) else [], fun i hi => by simp only [dif_pos hi]; exact Classical.choose_spec (each i hi)⟩
    obtain ⟨F, hF⟩ := pick
    have hlF : ((List.range len).map F).length = len := by simp
    refine ⟨some a, (List.range len).map F, cap, by rw [hlF], by rw [hlF]; simp only [maxLen] at hm; omega, ?_, ?_, fun hp => ?_⟩
    · intro f hf
      obtain ⟨i, hi, rfl⟩ := List.mem_map.1 hf
      exact (hF i (List.mem_range.1 hi)).1
    · intro f hf
      obtain ⟨i, hi, rfl⟩ := List.mem_map.1 hf
      exact (hF i (List.mem_range.1 hi)).2.1
    · rw [hlF] at hp
      obtain ⟨bb, off, spot⟩ := a
      have h0 := (hF 0 hp).2.2 0 (by omega)
      have h24 := (hF 0 hp).1
      rw [u8s_get _ 0 (by omega)] at h0
      have hspot : spot = none := by simpa [Addr.add] using World.cell?_spot h0
      subst hspot
      refine ⟨bb, off, rfl, fun i f hif j v hjv => ?_⟩
      have hi : i < len := by
        have := (List.getElem?_eq_some_iff.1 hif).1; rwa [hlF] at this
      have hfi : f = F i := by
        rw [List.getElem?_map, List.getElem?_range hi] at hif; simpa using hif.symm
      subst hfi
      have hj : j < 24 := by
        have := (List.getElem?_eq_some_iff.1 hjv).1
        rwa [u8s_length, (hF i hi).1] at this
      have := (hF i hi).2.2 j hj
      rw [Addr.add_mid, hjv] at this
      rw [Nat.add_assoc]; exact this
end
end Go.Proofs.Ytjppoejkfpeicaa
