/- How a law's arguments are opened: what the walk is told of each, and that they read behind the call as before. -/
import Derived.Test.YtjppoejkfpeicaaDoorRows
import Derived.Test.YtjppoejkfpeicaaDoorA
import Derived.WalkKit
import Derived.ProofKit
import Derived.OpenShut
import Derived.ShutString
import Derived.ChangeOld
import Derived.Below
set_option linter.unusedVariables false
namespace Go.Proofs.YtjppoejkfpeicaaDoor
open Go.ChangeShapes Go.WideShapes Go.ChangeAt Go.RowKit

theorem own : ownKnob Tryd.prog.godebug = none := by kernel_rfl
theorem laidOut : laidOutB Tryd.prog = true := by kernel_rfl

section
variable {H : Type} {enc : TypeId × Value → H} {P : Program}
theorem trodAll_below (hl : laidOutB P = true) {W W' : World} (hb : Below W.heap.size W W') : ∀ {ts : List TypeId} {vs : List Value} {ds : List (DataW H)} {p : List MemPlace},
    ts.all (fun t => P.readableRec t && decide (t < P.types.size)) = true → DataW.TrodAll enc P W 0 (fun _ => true) true ts vs ds p → (∀ x ∈ p, x.block < W.heap.size) →
    DataW.TrodAll enc P W' 0 (fun b => decide (b < W.heap.size)) true ts vs ds p
  | [], [], [], p, _, h, _ => h
  | t :: ts, v :: vs, d :: ds, p, hts, h, hlt => by
    obtain ⟨p1, p2, h1, h2, rfl⟩ := h
    simp only [List.all_cons, Bool.and_eq_true, decide_eq_true_eq] at hts
    exact ⟨p1, p2, Below.trod hl hts.1.1 hts.1.2 h1 hb (fun x hx => hlt x (by simp [hx])), trodAll_below hl hb (by simpa using hts.2) h2 (fun x hx => hlt x (by simp [hx])), rfl⟩
  | [], _ :: _, _, _, _, h, _ => h.elim
  | [], [], _ :: _, _, _, h, _ => h.elim
  | _ :: _, [], _, _, _, h, _ => h.elim
  | _ :: _, _ :: _, [], _, _, h, _ => h.elim

/-- An array of n bytes, by value. -/
theorem open_bytes {n : Nat} {t e : TypeId} (ht : P.underlying t = some (.array n e)) (he : P.underlying e = some (.int .u8)) (hc : P.cellsOf e = 1) (hn : P.cellsOf t = n)
    {w : World} {r : Reach} {b : Nat} {v : Value} {base : Nat} {spare : Nat → Bool} {held : Bool} {d : DataW H} {p : List MemPlace}
    (hv : Value.okWide P w r b t v) (h : DataW.Trod enc P w base spare held t v d p) :
    ∃ xs : List Int, v = fl xs ∧ xs.length = n ∧ ∀ x ∈ xs, 0 ≤ x ∧ x ≤ 255 := by
  simp only [Value.okWide, ht] at hv
  obtain ⟨cs, rfl, hsz, _⟩ := hv
  obtain ⟨fuel, hf⟩ := h
  simp only [Value.cells] at hf
  obtain ⟨xs, m, _, _, hl, hxl, hi⟩ := DataW.trod_array ht hf
  have key : ∀ i, (hi' : i < cs.toList.length) → ∃ x : Int, cs.toList[i] = .int .u8 x ∧ 0 ≤ x ∧ x ≤ 255 := by
    intro i hi'
    have h1 := hi i (by rw [hl, hn] at hi'; exact hi')
    have h2 : ((cs.toList.drop (i * P.cellsOf e)).take (P.cellsOf e)) = [cs.toList[i]] := by
      rw [hc, Nat.mul_one, List.drop_eq_getElem_cons hi']; rfl
    rw [h2] at h1
    have h3 : i < xs.length := by rw [hxl]; rw [hl, hn] at hi'; exact hi'
    rw [List.getElem?_eq_getElem h3] at h1
    obtain ⟨x, hx, _, hw⟩ := DataW.trod_int he h1
    refine ⟨x, by simpa using hx, ?_⟩
    have := bounds_u8 hw
    exact this
  refine ⟨cs.toList.map intOf, ?_, by rw [List.length_map, hl, hn], ?_⟩
  · unfold fl u8s
    congr 1
    apply Array.ext'
    simp only [List.map_map]
    apply List.ext_getElem
    · simp
    · intro i h1 h2
      obtain ⟨x, hx, _⟩ := key i (by simpa using h1)
      simp only [List.getElem_map, Function.comp, hx, intOf]
  · intro x hx
    obtain ⟨v, hv, rfl⟩ := List.mem_map.1 hx
    obtain ⟨i, hi1, rfl⟩ := List.mem_iff_getElem.1 hv
    obtain ⟨y, hy, h0, h1⟩ := key i hi1
    rw [hy]; exact ⟨h0, h1⟩

/-- What the walk is told of a slice of numbers that came in. -/
def Ints (k : IntKind) (w : World) (A : Option Addr) (len cap : Nat) (zs : List Int) : Prop :=
  zs.length = len ∧ len ≤ 9223372036854775807 ∧ (0 < len → ∃ b o, A = some ⟨b, o, none⟩ ∧ w.rangeAt b o (zs.map (Value.int k))) ∧ ∀ n ∈ zs, (Lit.int k n).wf = true
end
end Go.Proofs.YtjppoejkfpeicaaDoor
