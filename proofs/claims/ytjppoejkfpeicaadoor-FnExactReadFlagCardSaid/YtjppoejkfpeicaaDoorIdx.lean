/- An array by value, at an index that is in it. -/
import Derived.Test.YtjppoejkfpeicaaDoorF8
set_option linter.unusedVariables false
namespace Go.Proofs.YtjppoejkfpeicaaDoor
open Go.RowKit

/-- An array of one-cell elements, by value, at an index that is in it. -/
theorem run_index_in {P : Program} {t e : TypeId} {n : Nat} {cs : List Value} (h : P.underlying t = some (.array n e)) (ha : (P.info? e).map (·.size) = some 1) (hag : ∀ w, (isAgg e).run P w = .ok false w) (hn : cs.length = n)
    (k : Nat) (hk : k < n) (kd : IntKind) (w : World) : (Instr.index t (.agg cs.toArray) (.int kd (k : Int))).run P w = .ok (cs.getD k undef) w := by
  have h1 : (0 : Int) ≤ (k : Int) ∧ (k : Int) < (n : Int) := by omega
  have hs : (sizeOf e).run P w = .ok 1 w := by
    cases hq : P.info? e with
    | none => simp [hq] at ha
    | some i => simp [hq] at ha; simp [sizeOf, typeInfo, hq, ha]
  simp only [Instr.index, asIntOf, Sem.run_bind, Sem.run_pure, Result.andThen_ok, run_underlying h, if_pos h1, hs]
  have hl : k < cs.length := by omega
  simp [Go.part, hag, List.getD_eq_getElem?_getD, List.getElem?_eq_getElem hl]

theorem index_fl (xs : List Int) (hx : xs.length = 24) (k : Nat) (hk : k < 24) (w : World) : (Instr.index 23 (.agg (u8s xs).toArray) (.int .i64 (k : Int))).run Tryd.prog w = .ok (.int .u8 (nth xs k)) w := by
  rw [run_index_in Tryd.underlying23 (by kernel_rfl) (fun w => Tryd.isAgg5 w) (by rw [u8s_length]; exact hx) k hk]
  rw [List.getD_eq_getElem?_getD, u8s_get xs k (by omega)]; rfl
end Go.Proofs.YtjppoejkfpeicaaDoor
