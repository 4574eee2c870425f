/- Contracts: LooksLike, both sides. -/
import Derived.Test.YtjppoejkfpeicaaG16
import Derived.Test.YtjppoejkfpeicaaF12
set_option linter.unusedVariables false
set_option linter.unusedSimpArgs false
namespace Go.Proofs.Ytjppoejkfpeicaa
open Go.RowKit

section
variable {P : Program} {ops : Array Oper} {Q : Exit → Act → World → Prop} {S : World → Prop} {listed : Array Bool} {ts : List Value} {ds : List Deferred} {w : World} {fuel : Nat}
/-- The one operation that may come up is not wanted. -/
theorem hSkip (i d : Nat) {oi : Oper} (hi : ops[i]? = some oi) (hd : oi.dst = some d) (hr : Region.ready .any ops listed = [i])
    (hw : Region.wanted oi (yielded ops ts.toArray) = false) (hS : S w)
    (h : wpAnyH P .any ops Q S fuel (listed.setIfInBounds i true) ⟨(ts.set d undef).toArray, ds⟩ w) : wpAnyH P .any ops Q S (fuel + 1) listed ⟨ts.toArray, ds⟩ w := by
  refine wpAnyH_ready (rs := [i]) hr (by simp) (AllReadyH.cons hi (fun K hK => ?_) AllReadyH.nil)
  rw [if_neg (by rw [hw]; simp)]
  refine hK.out _ _ hS (fun _ => ?_)
  rw [hd]
  simpa [Act.put] using h
end

theorem vf_mirror {xs : List Int} (hx : xs.length = 24) (h : vf xs = true) : vf (mirrorL xs) = true := by
  unfold vf; rw [List.all_eq_true]
  intro x hx'
  obtain ⟨i, hi, rfl⟩ := List.mem_map.1 hx'
  rw [List.mem_range] at hi
  rw [decide_eq_true_eq]
  show mirF xs i ≤ 5
  exact vf_nth h _ (by omega)
theorem bytes_mirror {xs : List Int} (h : Bytes xs) : Bytes (mirrorL xs) := by
  intro x hx'
  obtain ⟨i, hi, rfl⟩ := List.mem_map.1 hx'
  exact h.nth _

/-- In how many blocks two flags differ from afar. -/
def farD (xs ys : List Int) : Int := diffs (blurL xs) (blurL ys) 6
def looksB (xs ys : List Int) (bt : Bool) : Bool := (vf xs && vf ys) && (farD xs ys == 0 || bt && farD (mirrorL xs) ys == 0)
theorem ret_b2 {a b : Bool} {n m : Int} (h : a = b) (h' : n = m) : Ending.returned (.tuple #[.bool a, .int .i64 n]) = .returned (.tuple #[.bool b, .int .i64 m]) := by rw [h, h']

end Go.Proofs.Ytjppoejkfpeicaa
