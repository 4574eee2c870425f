/- Contracts: ranges, colours, valid flags; slices.IndexFunc and ContainsFunc over bytes. -/
import Derived.Test.YtjppoejkfpeicaaDoorA
set_option linter.unusedVariables false
namespace Go.Proofs.YtjppoejkfpeicaaDoor
open Go.RowKit

/-- A call of g enters it. -/
theorem enters {P : Program} {f : FuncId} {fn : Func} {c : Code} (hf : P.funcs[f]? = some fn) (hname : (fn.name == "runtime.NumGoroutine") = false) (hb : fn.body = some c) (args : Array Value) (w : World) : (callFunc f args).run P w = .ok (.enter f args) w := by
  have h1 : fn.name ≠ "runtime.NumGoroutine" := by simpa using hname
  simp [callFunc, hf, h1, hb, mark]

def inR (n lo hi : Int) : Bool := decide (lo ≤ n) && decide (n ≤ hi)
theorem inR_iff (n lo hi : Int) : inR n lo hi = true ↔ lo ≤ n ∧ n ≤ hi := by simp [inR]
theorem inR_not (n lo hi : Int) : inR n lo hi = false ↔ ¬ (lo ≤ n ∧ n ≤ hi) := by rw [← inR_iff]; cases inR n lo hi <;> simp

theorem within_any (n lo hi : Int) (w : World) : Calls Tryd.prog 67 #[.int .i64 n, .int .i64 lo, .int .i64 hi] w fun e w' => e = .returned (.bool (inR n lo hi)) ∧ w = w' := by
  by_cases h1 : lo ≤ n <;> by_cases h2 : n ≤ hi
  all_goals
    go_enter Tryd.func67, Tryd.ntmps67
    go_wp2
    go_ret
    exact ⟨by simp [inR, *], rfl⟩
theorem l00In_any (n lo hi : Int) (w : World) : Calls Tryd.prog 78 #[.int .i64 n, .int .i64 lo, .int .i64 hi] w fun e w' => e = .returned (.bool (inR n lo hi)) ∧ w = w' := by
  by_cases h1 : lo ≤ n <;> by_cases h2 : n ≤ hi
  all_goals
    go_enter Tryd.func78, Tryd.ntmps78
    go_wp2
    go_ret
    exact ⟨by simp [inR, *], rfl⟩
theorem isColour_any (n : Int) (w : World) : Calls Tryd.prog 51 #[.int .i64 n] w fun e w' => e = .returned (.bool (inR n 0 5)) ∧ w = w' := by
  go_enter Tryd.func51, Tryd.ntmps51
  go_wp2_with (go_at_call 67; refine (within_any _ _ _ _).mono ?_; rintro e w' ⟨rfl, rfl⟩)
  go_ret
  exact ⟨rfl, rfl⟩
theorem l01Colour_any (n : Int) (w : World) : Calls Tryd.prog 77 #[.int .i64 n] w fun e w' => e = .returned (.bool (inR n 0 5)) ∧ w = w' := by
  go_enter Tryd.func77, Tryd.ntmps77
  go_wp2_with (go_at_call 78; refine (l00In_any _ _ _ _).mono ?_; rintro e w' ⟨rfl, rfl⟩)
  go_ret
  exact ⟨rfl, rfl⟩

theorem all_succ {p : Nat → Prop} {k : Nat} (h : ∀ j, j < k → p j) (hk : p k) : ∀ j, j < k + 1 → p j := by
  intro j hj
  rcases Nat.lt_or_eq_of_le (Nat.le_of_lt_succ hj) with h' | rfl
  · exact h j h'
  · exact hk

/-- A flag is valid: its 24 colours are colours. -/
def vf (xs : List Int) : Bool := xs.all fun x => decide (x ≤ 5)

/-- spec.l01Ok, at a flag in memory: 24 bytes at o in block b. -/
theorem l01Ok_any (xs : List Int) (hl : xs.length = 24) (b o : Nat) (w : World) (hr : w.rangeAt b o (u8s xs)) :
    Calls Tryd.prog 35 #[.pointer (some ⟨b, o, none⟩)] w fun e w' => e = .returned (.bool (vf xs)) ∧ w = w' := by
  go_enter Tryd.func35, Tryd.ntmps35
  go_wp2
  go_loop [3] (fun i => ∃ k : Nat, k ≤ 24 ∧ i = .int .i64 k ∧ As (∀ j, j < k → nth xs j ≤ 5)) (fun i => 24 - (intOf i).toNat)
  case atStart => exact ⟨0, by omega, rfl, ⟨fun j hj => by omega⟩⟩
  case round =>
    obtain ⟨k, hk, rfl, H⟩ := hrel
    by_cases hlt : k < 24
    · have c0 : w.cell? ⟨b, o + k, none⟩ = some (.int .u8 (nth xs k)) := hr k _ (by rw [u8s_get xs k (by omega)])
      by_cases h5 : nth xs k ≤ 5
      · go_wp2
        go_round
        case rel => exact ⟨k + 1, by omega, by go_num, ⟨all_succ H.out h5⟩⟩
        case measure => simp [intOf]; omega
      · go_wp2
        go_ret
        have : vf xs = false := by
          unfold vf; rw [List.all_eq_false]
          exact ⟨nth xs k, nth_mem xs k (by omega), by simpa using h5⟩
        exact ⟨ret_b this.symm, rfl⟩
    · obtain rfl : k = 24 := by omega
      go_wp2
      go_ret
      have : vf xs = true := by
        unfold vf; rw [List.all_eq_true]
        intro x hx
        obtain ⟨i, hi, rfl⟩ := List.mem_iff_getElem.1 hx
        rw [nth_get xs i hi]
        simpa using H.out i (by omega)
      exact ⟨ret_b this.symm, rfl⟩
end Go.Proofs.YtjppoejkfpeicaaDoor
