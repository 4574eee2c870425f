/- Contracts: impl.nearest over any closure. -/
import Derived.Test.YtjppoejkfpeicaaG19
set_option linter.unusedVariables false
set_option linter.unusedSimpArgs false
namespace Go.Proofs.Ytjppoejkfpeicaa
open Go.RowKit

theorem results_tmp4 {fn : Func} {t u v x : Tmp} (h : fn.results = #[.tmp t, .tmp u, .tmp v, .tmp x]) (tmps : Array Value) (P : Program) (w : World) :
    (results fn tmps).run P w = .ok (.tuple #[tmps.getD t undef, tmps.getD u undef, tmps.getD v undef, tmps.getD x undef]) w := by
  simp [results, h]

/-- One pair is looked at. -/
def stepN (d : Nat → Nat → Int) (i k : Nat) (s : Int × Int × Int) : Int × Int × Int := if s.2.2 < 0 ∨ d i k < s.2.2 then ((i : Int), (k : Int), d i k) else s
/-- The first j pairs of row i. -/
def rowN (d : Nat → Nat → Int) (i : Nat) : Nat → Int × Int × Int → Int × Int × Int
  | 0, s => s
  | j + 1, s => stepN d i (i + 1 + j) (rowN d i j s)
/-- The first i rows, from s0. -/
def allN (d : Nat → Nat → Int) (n : Nat) (s0 : Int × Int × Int) : Nat → Int × Int × Int
  | 0 => s0
  | i + 1 => rowN d i (n - (i + 1)) (allN d n s0 i)
def none3 : Int × Int × Int := (0, 0, -1)

set_option maxHeartbeats 1000000 in
theorem nearest_any (g : Nat) (lb : Array Value) (eg : ∀ args w, (callFunc g args).run Try.prog w = .ok (.enter g args) w) (n : Nat) (hn : n ≤ 1000000) (d : Nat → Nat → Int) (w : World)
    (hp : ∀ (W : World) (i k : Nat), i < k → k < n → Below w.heap.size w W → Calls Try.prog g (#[.int .i64 (i : Int), .int .i64 (k : Int)] ++ lb) W fun e w' => e = .returned (.int .i64 (d i k)) ∧ Below W.heap.size W w') :
    Calls Try.prog 75 #[.int .i64 n, .func (.func g) #[] lb] w fun e w' =>
      e = .returned (.tuple #[.int .i64 (allN d n none3 n).1, .int .i64 (allN d n none3 n).2.1, .int .i64 (allN d n none3 n).2.2, .bool (decide (0 ≤ (allN d n none3 n).2.2))]) ∧ Below w.heap.size w w' := by
  go_enter Try.func75, Try.ntmps75
  go_wp2
  go_loopw [8, 9, 10, 15] (fun va vb vl vi wr => ∃ i : Nat, i ≤ n ∧ vi = .int .i64 i ∧ va = .int .i64 (allN d n none3 i).1 ∧ vb = .int .i64 (allN d n none3 i).2.1 ∧ vl = .int .i64 (allN d n none3 i).2.2 ∧ Below w.heap.size w wr) (fun _ _ _ vi _ => n - (intOf vi).toNat)
  case atStart => exact ⟨0, by omega, rfl, rfl, rfl, rfl, Below.refl _ _⟩
  case round =>
    obtain ⟨i, hi, rfl, rfl, rfl, rfl, hb⟩ := hrel
    by_cases hlt : i < n
    · have hlt' : (i : Int) < (n : Int) := by omega
      have hS := As.mk (show allN d n none3 (i + 1) = rowN d i (n - (i + 1)) (allN d n none3 i) from rfl)
      generalize allN d n none3 i = s0 at *
      go_wp2
      go_loopw [8, 9, 10, 12] (fun va vb vl vk wr => ∃ j : Nat, i + 1 + j ≤ n ∧ vk = .int .i64 ((i + 1 + j : Nat) : Int) ∧ va = .int .i64 (rowN d i j s0).1 ∧ vb = .int .i64 (rowN d i j s0).2.1 ∧ vl = .int .i64 (rowN d i j s0).2.2 ∧ Below w.heap.size w wr) (fun _ _ _ vk _ => n - (intOf vk).toNat)
      case atStart => exact ⟨0, by omega, by simp, rfl, rfl, rfl, hb⟩
      case round =>
        obtain ⟨j, hj, rfl, rfl, rfl, rfl, hb⟩ := hrel
        have hR := As.mk (show rowN d i (j + 1) s0 = stepN d i (i + 1 + j) (rowN d i j s0) from rfl)
        by_cases hlt2 : i + 1 + j < n
        · have hlt2' : ((i + 1 + j : Nat) : Int) < (n : Int) := by omega
          have hcall := hp wr i (i + 1 + j) (by omega) hlt2 hb
          have hT := As.mk (show stepN d i (i + 1 + j) (rowN d i j s0) = if (rowN d i j s0).2.2 < 0 ∨ d i (i + 1 + j) < (rowN d i j s0).2.2 then ((i : Int), ((i + 1 + j : Nat) : Int), d i (i + 1 + j)) else rowN d i j s0 from rfl)
          have hk1 : ((i + 1 + j : Nat) : Int) + 1 = ((i + 1 + (j + 1) : Nat) : Int) := by omega
          generalize hk : i + 1 + j = k at *
          generalize d i k = dk at *
          generalize rowN d i j s0 = s at *
          go_wp2_with (fail)
          refine hcall.mono ?_; rintro e w1 ⟨rfl, hb1⟩
          have hb2 := bl_call hb hb1
          clear hcall hp hb1
          by_cases ht : s.2.2 < 0 ∨ dk < s.2.2
          · have hN : rowN d i (j + 1) s0 = ((i : Int), ((k : Nat) : Int), dk) := by rw [hR.out, hT.out, if_pos ht]
            by_cases h0 : s.2.2 < 0
            · go_wp2
              go_roundw
              case rel => exact ⟨j + 1, by omega, congrArg (Value.int IntKind.i64) (by omega), by rw [hN], by rw [hN], by rw [hN], hb2⟩
              case measure => simp [intOf]; omega
            · have h1 : dk < s.2.2 := by rcases ht with h | h; exact absurd h h0; exact h
              go_wp2
              go_roundw
              case rel => exact ⟨j + 1, by omega, congrArg (Value.int IntKind.i64) (by omega), by rw [hN], by rw [hN], by rw [hN], hb2⟩
              case measure => simp [intOf]; omega
          · have hN : rowN d i (j + 1) s0 = s := by rw [hR.out, hT.out, if_neg ht]
            have h0 : ¬ s.2.2 < 0 := fun h => ht (.inl h)
            have h1 : ¬ dk < s.2.2 := fun h => ht (.inr h)
            go_wp2
            go_roundw
            case rel => exact ⟨j + 1, by omega, congrArg (Value.int IntKind.i64) (by omega), by rw [hN], by rw [hN], by rw [hN], hb2⟩
            case measure => simp [intOf]; omega
        · have hj' : j = n - (i + 1) := by omega
          subst hj'
          rw [← hS.out]
          have e1 : ¬ ((i + 1 + (n - (i + 1)) : Nat) : Int) < (n : Int) := by omega
          go_wp2
          go_roundw
          case rel => exact ⟨i + 1, by omega, by go_num, rfl, rfl, rfl, hb⟩
          case measure => simp [intOf]; omega
    · obtain rfl : i = n := by omega
      go_wp2
      refine bodyPost_ret (results_tmp4 rfl _ _ _) rfl ?_
      exact ⟨rfl, hb⟩
end Go.Proofs.Ytjppoejkfpeicaa
