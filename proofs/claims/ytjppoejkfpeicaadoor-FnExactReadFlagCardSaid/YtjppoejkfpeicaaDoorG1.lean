/- Contracts: colours of a list; patterns. -/
import Derived.Test.YtjppoejkfpeicaaDoorF11
import Derived.Test.YtjppoejkfpeicaaDoorLw
set_option linter.unusedVariables false
namespace Go.Proofs.YtjppoejkfpeicaaDoor
open Go.RowKit

set_option maxHeartbeats 400000 in
theorem IndexFunc_i64 (g : Nat) (lb : Array Value) (eg : ∀ args w, (callFunc g args).run Tryd.prog w = .ok (.enter g args) w) (xs : List Int) (p : Nat → Bool) (b o c : Nat) (w : World)
    (hp : Pred g lb (fun k => .int .i64 (nth xs k)) xs.length p w) (hbig : xs.length ≤ 9223372036854775807) (hr : w.rangeAt b o (i64s xs)) :
    Calls Tryd.prog 79 #[.slice (some ⟨b, o, none⟩) xs.length c, .func (.func g) #[] lb] w fun e w' => e = .returned (.int .i64 (firstIdx p xs.length 0)) ∧ Below w.heap.size w w' := by
  go_enter Tryd.func79, Tryd.ntmps79
  go_wp2
  go_loopw [5, 8] (fun _ i wr => ∃ k : Nat, k ≤ xs.length ∧ i = .int .i64 k ∧ Below w.heap.size w wr ∧ As (∀ j, j < k → p j = false)) (fun _ i _ => xs.length - (intOf i).toNat)
  case atStart => exact ⟨0, by omega, rfl, Below.refl _ _, ⟨fun j hj => by omega⟩⟩
  case round =>
    obtain ⟨k, hk, rfl, hb, H⟩ := hrel
    by_cases hlt : k < xs.length
    · have c0 : wr.cell? ⟨b, o + k, none⟩ = some (.int .i64 (nth xs k)) := by
        have h0 := hr k _ (by rw [i64s_get xs k hlt])
        rw [hb.cell (World.block_lt_of_cell? w _ h0)]; exact h0
      have hcall := hp wr k hlt hb
      cases hq : p k with
      | true =>
        rw [hq] at hcall
        go_wp2_with (refine hcall.mono ?_; rintro e w' ⟨rfl, hb'⟩)
        go_ret
        exact ⟨ret_n (by rw [firstIdx_hit p xs.length 0 k hlt (by simpa using H.out) (by simpa using hq)]; simp), bl_call hb hb'⟩
      | false =>
        rw [hq] at hcall
        go_wp2_with (refine hcall.mono ?_; rintro e w' ⟨rfl, hb'⟩)
        go_roundw
        case rel => exact ⟨k + 1, by omega, by go_num, bl_call hb hb', ⟨all_succ H.out hq⟩⟩
        case measure => simp [intOf]; omega
    · obtain rfl : k = xs.length := by omega
      go_wp2
      go_ret
      exact ⟨ret_n (by rw [firstIdx_miss p xs.length 0 (by simpa using H.out)]), hb⟩

theorem ContainsFunc_i64 (g : Nat) (lb : Array Value) (eg : ∀ args w, (callFunc g args).run Tryd.prog w = .ok (.enter g args) w) (xs : List Int) (p : Nat → Bool) (b o c : Nat) (w : World)
    (hp : Pred g lb (fun k => .int .i64 (nth xs k)) xs.length p w) (hbig : xs.length ≤ 9223372036854775807) (hr : w.rangeAt b o (i64s xs)) :
    Calls Tryd.prog 68 #[.slice (some ⟨b, o, none⟩) xs.length c, .func (.func g) #[] lb] w fun e w' => e = .returned (.bool (anyBelow p xs.length)) ∧ Below w.heap.size w w' := by
  rw [← firstIdx_nonneg]
  go_enter Tryd.func68, Tryd.ntmps68
  go_wp2_with (go_at_call 79; refine (IndexFunc_i64 g lb eg xs p b o c _ hp hbig hr).mono ?_; rintro e w' ⟨rfl, hb⟩)
  go_ret
  exact ⟨rfl, hb⟩


theorem areColours1_any (n : Int) (w : World) : Calls Tryd.prog 69 #[.int .i64 n] w fun e w' => e = .returned (.bool (!inR n 0 5)) ∧ Below w.heap.size w w' := by
  go_enter Tryd.func69, Tryd.ntmps69
  go_wp2_with (go_at_call 51; refine (isColour_any _ _).mono ?_; rintro e w' ⟨rfl, rfl⟩)
  go_ret
  exact ⟨rfl, Below.refl _ _⟩

/-- All numbers are colours. -/
def aC (xs : List Int) : Bool := xs.all fun x => inR x 0 5
theorem any_aC (xs : List Int) : (!anyBelow (fun k => !inR (nth xs k) 0 5) xs.length) = aC xs := by
  unfold anyBelow aC
  rw [Bool.eq_iff_iff]
  simp only [Bool.not_eq_true', List.any_eq_false, List.all_eq_true, List.mem_range]
  constructor
  · intro h x hx
    obtain ⟨i, hi, rfl⟩ := List.mem_iff_getElem.1 hx
    rw [nth_get xs i hi]
    simpa using h i hi
  · intro h i hi
    simpa using h _ (nth_mem xs i hi)
theorem areColours_any (xs : List Int) (b o c : Nat) (w : World) (hbig : xs.length ≤ 9223372036854775807) (hr : w.rangeAt b o (i64s xs)) :
    Calls Tryd.prog 52 #[.slice (some ⟨b, o, none⟩) xs.length c] w fun e w' => e = .returned (.bool (aC xs)) ∧ Below w.heap.size w w' := by
  rw [← any_aC xs]
  have hcf := fun W c h => ContainsFunc_i64 69 #[] (enters Tryd.func69 (by kernel_rfl) rfl) xs (fun k => !inR (nth xs k) 0 5) b o c W (fun W k _ _ => areColours1_any _ W) hbig h
  go_enter Tryd.func52, Tryd.ntmps52
  go_wp2_with (go_at_call 68; refine (hcf _ _ hr).mono ?_; rintro e w' ⟨rfl, hb⟩)
  go_ret
  exact ⟨rfl, hb⟩

/-- The code of numbers in bounds: 0, or 2. -/
def codeR (b : Bool) : Int := if b then 0 else 2
/-- Where a pattern of a kind shows its second colour. -/
def other : Nat → Nat → Nat → Bool
  | 0, x, y => x == 2 || x == 3 || y == 1 || y == 2
  | 1, x, y => x == 0 || x == 5 || y == 0 || y == 3
  | 2, x, y => (x + y) % 2 == 1
  | _, _, _ => false
def madeF (kind : Nat) (a b : Int) (k : Nat) : Int := if other kind (k % 6) (k / 6) then b else a
def madeL (kind : Nat) (a b : Int) : List Int := (List.range 24).map (madeF kind a b)
theorem madeL_length (kind : Nat) (a b : Int) : (madeL kind a b).length = 24 := by simp [madeL]
theorem made_bd (kind : Nat) (a b : Int) (h : aC [a, b] = true) (k : Nat) : 0 ≤ madeF kind a b k ∧ madeF kind a b k ≤ 255 := by
  simp only [aC, List.all_cons, List.all_nil, Bool.and_true, Bool.and_eq_true, inR_iff] at h
  unfold madeF; split <;> omega

end Go.Proofs.YtjppoejkfpeicaaDoor
