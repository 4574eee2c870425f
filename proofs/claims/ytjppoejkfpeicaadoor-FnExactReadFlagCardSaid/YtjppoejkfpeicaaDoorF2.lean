/- Contracts: slices.IndexFunc and ContainsFunc over bytes; both ValidFlag. -/
import Derived.Test.YtjppoejkfpeicaaDoorF1
import Derived.Test.YtjppoejkfpeicaaDoorT1
set_option linter.unusedVariables false
namespace Go.Proofs.YtjppoejkfpeicaaDoor
open Go.RowKit

/-- What slices.IndexFunc asks of its function, a closure of function g with captured lb: at element k, in whatever later world. -/
def Pred (g : Nat) (lb : Array Value) (el : Nat → Value) (n : Nat) (p : Nat → Bool) (w : World) : Prop :=
  ∀ (W : World) (k : Nat), k < n → Below w.heap.size w W → Calls Tryd.prog g (#[el k] ++ lb) W fun e w' => e = .returned (.bool (p k)) ∧ Below W.heap.size W w'

/-- The first k < n with p k, as an int; -1. -/
def firstIdx (p : Nat → Bool) : Nat → Nat → Int
  | 0, _ => -1
  | n + 1, k => if p k then (k : Int) else firstIdx p n (k + 1)
theorem firstIdx_hit (p : Nat → Bool) : ∀ (n k j : Nat), j < n → (∀ i, i < j → p (k + i) = false) → p (k + j) = true → firstIdx p n k = ((k + j : Nat) : Int)
  | 0, _, _, h, _, _ => by omega
  | n + 1, k, j, h, hf, ht => by
    unfold firstIdx
    rcases Nat.eq_zero_or_pos j with rfl | hj
    · rw [if_pos (by simpa using ht)]; simp
    · rw [if_neg (by simpa using hf 0 hj)]
      have := firstIdx_hit p n (k + 1) (j - 1) (by omega) (fun i hi => by have := hf (i + 1) (by omega); rwa [show k + (i + 1) = k + 1 + i by omega] at this) (by rwa [show k + 1 + (j - 1) = k + j by omega])
      rw [this]; congr 1; omega
theorem firstIdx_miss (p : Nat → Bool) : ∀ (n k : Nat), (∀ i, i < n → p (k + i) = false) → firstIdx p n k = -1
  | 0, _, _ => rfl
  | n + 1, k, hf => by
    unfold firstIdx
    rw [if_neg (by simpa using hf 0 (by omega))]
    exact firstIdx_miss p n (k + 1) (fun i hi => by have := hf (i + 1) (by omega); rwa [show k + (i + 1) = k + 1 + i by omega] at this)
/-- Is there a k < n with p k? -/
def anyBelow (p : Nat → Bool) (n : Nat) : Bool := (List.range n).any p
theorem firstIdx_nonneg (p : Nat → Bool) (n : Nat) : decide (0 ≤ firstIdx p n 0) = anyBelow p n := by
  unfold anyBelow
  cases h : (List.range n).any p with
  | false =>
    rw [firstIdx_miss p n 0 (fun i hi => by
      rw [List.any_eq_false] at h
      simpa using h i (List.mem_range.2 hi))]
    rfl
  | true =>
    rw [List.any_eq_true] at h
    obtain ⟨i, hi, hp⟩ := h
    rw [List.mem_range] at hi
    have key : ∀ m, m ≤ n → (∀ i, i < m → p i = false) ∨ ∃ j, j < m ∧ (∀ i, i < j → p i = false) ∧ p j = true := by
      intro m
      induction m with
      | zero => intro _; exact .inl (fun i hi => by omega)
      | succ m ih =>
        intro hm
        rcases ih (by omega) with h | ⟨j, hj, h1, h2⟩
        · cases hpm : p m with
          | false => exact .inl (all_succ h hpm)
          | true => exact .inr ⟨m, by omega, h, hpm⟩
        · exact .inr ⟨j, by omega, h1, h2⟩
    rcases key n (Nat.le_refl _) with h | ⟨j, hj, h1, h2⟩
    · rw [h i hi] at hp; cases hp
    · rw [firstIdx_hit p n 0 j hj (by simpa using h1) (by simpa using h2)]
      simp

set_option maxHeartbeats 400000 in
theorem IndexFunc_u8 (g : Nat) (lb : Array Value) (eg : ∀ args w, (callFunc g args).run Tryd.prog w = .ok (.enter g args) w) (xs : List Int) (p : Nat → Bool) (b o c : Nat) (w : World)
    (hp : Pred g lb (fun k => .int .u8 (nth xs k)) xs.length p w) (hbig : xs.length ≤ 9223372036854775807) (hr : w.rangeAt b o (u8s xs)) :
    Calls Tryd.prog 63 #[.slice (some ⟨b, o, none⟩) xs.length c, .func (.func g) #[] lb] w fun e w' => e = .returned (.int .i64 (firstIdx p xs.length 0)) ∧ Below w.heap.size w w' := by
  go_enter Tryd.func63, Tryd.ntmps63
  go_wp2
  go_loopw [5, 8] (fun _ i wr => ∃ k : Nat, k ≤ xs.length ∧ i = .int .i64 k ∧ Below w.heap.size w wr ∧ As (∀ j, j < k → p j = false)) (fun _ i _ => xs.length - (intOf i).toNat)
  case atStart => exact ⟨0, by omega, rfl, Below.refl _ _, ⟨fun j hj => by omega⟩⟩
  case round =>
    obtain ⟨k, hk, rfl, hb, H⟩ := hrel
    by_cases hlt : k < xs.length
    · have c0 : wr.cell? ⟨b, o + k, none⟩ = some (.int .u8 (nth xs k)) := by
        have h0 := hr k _ (by rw [u8s_get xs k hlt])
        rw [hb.cell (World.block_lt_of_cell? w _ h0)]; exact h0
      have hcall := hp wr k hlt hb
      cases hq : p k with
      | true =>
        rw [hq] at hcall
        go_wp2_with (refine hcall.mono ?_; rintro e w' ⟨rfl, hb'⟩)
        go_ret
        exact ⟨ret_n (by rw [firstIdx_hit p xs.length 0 k hlt (by simpa using H.out) (by simpa using hq)]; simp), bl_call hb hb'⟩
      | false =>
        rw [hq] at hcall
        go_wp2_with (refine hcall.mono ?_; rintro e w' ⟨rfl, hb'⟩)
        go_roundw
        case rel => exact ⟨k + 1, by omega, by go_num, bl_call hb hb', ⟨all_succ H.out hq⟩⟩
        case measure => simp [intOf]; omega
    · obtain rfl : k = xs.length := by omega
      go_wp2
      go_ret
      exact ⟨ret_n (by rw [firstIdx_miss p xs.length 0 (by simpa using H.out)]), hb⟩

theorem ContainsFunc_u8 (g : Nat) (lb : Array Value) (eg : ∀ args w, (callFunc g args).run Tryd.prog w = .ok (.enter g args) w) (xs : List Int) (p : Nat → Bool) (b o c : Nat) (w : World)
    (hp : Pred g lb (fun k => .int .u8 (nth xs k)) xs.length p w) (hbig : xs.length ≤ 9223372036854775807) (hr : w.rangeAt b o (u8s xs)) :
    Calls Tryd.prog 39 #[.slice (some ⟨b, o, none⟩) xs.length c, .func (.func g) #[] lb] w fun e w' => e = .returned (.bool (anyBelow p xs.length)) ∧ Below w.heap.size w w' := by
  rw [← firstIdx_nonneg]
  go_enter Tryd.func39, Tryd.ntmps39
  go_wp2_with (go_at_call 63; refine (IndexFunc_u8 g lb eg xs p b o c _ hp hbig hr).mono ?_; rintro e w' ⟨rfl, hb⟩)
  go_ret
  exact ⟨rfl, hb⟩

theorem ValidFlag1_any (n : Int) (w : World) : Calls Tryd.prog 40 #[.int .u8 n] w fun e w' => e = .returned (.bool (decide (6 ≤ n))) ∧ Below w.heap.size w w' := by
  go_enter Tryd.func40, Tryd.ntmps40
  go_wp2
  go_ret
  exact ⟨rfl, Below.refl _ _⟩

theorem any_vf (xs : List Int) : (!anyBelow (fun k => decide (6 ≤ nth xs k)) xs.length) = vf xs := by
  unfold anyBelow vf
  rw [Bool.eq_iff_iff]
  simp only [Bool.not_eq_true', List.any_eq_false, List.all_eq_true, decide_eq_true_eq, List.mem_range]
  constructor
  · intro h x hx
    obtain ⟨i, hi, rfl⟩ := List.mem_iff_getElem.1 hx
    rw [nth_get xs i hi]
    have := h i hi
    omega
  · intro h i hi
    have := h _ (nth_mem xs i hi)
    omega

theorem ValidFlag_any (xs : List Int) (hl : xs.length = 24) (w : World) : Calls Tryd.prog 16 #[fl xs] w fun e w' => e = .returned (.bool (vf xs)) ∧ Below w.heap.size w w' := by
  unfold fl
  rw [← any_vf xs]
  have hcf := fun W c h => ContainsFunc_u8 40 #[] (enters Tryd.func40 (by kernel_rfl) rfl) xs (fun k => decide (6 ≤ nth xs k)) w.heap.size 0 c W (fun W k _ _ => ValidFlag1_any _ W) (by omega) h
  rw [hl] at hcf ⊢
  go_enter Tryd.func16, Tryd.ntmps16
  go_wp2_with (go_at_call 39; refine (hcf _ _ (Blk.new _ _ _).range).mono ?_; rintro e w' ⟨rfl, hb⟩)
  go_ret
  exact ⟨rfl, bl_call (bl_new (Below.refl _ _) _) hb⟩

end Go.Proofs.YtjppoejkfpeicaaDoor
