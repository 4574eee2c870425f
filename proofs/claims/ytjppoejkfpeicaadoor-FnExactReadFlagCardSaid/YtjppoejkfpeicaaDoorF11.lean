/- Contracts: impl.flagOf over any closure; MirrorFlag: both sides. -/
import Derived.Test.YtjppoejkfpeicaaDoorF10
import Derived.Test.YtjppoejkfpeicaaDoorF7
import Derived.StillTailTactics
set_option linter.unusedVariables false
namespace Go.Proofs.YtjppoejkfpeicaaDoor
open Go.RowKit

set_option maxHeartbeats 800000 in
/-- impl.flagOf: the closure of function g, captured lb, gives f i at cell i, in whatever later world. -/
theorem flagOf_any (g : Nat) (lb : Array Value) (eg : ∀ args w, (callFunc g args).run Tryd.prog w = .ok (.enter g args) w) (f : Nat → Int) (hf : ∀ i, i < 24 → 0 ≤ f i ∧ f i ≤ 255) (w : World)
    (hp : ∀ (W : World) (k : Nat), k < 24 → Below w.heap.size w W → Calls Tryd.prog g (#[.int .i64 ((k : Int) % 6), .int .i64 ((k : Int) / 6)] ++ lb) W fun e w' => e = .returned (.int .i64 (f k)) ∧ Below W.heap.size W w') :
    Calls Tryd.prog 59 #[.func (.func g) #[] lb] w fun e w' => e = .returned (fl ((List.range 24).map f)) ∧ Below w.heap.size w w' := by
  have hz : part f 24 0 = zero24 := part_zero _ _
  have HZ := As.mk hz
  clear hz
  have BZ : Blk ((w.alloc (.cells #[.int .u8 0, .int .u8 0, .int .u8 0, .int .u8 0, .int .u8 0, .int .u8 0, .int .u8 0, .int .u8 0, .int .u8 0, .int .u8 0, .int .u8 0, .int .u8 0, .int .u8 0, .int .u8 0, .int .u8 0, .int .u8 0, .int .u8 0, .int .u8 0, .int .u8 0, .int .u8 0, .int .u8 0, .int .u8 0, .int .u8 0, .int .u8 0] 23)).alloc (.cells #[.int .u8 0, .int .u8 0, .int .u8 0, .int .u8 0, .int .u8 0, .int .u8 0, .int .u8 0, .int .u8 0, .int .u8 0, .int .u8 0, .int .u8 0, .int .u8 0, .int .u8 0, .int .u8 0, .int .u8 0, .int .u8 0, .int .u8 0, .int .u8 0, .int .u8 0, .int .u8 0, .int .u8 0, .int .u8 0, .int .u8 0, .int .u8 0] 23)) (w.heap.size + 1) (u8s zero24) 23 := Blk.mk _ (u8s zero24) _ (by simp)
  have BY : Blk ((w.alloc (.cells #[.int .u8 0, .int .u8 0, .int .u8 0, .int .u8 0, .int .u8 0, .int .u8 0, .int .u8 0, .int .u8 0, .int .u8 0, .int .u8 0, .int .u8 0, .int .u8 0, .int .u8 0, .int .u8 0, .int .u8 0, .int .u8 0, .int .u8 0, .int .u8 0, .int .u8 0, .int .u8 0, .int .u8 0, .int .u8 0, .int .u8 0, .int .u8 0] 23)).alloc (.cells #[.int .u8 0, .int .u8 0, .int .u8 0, .int .u8 0, .int .u8 0, .int .u8 0, .int .u8 0, .int .u8 0, .int .u8 0, .int .u8 0, .int .u8 0, .int .u8 0, .int .u8 0, .int .u8 0, .int .u8 0, .int .u8 0, .int .u8 0, .int .u8 0, .int .u8 0, .int .u8 0, .int .u8 0, .int .u8 0, .int .u8 0, .int .u8 0] 23)) w.heap.size (u8s zero24) 23 := (Blk.mk w (u8s zero24) _ rfl).alloc _
  have bZ : Below w.heap.size w ((w.alloc (.cells #[.int .u8 0, .int .u8 0, .int .u8 0, .int .u8 0, .int .u8 0, .int .u8 0, .int .u8 0, .int .u8 0, .int .u8 0, .int .u8 0, .int .u8 0, .int .u8 0, .int .u8 0, .int .u8 0, .int .u8 0, .int .u8 0, .int .u8 0, .int .u8 0, .int .u8 0, .int .u8 0, .int .u8 0, .int .u8 0, .int .u8 0, .int .u8 0] 23)).alloc (.cells #[.int .u8 0, .int .u8 0, .int .u8 0, .int .u8 0, .int .u8 0, .int .u8 0, .int .u8 0, .int .u8 0, .int .u8 0, .int .u8 0, .int .u8 0, .int .u8 0, .int .u8 0, .int .u8 0, .int .u8 0, .int .u8 0, .int .u8 0, .int .u8 0, .int .u8 0, .int .u8 0, .int .u8 0, .int .u8 0, .int .u8 0, .int .u8 0] 23)) := bl_new (bl_new (Below.refl _ _) _) _
  go_enter Tryd.func59, Tryd.ntmps59
  go_wp2_with (refine store_blk rfl 23 _ _ rfl _ rfl (ds := u8s zero24) rfl BZ info_fl (by rfl) (by rfl) (u8s_one _) ?_)
  go_loopw [6] (fun i wr => ∃ k : Nat, k ≤ 24 ∧ i = .int .i64 k ∧ Blk wr w.heap.size (u8s zero24) 23 ∧ Blk wr (w.heap.size + 1) (u8s (part f 24 k)) 23 ∧ Below w.heap.size w wr) (fun i _ => 24 - (intOf i).toNat)
  case atStart => exact ⟨0, by omega, rfl, BY.farRow (by omega) _, by rw [HZ.out]; exact BZ.setRow _, bl_setRow bZ (by omega) _⟩
  case round =>
    obtain ⟨k, hk, rfl, h1, h2, hb⟩ := hrel
    by_cases hlt : k < 24
    · have hlt' : (k : Int) < 24 := by omega
      have hfk := hf k hlt
      have n1 := hfk.1; have n2 := hfk.2
      have hcall := hp wr k hlt hb
      go_wp2_with (fail)
      refine hcall.mono ?_; rintro e w1 ⟨rfl, hb1⟩
      have h1' := h1.kept hb1
      have h2' := h2.kept hb1
      have hb' := bl_call hb hb1
      obtain ⟨v2, c2⟩ := h2'.some k (by rw [u8s_length, part_length]; exact hlt)
      have f2 := h2'.frozen k
      clear hcall
      go_wp2_with (fail)
      go_roundw
      case rel => exact ⟨k + 1, by omega, by go_num, h1'.far (by simp) _, by have := h2'.set k (.int .u8 (f k)); rw [u8s_set, part_set f] at this; exact this, hb'.setCell (by simp) _⟩
      case measure => simp [intOf]; omega
    · obtain rfl : k = 24 := by omega
      rw [part_full] at h2
      have hl : ((List.range 24).map f).length = 24 := by simp
      go_wp2_with (first | (refine load_blk rfl 23 _ rfl _ rfl h2 Tryd.underlying23 rfl info_fl (by rw [u8s_length]; exact hl) ?_) | (refine store_blk rfl 23 _ _ rfl _ rfl rfl h1 info_fl (by rw [u8s_length]; exact hl) (by rw [u8s_length]; exact zero24_length) (u8s_one _) ?_))
      refine ret_blk rfl _ rfl (h1.setRow _) Tryd.underlying23 rfl info_fl (by rw [u8s_length]; exact hl) rfl ⟨rfl, bl_setRow hb (by omega) _⟩

/-- A flag from the other side. -/
def mirF (xs : List Int) (i : Nat) : Int := nth xs (5 - i % 6 + 6 * (i / 6))
def mirrorL (xs : List Int) : List Int := (List.range 24).map (mirF xs)
theorem mirrorL_length (xs : List Int) : (mirrorL xs).length = 24 := by simp [mirrorL]

set_option maxHeartbeats 400000 in
theorem mirrored1_any (xs : List Int) (hx : xs.length = 24) (rx : Bytes xs) (b k : Nat) (hk : k < 24) (w : World) (hr : w.rangeAt b 0 (u8s xs)) :
    Calls Tryd.prog 60 #[.int .i64 ((k : Int) % 6), .int .i64 ((k : Int) / 6), .pointer (some ⟨b, 0, none⟩)] w fun e w' => e = .returned (.int .i64 (mirF xs k)) ∧ Below w.heap.size w w' := by
  have c0 := hr (5 - k % 6 + 6 * (k / 6)) _ (u8s_get xs _ (by omega))
  have n1 := (rx.nth (5 - k % 6 + 6 * (k / 6))).1
  have n2 := (rx.nth (5 - k % 6 + 6 * (k / 6))).2
  have h1 : (0 : Int) ≤ (k : Int) % 6 := by omega
  have h2 : (k : Int) % 6 ≤ 5 := by omega
  have h3 : (0 : Int) ≤ (k : Int) / 6 := by omega
  have h4 : (k : Int) / 6 ≤ 3 := by omega
  rw [Nat.zero_add] at c0
  go_enter Tryd.func60, Tryd.ntmps60
  go_wp2
  go_ret
  exact ⟨rfl, Below.refl _ _⟩

set_option maxHeartbeats 400000 in
theorem mirrored_any (xs : List Int) (hx : xs.length = 24) (rx : Bytes xs) (w : World) :
    Calls Tryd.prog 34 #[fl xs] w fun e w' => e = .returned (fl (mirrorL xs)) ∧ Below w.heap.size w w' := by
  unfold fl
  have B0 : Blk ((w.alloc (.cells (u8s xs).toArray 23)).alloc (.cells #[.int .u8 0, .int .u8 0, .int .u8 0, .int .u8 0, .int .u8 0, .int .u8 0, .int .u8 0, .int .u8 0, .int .u8 0, .int .u8 0, .int .u8 0, .int .u8 0, .int .u8 0, .int .u8 0, .int .u8 0, .int .u8 0, .int .u8 0, .int .u8 0, .int .u8 0, .int .u8 0, .int .u8 0, .int .u8 0, .int .u8 0, .int .u8 0] 23)) w.heap.size (u8s xs) 23 := (Blk.new _ _ _).alloc _
  have B1 : Blk ((w.alloc (.cells (u8s xs).toArray 23)).alloc (.cells #[.int .u8 0, .int .u8 0, .int .u8 0, .int .u8 0, .int .u8 0, .int .u8 0, .int .u8 0, .int .u8 0, .int .u8 0, .int .u8 0, .int .u8 0, .int .u8 0, .int .u8 0, .int .u8 0, .int .u8 0, .int .u8 0, .int .u8 0, .int .u8 0, .int .u8 0, .int .u8 0, .int .u8 0, .int .u8 0, .int .u8 0, .int .u8 0] 23)) (w.heap.size + 1) (u8s zero24) 23 := Blk.mk _ (u8s zero24) _ (by simp)
  have b0 : Below w.heap.size w ((w.alloc (.cells (u8s xs).toArray 23)).alloc (.cells #[.int .u8 0, .int .u8 0, .int .u8 0, .int .u8 0, .int .u8 0, .int .u8 0, .int .u8 0, .int .u8 0, .int .u8 0, .int .u8 0, .int .u8 0, .int .u8 0, .int .u8 0, .int .u8 0, .int .u8 0, .int .u8 0, .int .u8 0, .int .u8 0, .int .u8 0, .int .u8 0, .int .u8 0, .int .u8 0, .int .u8 0, .int .u8 0] 23)) := bl_new (bl_new (Below.refl _ _) _) _
  have hl := mirrorL_length xs
  have hF := fun (W : World) (hB : Blk W w.heap.size (u8s xs) 23) => flagOf_any 60 #[.pointer (some ⟨w.heap.size, 0, none⟩)] (enters Tryd.func60 (by kernel_rfl) rfl) (mirF xs) (fun i _ => rx.nth _) W
    (fun W' k hk hb => mirrored1_any xs hx rx w.heap.size k hk W' (hB.kept hb).range)
  go_enter Tryd.func34, Tryd.ntmps34
  go_wp2_with (fail)
  refine (hF _ B0).mono ?_; rintro e w1 ⟨rfl, hb1⟩
  have h2 := B1.kept hb1
  clear hF
  go_wp2_with (refine store_blk rfl 23 _ _ rfl _ rfl rfl h2 info_fl (by rw [u8s_length]; exact hl) (by rw [u8s_length]; exact zero24_length) (u8s_one _) ?_)
  refine ret_blk rfl _ rfl (h2.setRow _) Tryd.underlying23 rfl info_fl (by rw [u8s_length]; exact hl) rfl ⟨rfl, bl_setRow (bl_call b0 hb1) (by omega) _⟩
end Go.Proofs.YtjppoejkfpeicaaDoor
