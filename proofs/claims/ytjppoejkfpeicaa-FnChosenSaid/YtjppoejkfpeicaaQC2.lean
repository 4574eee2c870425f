/- Contracts and plain facts, several texts in one. -/
import Derived.Test.YtjppoejkfpeicaaQC1
import Derived.StillTailTactics
import Derived.Deep.RegionHeld3
/- Contracts: TurnFlag: both sides. -/
set_option linter.unusedVariables false
namespace Go.Proofs.Ytjppoejkfpeicaa
open Go.RowKit

def zero24 : List Int := List.replicate 24 0
/-- The flag that is handed back: ys, or none. -/
def okF (b : Bool) (ys : List Int) : List Int := if b then ys else zero24
theorem zero24_length : zero24.length = 24 := rfl
theorem okF_length {b : Bool} {ys : List Int} (h : ys.length = 24) : (okF b ys).length = 24 := by cases b; exact zero24_length; exact h
theorem ret_f {xs ys : List Int} {n m : Int} (h : xs = ys) (h' : n = m) : Ending.returned (.tuple #[fl xs, .int .i64 n]) = .returned (.tuple #[fl ys, .int .i64 m]) := by rw [h, h']

set_option maxHeartbeats 800000 in
theorem turned_any (xs : List Int) (hx : xs.length = 24) (w : World) :
    Calls Try.prog 71 #[fl xs] w fun e w' => e = .returned (fl (turnL xs)) ∧ Below w.heap.size w w' := by
  unfold fl
  have B0 : Blk ((w.alloc (.cells (u8s xs).toArray 38)).alloc (.cells #[.int .u8 0, .int .u8 0, .int .u8 0, .int .u8 0, .int .u8 0, .int .u8 0, .int .u8 0, .int .u8 0, .int .u8 0, .int .u8 0, .int .u8 0, .int .u8 0, .int .u8 0, .int .u8 0, .int .u8 0, .int .u8 0, .int .u8 0, .int .u8 0, .int .u8 0, .int .u8 0, .int .u8 0, .int .u8 0, .int .u8 0, .int .u8 0] 38)) w.heap.size (u8s xs) 38 := (Blk.new _ _ _).alloc _
  have B1 : Blk ((w.alloc (.cells (u8s xs).toArray 38)).alloc (.cells #[.int .u8 0, .int .u8 0, .int .u8 0, .int .u8 0, .int .u8 0, .int .u8 0, .int .u8 0, .int .u8 0, .int .u8 0, .int .u8 0, .int .u8 0, .int .u8 0, .int .u8 0, .int .u8 0, .int .u8 0, .int .u8 0, .int .u8 0, .int .u8 0, .int .u8 0, .int .u8 0, .int .u8 0, .int .u8 0, .int .u8 0, .int .u8 0] 38)) (w.heap.size + 1) (u8s zero24) 38 := Blk.mk _ (u8s zero24) _ (by simp)
  have b0 : Below w.heap.size w ((w.alloc (.cells (u8s xs).toArray 38)).alloc (.cells #[.int .u8 0, .int .u8 0, .int .u8 0, .int .u8 0, .int .u8 0, .int .u8 0, .int .u8 0, .int .u8 0, .int .u8 0, .int .u8 0, .int .u8 0, .int .u8 0, .int .u8 0, .int .u8 0, .int .u8 0, .int .u8 0, .int .u8 0, .int .u8 0, .int .u8 0, .int .u8 0, .int .u8 0, .int .u8 0, .int .u8 0, .int .u8 0] 38)) := bl_new (bl_new (Below.refl _ _) _) _
  have hl : (turnL xs).length = 24 := turnL_length xs
  go_enter Try.func71, Try.ntmps71
  go_wp2_with (fail)
  refine (Reverse_u8 xs hx _ _ _ _ B0).mono ?_; rintro e w1 ⟨rfl, h1, ho⟩
  have h2 := ho.blk B1 (by omega)
  have hb := ho.below b0 (Nat.le_refl _) (by simp; omega)
  go_wp2_with (first | (refine load_blk rfl 38 _ rfl _ rfl h1 Try.underlying38 rfl info_fl (by rw [u8s_length]; exact hl) ?_) | (refine store_blk rfl 38 _ _ rfl _ rfl rfl h2 info_fl (by rw [u8s_length]; exact hl) (by rw [u8s_length]; exact zero24_length) (u8s_one _) ?_))
  refine ret_blk rfl _ rfl (h2.setRow _) Try.underlying38 rfl info_fl (by rw [u8s_length]; exact hl) rfl ⟨rfl, bl_setRow hb (by omega) _⟩

set_option maxHeartbeats 800000 in
theorem TurnFlag_any (xs : List Int) (hx : xs.length = 24) (w : World) :
    Calls Try.prog 31 #[fl xs] w fun e w' => e = .returned (.tuple #[fl (okF (vf xs) (turnL xs)), .int .i64 (codeV (vf xs))]) ∧ Below w.heap.size w w' := by
  unfold fl
  have B0 : Blk ((w.alloc (.cells (u8s xs).toArray 38)).alloc (.cells #[.int .u8 0, .int .u8 0, .int .u8 0, .int .u8 0, .int .u8 0, .int .u8 0, .int .u8 0, .int .u8 0, .int .u8 0, .int .u8 0, .int .u8 0, .int .u8 0, .int .u8 0, .int .u8 0, .int .u8 0, .int .u8 0, .int .u8 0, .int .u8 0, .int .u8 0, .int .u8 0, .int .u8 0, .int .u8 0, .int .u8 0, .int .u8 0] 38)) w.heap.size (u8s xs) 38 := (Blk.new _ _ _).alloc _
  have B1 : Blk ((w.alloc (.cells (u8s xs).toArray 38)).alloc (.cells #[.int .u8 0, .int .u8 0, .int .u8 0, .int .u8 0, .int .u8 0, .int .u8 0, .int .u8 0, .int .u8 0, .int .u8 0, .int .u8 0, .int .u8 0, .int .u8 0, .int .u8 0, .int .u8 0, .int .u8 0, .int .u8 0, .int .u8 0, .int .u8 0, .int .u8 0, .int .u8 0, .int .u8 0, .int .u8 0, .int .u8 0, .int .u8 0] 38)) (w.heap.size + 1) (u8s zero24) 38 := Blk.mk _ (u8s zero24) _ (by simp)
  have b0 : Below w.heap.size w ((w.alloc (.cells (u8s xs).toArray 38)).alloc (.cells #[.int .u8 0, .int .u8 0, .int .u8 0, .int .u8 0, .int .u8 0, .int .u8 0, .int .u8 0, .int .u8 0, .int .u8 0, .int .u8 0, .int .u8 0, .int .u8 0, .int .u8 0, .int .u8 0, .int .u8 0, .int .u8 0, .int .u8 0, .int .u8 0, .int .u8 0, .int .u8 0, .int .u8 0, .int .u8 0, .int .u8 0, .int .u8 0] 38)) := bl_new (bl_new (Below.refl _ _) _) _
  have hl : (turnL xs).length = 24 := turnL_length xs
  cases h1 : vf xs
  · go_enter Try.func31, Try.ntmps31
    go_wp2_with (refine load_blk rfl 38 _ rfl _ rfl B0 Try.underlying38 rfl info_fl (by rw [u8s_length]; exact hx) ?_)
    refine (ValidFlag_any xs hx _).mono ?_; rintro e w1 ⟨rfl, hb1⟩
    have h2 := B1.kept hb1
    go_wp2_with (refine store_blk rfl 38 _ _ rfl _ rfl (ds := u8s zero24) rfl h2 info_fl (by rfl) (by rfl) (u8s_one _) ?_)
    refine ret_blk_tmp rfl _ rfl (h2.setRow _) Try.underlying38 rfl info_fl (by rfl) rfl ⟨rfl, bl_setRow (bl_call b0 hb1) (by omega) _⟩
  · go_enter Try.func31, Try.ntmps31
    go_wp2_with (refine load_blk rfl 38 _ rfl _ rfl B0 Try.underlying38 rfl info_fl (by rw [u8s_length]; exact hx) ?_)
    refine (ValidFlag_any xs hx _).mono ?_; rintro e w1 ⟨rfl, hb1⟩
    have h0 := B0.kept hb1
    go_wp2_with (refine load_blk rfl 38 _ rfl _ rfl h0 Try.underlying38 rfl info_fl (by rw [u8s_length]; exact hx) ?_)
    refine (turned_any xs hx _).mono ?_; rintro e w2 ⟨rfl, hb2⟩
    have h2 := (B1.kept hb1).kept hb2
    go_wp2_with (refine store_blk rfl 38 _ _ rfl _ rfl rfl h2 info_fl (by rw [u8s_length]; exact hl) (by rw [u8s_length]; exact zero24_length) (u8s_one _) ?_)
    refine ret_blk_tmp rfl _ rfl (h2.setRow _) Try.underlying38 rfl info_fl (by rw [u8s_length]; exact hl) rfl ⟨rfl, bl_setRow (bl_call (bl_call b0 hb1) hb2) (by omega) _⟩
end Go.Proofs.Ytjppoejkfpeicaa

/- Contracts: impl.flagOf over any closure; MirrorFlag: both sides. -/
set_option linter.unusedVariables false
namespace Go.Proofs.Ytjppoejkfpeicaa
open Go.RowKit

set_option maxHeartbeats 800000 in
/-- impl.flagOf: the closure of function g, captured lb, gives f i at cell i, in whatever later world. -/
theorem flagOf_any (g : Nat) (lb : Array Value) (eg : ∀ args w, (callFunc g args).run Try.prog w = .ok (.enter g args) w) (f : Nat → Int) (hf : ∀ i, i < 24 → 0 ≤ f i ∧ f i ≤ 255) (w : World)
    (hp : ∀ (W : World) (k : Nat), k < 24 → Below w.heap.size w W → Calls Try.prog g (#[.int .i64 ((k : Int) % 6), .int .i64 ((k : Int) / 6)] ++ lb) W fun e w' => e = .returned (.int .i64 (f k)) ∧ Below W.heap.size W w') :
    Calls Try.prog 89 #[.func (.func g) #[] lb] w fun e w' => e = .returned (fl ((List.range 24).map f)) ∧ Below w.heap.size w w' := by
  have hz : part f 24 0 = zero24 := part_zero _ _
  have HZ := As.mk hz
  clear hz
  have BZ : Blk ((w.alloc (.cells #[.int .u8 0, .int .u8 0, .int .u8 0, .int .u8 0, .int .u8 0, .int .u8 0, .int .u8 0, .int .u8 0, .int .u8 0, .int .u8 0, .int .u8 0, .int .u8 0, .int .u8 0, .int .u8 0, .int .u8 0, .int .u8 0, .int .u8 0, .int .u8 0, .int .u8 0, .int .u8 0, .int .u8 0, .int .u8 0, .int .u8 0, .int .u8 0] 38)).alloc (.cells #[.int .u8 0, .int .u8 0, .int .u8 0, .int .u8 0, .int .u8 0, .int .u8 0, .int .u8 0, .int .u8 0, .int .u8 0, .int .u8 0, .int .u8 0, .int .u8 0, .int .u8 0, .int .u8 0, .int .u8 0, .int .u8 0, .int .u8 0, .int .u8 0, .int .u8 0, .int .u8 0, .int .u8 0, .int .u8 0, .int .u8 0, .int .u8 0] 38)) (w.heap.size + 1) (u8s zero24) 38 := Blk.mk _ (u8s zero24) _ (by simp)
  have BY : Blk ((w.alloc (.cells #[.int .u8 0, .int .u8 0, .int .u8 0, .int .u8 0, .int .u8 0, .int .u8 0, .int .u8 0, .int .u8 0, .int .u8 0, .int .u8 0, .int .u8 0, .int .u8 0, .int .u8 0, .int .u8 0, .int .u8 0, .int .u8 0, .int .u8 0, .int .u8 0, .int .u8 0, .int .u8 0, .int .u8 0, .int .u8 0, .int .u8 0, .int .u8 0] 38)).alloc (.cells #[.int .u8 0, .int .u8 0, .int .u8 0, .int .u8 0, .int .u8 0, .int .u8 0, .int .u8 0, .int .u8 0, .int .u8 0, .int .u8 0, .int .u8 0, .int .u8 0, .int .u8 0, .int .u8 0, .int .u8 0, .int .u8 0, .int .u8 0, .int .u8 0, .int .u8 0, .int .u8 0, .int .u8 0, .int .u8 0, .int .u8 0, .int .u8 0] 38)) w.heap.size (u8s zero24) 38 := (Blk.mk w (u8s zero24) _ rfl).alloc _
  have bZ : Below w.heap.size w ((w.alloc (.cells #[.int .u8 0, .int .u8 0, .int .u8 0, .int .u8 0, .int .u8 0, .int .u8 0, .int .u8 0, .int .u8 0, .int .u8 0, .int .u8 0, .int .u8 0, .int .u8 0, .int .u8 0, .int .u8 0, .int .u8 0, .int .u8 0, .int .u8 0, .int .u8 0, .int .u8 0, .int .u8 0, .int .u8 0, .int .u8 0, .int .u8 0, .int .u8 0] 38)).alloc (.cells #[.int .u8 0, .int .u8 0, .int .u8 0, .int .u8 0, .int .u8 0, .int .u8 0, .int .u8 0, .int .u8 0, .int .u8 0, .int .u8 0, .int .u8 0, .int .u8 0, .int .u8 0, .int .u8 0, .int .u8 0, .int .u8 0, .int .u8 0, .int .u8 0, .int .u8 0, .int .u8 0, .int .u8 0, .int .u8 0, .int .u8 0, .int .u8 0] 38)) := bl_new (bl_new (Below.refl _ _) _) _
  go_enter Try.func89, Try.ntmps89
  go_wp2_with (refine store_blk rfl 38 _ _ rfl _ rfl (ds := u8s zero24) rfl BZ info_fl (by rfl) (by rfl) (u8s_one _) ?_)
  go_loopw [6] (fun i wr => ∃ k : Nat, k ≤ 24 ∧ i = .int .i64 k ∧ Blk wr w.heap.size (u8s zero24) 38 ∧ Blk wr (w.heap.size + 1) (u8s (part f 24 k)) 38 ∧ Below w.heap.size w wr) (fun i _ => 24 - (intOf i).toNat)
  case atStart => exact ⟨0, by omega, rfl, BY.farRow (by omega) _, by rw [HZ.out]; exact BZ.setRow _, bl_setRow bZ (by omega) _⟩
  case round =>
    obtain ⟨k, hk, rfl, h1, h2, hb⟩ := hrel
    by_cases hlt : k < 24
    · have hlt' : (k : Int) < 24 := by omega
      have hfk := hf k hlt
      have n1 := hfk.1; have n2 := hfk.2
      have hcall := hp wr k hlt hb
      go_wp2_with (fail)
      refine hcall.mono ?_; rintro e w1 ⟨rfl, hb1⟩
      have h1' := h1.kept hb1
      have h2' := h2.kept hb1
      have hb' := bl_call hb hb1
      obtain ⟨v2, c2⟩ := h2'.some k (by rw [u8s_length, part_length]; exact hlt)
      have f2 := h2'.frozen k
      clear hcall
      go_wp2_with (fail)
      go_roundw
      case rel => exact ⟨k + 1, by omega, by go_num, h1'.far (by simp) _, by have := h2'.set k (.int .u8 (f k)); rw [u8s_set, part_set f] at this; exact this, hb'.setCell (by simp) _⟩
      case measure => simp [intOf]; omega
    · obtain rfl : k = 24 := by omega
      rw [part_full] at h2
      have hl : ((List.range 24).map f).length = 24 := by simp
      go_wp2_with (first | (refine load_blk rfl 38 _ rfl _ rfl h2 Try.underlying38 rfl info_fl (by rw [u8s_length]; exact hl) ?_) | (refine store_blk rfl 38 _ _ rfl _ rfl rfl h1 info_fl (by rw [u8s_length]; exact hl) (by rw [u8s_length]; exact zero24_length) (u8s_one _) ?_))
      refine ret_blk rfl _ rfl (h1.setRow _) Try.underlying38 rfl info_fl (by rw [u8s_length]; exact hl) rfl ⟨rfl, bl_setRow hb (by omega) _⟩

/-- A flag from the other side. -/
def mirF (xs : List Int) (i : Nat) : Int := nth xs (5 - i % 6 + 6 * (i / 6))
def mirrorL (xs : List Int) : List Int := (List.range 24).map (mirF xs)
theorem mirrorL_length (xs : List Int) : (mirrorL xs).length = 24 := by simp [mirrorL]

set_option maxHeartbeats 400000 in
theorem mirrored1_any (xs : List Int) (hx : xs.length = 24) (rx : Bytes xs) (b k : Nat) (hk : k < 24) (w : World) (hr : w.rangeAt b 0 (u8s xs)) :
    Calls Try.prog 92 #[.int .i64 ((k : Int) % 6), .int .i64 ((k : Int) / 6), .pointer (some ⟨b, 0, none⟩)] w fun e w' => e = .returned (.int .i64 (mirF xs k)) ∧ Below w.heap.size w w' := by
  have c0 := hr (5 - k % 6 + 6 * (k / 6)) _ (u8s_get xs _ (by omega))
  have n1 := (rx.nth (5 - k % 6 + 6 * (k / 6))).1
  have n2 := (rx.nth (5 - k % 6 + 6 * (k / 6))).2
  have h1 : (0 : Int) ≤ (k : Int) % 6 := by omega
  have h2 : (k : Int) % 6 ≤ 5 := by omega
  have h3 : (0 : Int) ≤ (k : Int) / 6 := by omega
  have h4 : (k : Int) / 6 ≤ 3 := by omega
  rw [Nat.zero_add] at c0
  go_enter Try.func92, Try.ntmps92
  go_wp2
  go_ret
  exact ⟨rfl, Below.refl _ _⟩

set_option maxHeartbeats 400000 in
theorem mirrored_any (xs : List Int) (hx : xs.length = 24) (rx : Bytes xs) (w : World) :
    Calls Try.prog 70 #[fl xs] w fun e w' => e = .returned (fl (mirrorL xs)) ∧ Below w.heap.size w w' := by
  unfold fl
  have B0 : Blk ((w.alloc (.cells (u8s xs).toArray 38)).alloc (.cells #[.int .u8 0, .int .u8 0, .int .u8 0, .int .u8 0, .int .u8 0, .int .u8 0, .int .u8 0, .int .u8 0, .int .u8 0, .int .u8 0, .int .u8 0, .int .u8 0, .int .u8 0, .int .u8 0, .int .u8 0, .int .u8 0, .int .u8 0, .int .u8 0, .int .u8 0, .int .u8 0, .int .u8 0, .int .u8 0, .int .u8 0, .int .u8 0] 38)) w.heap.size (u8s xs) 38 := (Blk.new _ _ _).alloc _
  have B1 : Blk ((w.alloc (.cells (u8s xs).toArray 38)).alloc (.cells #[.int .u8 0, .int .u8 0, .int .u8 0, .int .u8 0, .int .u8 0, .int .u8 0, .int .u8 0, .int .u8 0, .int .u8 0, .int .u8 0, .int .u8 0, .int .u8 0, .int .u8 0, .int .u8 0, .int .u8 0, .int .u8 0, .int .u8 0, .int .u8 0, .int .u8 0, .int .u8 0, .int .u8 0, .int .u8 0, .int .u8 0, .int .u8 0] 38)) (w.heap.size + 1) (u8s zero24) 38 := Blk.mk _ (u8s zero24) _ (by simp)
  have b0 : Below w.heap.size w ((w.alloc (.cells (u8s xs).toArray 38)).alloc (.cells #[.int .u8 0, .int .u8 0, .int .u8 0, .int .u8 0, .int .u8 0, .int .u8 0, .int .u8 0, .int .u8 0, .int .u8 0, .int .u8 0, .int .u8 0, .int .u8 0, .int .u8 0, .int .u8 0, .int .u8 0, .int .u8 0, .int .u8 0, .int .u8 0, .int .u8 0, .int .u8 0, .int .u8 0, .int .u8 0, .int .u8 0, .int .u8 0] 38)) := bl_new (bl_new (Below.refl _ _) _) _
  have hl := mirrorL_length xs
  have hF := fun (W : World) (hB : Blk W w.heap.size (u8s xs) 38) => flagOf_any 92 #[.pointer (some ⟨w.heap.size, 0, none⟩)] (enters Try.func92 (by kernel_rfl) rfl) (mirF xs) (fun i _ => rx.nth _) W
    (fun W' k hk hb => mirrored1_any xs hx rx w.heap.size k hk W' (hB.kept hb).range)
  go_enter Try.func70, Try.ntmps70
  go_wp2_with (fail)
  refine (hF _ B0).mono ?_; rintro e w1 ⟨rfl, hb1⟩
  have h2 := B1.kept hb1
  clear hF
  go_wp2_with (refine store_blk rfl 38 _ _ rfl _ rfl rfl h2 info_fl (by rw [u8s_length]; exact hl) (by rw [u8s_length]; exact zero24_length) (u8s_one _) ?_)
  refine ret_blk rfl _ rfl (h2.setRow _) Try.underlying38 rfl info_fl (by rw [u8s_length]; exact hl) rfl ⟨rfl, bl_setRow (bl_call b0 hb1) (by omega) _⟩
end Go.Proofs.Ytjppoejkfpeicaa

/- Contracts: spec.l01Blur. -/
set_option linter.unusedVariables false
namespace Go.Proofs.Ytjppoejkfpeicaa
open Go.RowKit

theorem info_b6 : (Try.prog.info? 94).map (·.size) = some 6 := by kernel_rfl
theorem zero6_length : zero6.length = 6 := rfl

set_option maxRecDepth 20000 in
set_option maxHeartbeats 2000000 in
theorem l01Blur_any (xs : List Int) (hx : xs.length = 24) (rx : Bytes xs) (hv : vf xs = true) (b o : Nat) (w : World) (hr : w.rangeAt b o (u8s xs)) :
    Calls Try.prog 96 #[.pointer (some ⟨b, o, none⟩)] w fun e w' => e = .returned (.agg (u8s (blurL xs)).toArray) ∧ Below w.heap.size w w' := by
  have HZ := As.mk (part_zero (blurF xs) 6)
  have B0 : Blk ((w.alloc (.cells #[.int .u8 0, .int .u8 0, .int .u8 0, .int .u8 0, .int .u8 0, .int .u8 0] 94)).alloc (.cells #[.int .u8 0, .int .u8 0, .int .u8 0, .int .u8 0, .int .u8 0, .int .u8 0] 94)) w.heap.size (u8s zero6) 94 := (Blk.mk w (u8s zero6) _ rfl).alloc _
  have B1 : Blk ((w.alloc (.cells #[.int .u8 0, .int .u8 0, .int .u8 0, .int .u8 0, .int .u8 0, .int .u8 0] 94)).alloc (.cells #[.int .u8 0, .int .u8 0, .int .u8 0, .int .u8 0, .int .u8 0, .int .u8 0] 94)) (w.heap.size + 1) (u8s zero6) 94 := Blk.mk _ (u8s zero6) _ (by simp)
  have b0 : Below w.heap.size w ((w.alloc (.cells #[.int .u8 0, .int .u8 0, .int .u8 0, .int .u8 0, .int .u8 0, .int .u8 0] 94)).alloc (.cells #[.int .u8 0, .int .u8 0, .int .u8 0, .int .u8 0, .int .u8 0, .int .u8 0] 94)) := bl_new (bl_new (Below.refl _ _) _) _
  have C0 := B0.farRow (g := w.heap.size + 1) (by omega) (u8s zero6).toArray
  have C1 := B1.setRow (u8s zero6)
  have c0 := bl_setRow b0 (g := w.heap.size + 1) (by omega) (u8s zero6).toArray
  go_enter Try.func96, Try.ntmps96
  go_wp2_with (refine store_blk rfl 94 _ _ rfl _ rfl (ds := u8s zero6) rfl B1 info_b6 (by rw [u8s_length]; exact rfl) (by rw [u8s_length]; exact rfl) (u8s_one _) ?_)
  go_loopw [4] (fun i wr => ∃ k : Nat, k ≤ 6 ∧ i = .int .i64 k ∧ Blk wr w.heap.size (u8s zero6) 94 ∧ Blk wr (w.heap.size + 1) (u8s (part (blurF xs) 6 k)) 94 ∧ Below w.heap.size w wr) (fun i _ => 6 - (intOf i).toNat)
  case atStart => exact ⟨0, by omega, rfl, C0, by rw [HZ.out]; exact C1, c0⟩
  case round =>
    obtain ⟨k, hk, rfl, g0, g1, hb⟩ := hrel
    clear B0 B1 b0 C0 C1 c0 HZ
    by_cases hlt : k < 6
    · have hlt' : (k : Int) < 6 := by omega
      have E2 : Blk (wr.alloc (.cells #[.int .i64 0, .int .i64 0, .int .i64 0, .int .i64 0, .int .i64 0, .int .i64 0] 44)) wr.heap.size (i64s zero6) 44 := Blk.mk _ (i64s zero6) _ rfl
      have F0 := (g0.alloc (.cells #[.int .i64 0, .int .i64 0, .int .i64 0, .int .i64 0, .int .i64 0, .int .i64 0] 44)).farRow (Nat.ne_of_lt g0.lt) (i64s zero6).toArray
      have F1 := (g1.alloc (.cells #[.int .i64 0, .int .i64 0, .int .i64 0, .int .i64 0, .int .i64 0, .int .i64 0] 44)).farRow (Nat.ne_of_lt g1.lt) (i64s zero6).toArray
      have F2 := E2.setRow (i64s zero6)
      have hs0 := g0.lt
      have hs1 := g1.lt
      have hbs := hb.size
      have fb := bl_setRow (bl_new hb (.cells #[.int .i64 0, .int .i64 0, .int .i64 0, .int .i64 0, .int .i64 0, .int .i64 0] 44)) hbs (i64s zero6).toArray
      go_wp2_with (refine store_blk rfl 44 _ _ rfl _ rfl (ds := i64s zero6) rfl E2 info_6 (by rw [i64s_length]; exact rfl) (by rw [i64s_length]; exact rfl) (i64s_one _) ?_)
      generalize (wr.alloc (.cells #[.int .i64 0, .int .i64 0, .int .i64 0, .int .i64 0, .int .i64 0, .int .i64 0] 44)).setRow wr.heap.size (i64s zero6).toArray = W at *
      generalize hB : wr.heap.size = B at *
      clear E2 g0 g1 hb
      go_loopw [6] (fun i wr => ∃ m : Nat, m ≤ 4 ∧ i = .int .i64 m ∧ Blk wr w.heap.size (u8s zero6) 94 ∧ Blk wr (w.heap.size + 1) (u8s (part (blurF xs) 6 k)) 94 ∧ Blk wr B (i64s (cntL xs k m)) 44 ∧ Below w.heap.size w wr) (fun i _ => 4 - (intOf i).toNat)
      case atStart => exact ⟨0, by omega, rfl, F0, F1, F2, fb⟩
      case round =>
        obtain ⟨m, hm, rfl, g0, g1, g2, hb⟩ := hrel
        clear F0 F1 F2 fb
        by_cases hlt2 : m < 4
        · have hlt2' : (m : Int) < 4 := by omega
          have hP : pos k m = 2 * (k % 3) + 12 * (k / 3) + m % 2 + 6 * (m / 2) := rfl
          have hP24 := pos_lt k m hlt hlt2
          have n1 := (rx.nth (pos k m)).1
          have n2 : nth xs (pos k m) ≤ 5 := vf_nth hv (pos k m) (by omega)
          obtain ⟨c, hc⟩ := Int.eq_ofNat_of_zero_le n1
          have hc6 : c < 6 := by omega
          have hbd := cntB_bd xs k m c
          have hbd1 := hbd.1
          have hbd2 : cntB xs k m c ≤ 4 := by have := hbd.2; omega
          have hst := As.mk (cntL_step xs k m c hc)
          have c0 := hr (pos k m) _ (u8s_get xs _ (by omega))
          have c0' := (hb.cell (World.block_lt_of_cell? w _ c0)).trans c0
          rw [hc] at c0'
          have c2 : wr.cell? ⟨B, c, none⟩ = some (.int .i64 (cntB xs k m c)) := by rw [g2.at, i64s_get _ c (by rw [cntL_length]; exact hc6), cntL_nth xs k m c hc6]
          have f2 := g2.frozen c
          clear c0 hbd n1 n2 hc
          generalize hPP : pos k m = PP at *
          generalize hxx : k % 3 = x at *
          generalize hyy : k / 3 = y at *
          generalize hpp : m % 2 = p at *
          generalize hqq : m / 2 = q at *
          generalize cntB xs k m c = cn at *
          have b1 : x ≤ 2 := by omega
          have b2 : y ≤ 1 := by omega
          have b3 : p ≤ 1 := by omega
          have b4 : q ≤ 1 := by omega
          have hc6' : (c : Int) < 6 := by omega
          have i1 : (0 : Int) ≤ (x : Int) * 2 + p ∧ (x : Int) * 2 + p ≤ 5 := by omega
          have i2 : (0 : Int) ≤ (y : Int) * 2 + q ∧ (y : Int) * 2 + q ≤ 3 := by omega
          have i3 : (0 : Int) ≤ (x : Int) * 2 + p + 6 * ((y : Int) * 2 + q) := by omega
          have i4 : (x : Int) * 2 + p + 6 * ((y : Int) * 2 + q) < 24 := by omega
          go_wp2_with (fail)
          have e1 : ((k : Int)).tmod 3 = (x : Int) := by rw [Int.tmod_eq_emod_of_nonneg (by omega)]; omega
          have e3 : ((m : Int)).tmod 2 = (p : Int) := by rw [Int.tmod_eq_emod_of_nonneg (by omega)]; omega
          have e5 : ((k : Int)) / 3 = (y : Int) := by omega
          have e8 : ((m : Int)) / 2 = (q : Int) := by omega
          have e2 : IntKind.i64.wrap ((x : Int) * 2) = (x : Int) * 2 := IntWalk.i64_in _ (by omega)
          have e4 : IntKind.i64.wrap ((x : Int) * 2 + p) = (x : Int) * 2 + p := IntWalk.i64_in _ (by omega)
          have e6 : IntKind.i64.wrap (y : Int) = (y : Int) := IntWalk.i64_in _ (by omega)
          have e7 : IntKind.i64.wrap ((y : Int) * 2) = (y : Int) * 2 := IntWalk.i64_in _ (by omega)
          have e9 : IntKind.i64.wrap (q : Int) = (q : Int) := IntWalk.i64_in _ (by omega)
          have e10 : IntKind.i64.wrap ((y : Int) * 2 + q) = (y : Int) * 2 + q := IntWalk.i64_in _ (by omega)
          have e11 : ((x : Int) * 2 + p + 6 * ((y : Int) * 2 + q)).toNat = PP := by omega
          have e12 : IntKind.i64.wrap (cn + 1) = cn + 1 := IntWalk.i64_in _ (by omega)
          clear hP hPP
          refine wp_region_still_tail 21 (by kernel_rfl) (by kernel_rfl) ?_
          simp only [List.take_succ_cons, List.take_zero, List.drop_succ_cons, List.drop_zero]
          repeat still_step
          still_call ((l01Index_any _ _ i1 i2 _).mono fun e w' h => ⟨h.1, h.2.symm⟩)
          repeat still_step
          refine wpStill_nil ?_
          clear e1 e2 e3 e4 e5 e6 e7 e8 e9 e10 e11 e12
          go_wp2
          go_roundw
          case rel => exact ⟨m + 1, by omega, by go_num, (g0.far (by simp; omega) _).drew, (g1.far (by simp; omega) _).drew, by have := (g2.set c (.int .i64 (cn + 1))).drew; rw [i64s_set, hst.out] at this; exact this, (hb.setCell (by simp; omega) _).drew⟩
          case measure => simp [intOf]; omega
        · obtain rfl : m = 4 := by omega
          have HF := As.mk (show blurF xs k = (bestUp (cntB xs k 4) 5 : Nat) from rfl)
          have hbf := blurF_bd xs k
          go_wp2
          go_loopw [7, 8] (fun bst i wr' => ∃ j q : Nat, j ≤ 5 ∧ bst = .int .i64 (bestUp (cntB xs k 4) j : Nat) ∧ i = .int .i64 ((j + 1 : Nat) : Int) ∧ wr' = wr.drewN q) (fun _ i _ => 6 - (intOf i).toNat)
          case atStart => exact ⟨0, 0, by omega, rfl, rfl, rfl⟩
          case round =>
            obtain ⟨j, q, hj, rfl, rfl, rfl⟩ := hrel
            have hle := bestUp_le (cntB xs k 4) j
            by_cases hlt3 : j < 5
            · have hlt3' : ((j + 1 : Nat) : Int) < 6 := by omega
              have c1 : wr.cell? ⟨B, j + 1, none⟩ = some (.int .i64 (cntB xs k 4 (j + 1))) := by rw [g2.at, i64s_get _ _ (by rw [cntL_length]; omega), cntL_nth xs k 4 _ (by omega)]
              have c2 : wr.cell? ⟨B, bestUp (cntB xs k 4) j, none⟩ = some (.int .i64 (cntB xs k 4 (bestUp (cntB xs k 4) j))) := by rw [g2.at, i64s_get _ _ (by rw [cntL_length]; omega), cntL_nth xs k 4 _ (by omega)]
              have hS := As.mk (show bestUp (cntB xs k 4) (j + 1) = if cntB xs k 4 (bestUp (cntB xs k 4) j) < cntB xs k 4 (j + 1) then j + 1 else bestUp (cntB xs k 4) j from rfl)
              have hb6 : ((bestUp (cntB xs k 4) j : Nat) : Int) < 6 := by omega
              generalize bestUp (cntB xs k 4) j = u at *
              generalize cntB xs k 4 u = fu at *
              generalize cntB xs k 4 (j + 1) = fj at *
              go_wp2
              go_quiet (fail)
              by_cases hlt4 : fu < fj
              · go_wp2
                go_roundw
                case rel => exact ⟨j + 1, _, by omega, by rw [hS.out, if_pos hlt4], by go_num, rfl⟩
                case measure => simp [intOf]; omega
              · go_wp2
                go_roundw
                case rel => exact ⟨j + 1, _, by omega, by rw [hS.out, if_neg hlt4], by go_num, rfl⟩
                case measure => simp [intOf]; omega
            · obtain rfl : j = 5 := by omega
              have hn1 := hbf.1
              have hn2 := hbf.2
              rw [HF.out] at hn1 hn2
              obtain ⟨v2, c2⟩ := g1.some k (by rw [u8s_length, part_length]; exact hlt)
              have f2 := g1.frozen k
              have hps := As.mk (part_set (blurF xs) 6 k)
              rw [HF.out] at hps
              generalize bestUp (cntB xs k 4) 5 = u at *
              go_wp2
              go_roundw
              case rel => exact ⟨k + 1, by omega, by go_num, (g0.drewN q).far (by simp) _, by have := (g1.drewN q).set k (.int .u8 (u : Nat)); rw [u8s_set, hps.out] at this; exact this, (bl_drewN hb q).setCell (by simp) _⟩
              case measure => simp [intOf]; omega
    · obtain rfl : k = 6 := by omega
      rw [part_full] at g1
      have hl := blurL_length xs
      change Blk wr (w.heap.size + 1) (u8s (blurL xs)) _ at g1
      go_wp2_with (first | (refine load_blk rfl 94 _ rfl _ rfl g1 Try.underlying94 rfl info_b6 (by rw [u8s_length]; exact hl) ?_) | (refine store_blk rfl 94 _ _ rfl _ rfl (ds := u8s (blurL xs)) rfl g0 info_b6 (by rw [u8s_length]; exact hl) (by rw [u8s_length]; exact zero6_length) (u8s_one _) ?_))
      refine ret_blk rfl _ rfl (g0.setRow _) Try.underlying94 rfl info_b6 (by rw [u8s_length]; exact hl) rfl ⟨rfl, bl_setRow hb (by omega) _⟩
end Go.Proofs.Ytjppoejkfpeicaa

/- Contracts: slices.Max and slices.Index over ints. -/
set_option linter.unusedVariables false
namespace Go.Proofs.Ytjppoejkfpeicaa
open Go.RowKit

theorem best_max (f : Nat → Int) (k : Nat) : f (bestUp f (k + 1)) = if f (bestUp f k) < f (k + 1) then f (k + 1) else f (bestUp f k) := by
  show f (if f (bestUp f k) < f (k + 1) then k + 1 else bestUp f k) = _
  split <;> rfl
theorem bestUp_congr (f g : Nat → Int) : ∀ k, (∀ j, j ≤ k → f j = g j) → bestUp f k = bestUp g k
  | 0, _ => rfl
  | k + 1, h => by
    have h1 := bestUp_congr f g k (fun j hj => h j (by omega))
    have h2 := bestUp_le g k
    unfold bestUp
    rw [h1, h _ (by omega), h (k + 1) (by omega)]

theorem Max_int (xs : List Int) (h1 : 1 ≤ xs.length) (hbig : xs.length ≤ 1000000) (b o c : Nat) (w : World) (hr : w.rangeAt b o (i64s xs)) :
    Calls Try.prog 99 #[.slice (some ⟨b, o, none⟩) xs.length c] w fun e w' => e = .returned (.int .i64 (nth xs (bestUp (nth xs) (xs.length - 1)))) ∧ w = w' := by
  have c0 : w.cell? ⟨b, o + 0, none⟩ = some (.int .i64 (nth xs 0)) := hr 0 _ (i64s_get xs 0 (by omega))
  rw [Nat.add_zero] at c0
  have h1' : (1 : Int) ≤ (xs.length : Int) := by omega
  generalize hn : xs.length = n at *
  have HN := As.mk hn
  clear hn
  go_enter Try.func99, Try.ntmps99
  go_wp2
  go_loop [3, 4] (fun m i => ∃ k : Nat, k + 1 ≤ n ∧ m = .int .i64 (nth xs (bestUp (nth xs) k)) ∧ i = .int .i64 ((k + 1 : Nat) : Int)) (fun _ i => n - (intOf i).toNat)
  case atStart => exact ⟨0, by omega, rfl, rfl⟩
  case round =>
    obtain ⟨k, hk, rfl, rfl⟩ := hrel
    by_cases hlt : k + 1 < n
    · have hlt' : (((k + 1 : Nat)) : Int) < (n : Int) := by omega
      have ck : w.cell? ⟨b, o + (k + 1), none⟩ = some (.int .i64 (nth xs (k + 1))) := hr (k + 1) _ (i64s_get xs (k + 1) (by rw [HN.out]; omega))
      have hB := As.mk (best_max (nth xs) k)
      go_wp2
      go_round
      case rel => exact ⟨k + 1, by omega, by rw [hB.out], by go_num⟩
      case measure => simp [intOf]; omega
    · obtain rfl : n = k + 1 := by omega
      go_wp2
      go_ret
      exact ⟨rfl, rfl⟩

theorem Index_int (xs : List Int) (v : Int) (hbig : xs.length ≤ 1000000) (b o c : Nat) (w : World) (hr : w.rangeAt b o (i64s xs)) :
    Calls Try.prog 98 #[.slice (some ⟨b, o, none⟩) xs.length c, .int .i64 v] w fun e w' => e = .returned (.int .i64 (firstIdx (fun i => nth xs i == v) xs.length 0)) ∧ w = w' := by
  generalize hn : xs.length = n at *
  have HN := As.mk hn
  clear hn
  go_enter Try.func98, Try.ntmps98
  go_wp2
  go_loop [5, 8] (fun _ i => ∃ k : Nat, k ≤ n ∧ i = .int .i64 k ∧ As (∀ j, j < k → (nth xs j == v) = false)) (fun _ i => n - (intOf i).toNat)
  case atStart => exact ⟨0, by omega, rfl, ⟨fun j hj => by omega⟩⟩
  case round =>
    obtain ⟨k, hk, rfl, H⟩ := hrel
    by_cases hlt : k < n
    · have hlt' : (k : Int) < (n : Int) := by omega
      have ck : w.cell? ⟨b, o + k, none⟩ = some (.int .i64 (nth xs k)) := hr k _ (i64s_get xs k (by rw [HN.out]; omega))
      by_cases he : v = nth xs k
      · have he' : (v == nth xs k) = true := by simp [he]
        have hq : (nth xs k == v) = true := by simp [he]
        have HR := As.mk (firstIdx_hit (fun i => nth xs i == v) n 0 k hlt (by simpa using H.out) (by simpa using hq))
        clear hq he
        go_wp2
        go_ret
        exact ⟨ret_n (by rw [HR.out]; simp), rfl⟩
      · have he' : (v == nth xs k) = false := by simp [he]
        have hq : (nth xs k == v) = false := by simp; exact fun h => he h.symm
        have HQ := As.mk hq
        clear hq he
        go_wp2
        go_round
        case rel => exact ⟨k + 1, by omega, by go_num, ⟨all_succ H.out HQ.out⟩⟩
        case measure => simp [intOf]; omega
    · obtain rfl : k = n := by omega
      go_wp2
      go_ret
      exact ⟨ret_n (by rw [firstIdx_miss _ k 0 (by simpa using H.out)]), rfl⟩
end Go.Proofs.Ytjppoejkfpeicaa

/- Contracts: (impl.Flag).blur. -/
set_option linter.unusedVariables false
namespace Go.Proofs.Ytjppoejkfpeicaa
open Go.RowKit

theorem info_i6 : (Try.prog.info? 110).map (·.size) = some 6 := by kernel_rfl
/-- Where the cells of block b stand. -/
def posL (b : Nat) : List Int := (List.range 4).map fun m => ((pos b m : Nat) : Int)
theorem posL_length (b : Nat) : (posL b).length = 4 := by simp [posL]
theorem posL_at (b : Nat) : posL b = [2 * ((b : Int) % 3) + 12 * ((b : Int) / 3), 2 * ((b : Int) % 3) + 12 * ((b : Int) / 3) + 1, 2 * ((b : Int) % 3) + 12 * ((b : Int) / 3) + 6, 2 * ((b : Int) % 3) + 12 * ((b : Int) / 3) + 6 + 1] := by
  apply List.ext_getElem
  · simp [posL]
  · intro i h1 h2
    simp only [posL, List.getElem_map, List.getElem_range, pos]
    have : i = 0 ∨ i = 1 ∨ i = 2 ∨ i = 3 := by simp [posL] at h1; omega
    rcases this with rfl | rfl | rfl | rfl <;> simp <;> omega
theorem posL_nth (b m : Nat) (h : m < 4) : nth (posL b) m = ((pos b m : Nat) : Int) := nth_map_range _ _ _ h
theorem blur_idx (xs : List Int) (b : Nat) : firstIdx (fun i => nth (cntL xs b 4) i == nth (cntL xs b 4) (bestUp (nth (cntL xs b 4)) 5)) 6 0 = blurF xs b := by
  rw [firstIdx_best (nth (cntL xs b 4)) 5]
  unfold blurF
  rw [bestUp_congr (nth (cntL xs b 4)) (cntB xs b 4) 5 (fun j hj => cntL_nth xs b 4 j (by omega))]

set_option maxRecDepth 20000 in
set_option maxHeartbeats 2000000 in
theorem blur_any (xs : List Int) (hx : xs.length = 24) (rx : Bytes xs) (hv : vf xs = true) (w : World) :
    Calls Try.prog 84 #[fl xs] w fun e w' => e = .returned (.agg (u8s (blurL xs)).toArray) ∧ Below w.heap.size w w' := by
  unfold fl
  have HZ := As.mk (part_zero (blurF xs) 6)
  have A0 : Blk (((w.alloc (.cells (u8s xs).toArray 38)).alloc (.cells #[.int .u8 0, .int .u8 0, .int .u8 0, .int .u8 0, .int .u8 0, .int .u8 0] 94)).alloc (.cells #[.int .u8 0, .int .u8 0, .int .u8 0, .int .u8 0, .int .u8 0, .int .u8 0] 94)) w.heap.size (u8s xs) 38 := ((Blk.new _ _ _).alloc _).alloc _
  have B0 : Blk (((w.alloc (.cells (u8s xs).toArray 38)).alloc (.cells #[.int .u8 0, .int .u8 0, .int .u8 0, .int .u8 0, .int .u8 0, .int .u8 0] 94)).alloc (.cells #[.int .u8 0, .int .u8 0, .int .u8 0, .int .u8 0, .int .u8 0, .int .u8 0] 94)) (w.heap.size + 1) (u8s zero6) 94 := (Blk.mk _ (u8s zero6) _ (by simp)).alloc _
  have B1 : Blk (((w.alloc (.cells (u8s xs).toArray 38)).alloc (.cells #[.int .u8 0, .int .u8 0, .int .u8 0, .int .u8 0, .int .u8 0, .int .u8 0] 94)).alloc (.cells #[.int .u8 0, .int .u8 0, .int .u8 0, .int .u8 0, .int .u8 0, .int .u8 0] 94)) (w.heap.size + 1 + 1) (u8s zero6) 94 := Blk.mk _ (u8s zero6) _ (by simp)
  have b0 : Below w.heap.size w (((w.alloc (.cells (u8s xs).toArray 38)).alloc (.cells #[.int .u8 0, .int .u8 0, .int .u8 0, .int .u8 0, .int .u8 0, .int .u8 0] 94)).alloc (.cells #[.int .u8 0, .int .u8 0, .int .u8 0, .int .u8 0, .int .u8 0, .int .u8 0] 94)) := bl_new (bl_new (bl_new (Below.refl _ _) _) _) _
  have D0 := A0.farRow (g := w.heap.size + 1 + 1) (by omega) (u8s zero6).toArray
  have C0 := B0.farRow (g := w.heap.size + 1 + 1) (by omega) (u8s zero6).toArray
  have C1 := B1.setRow (u8s zero6)
  have c0 := bl_setRow b0 (g := w.heap.size + 1 + 1) (by omega) (u8s zero6).toArray
  go_enter Try.func84, Try.ntmps84
  go_wp2_with (refine store_blk rfl 94 _ _ rfl _ rfl (ds := u8s zero6) rfl B1 info_b6 (by rw [u8s_length]; exact rfl) (by rw [u8s_length]; exact rfl) (u8s_one _) ?_)
  go_loopw [10] (fun i wr => ∃ k : Nat, k ≤ 6 ∧ i = .int .i64 k ∧ Blk wr w.heap.size (u8s xs) 38 ∧ Blk wr (w.heap.size + 1) (u8s zero6) 94 ∧ Blk wr (w.heap.size + 1 + 1) (u8s (part (blurF xs) 6 k)) 94 ∧ Below w.heap.size w wr) (fun i _ => 6 - (intOf i).toNat)
  case atStart => exact ⟨0, by omega, rfl, D0, C0, by rw [HZ.out]; exact C1, c0⟩
  case round =>
    obtain ⟨k, hk, rfl, g, g0, g1, hb⟩ := hrel
    clear A0 B0 B1 b0 D0 C0 C1 c0 HZ
    by_cases hlt : k < 6
    · have hlt' : (k : Int) < 6 := by omega
      have E2 : Blk (wr.alloc (.cells #[.int .i64 0, .int .i64 0, .int .i64 0, .int .i64 0, .int .i64 0, .int .i64 0] 110)) wr.heap.size (i64s zero6) 110 := Blk.mk _ (i64s zero6) _ rfl
      have Fx := (g.alloc (.cells #[.int .i64 0, .int .i64 0, .int .i64 0, .int .i64 0, .int .i64 0, .int .i64 0] 110)).farRow (Nat.ne_of_lt g.lt) (i64s zero6).toArray
      have F0 := (g0.alloc (.cells #[.int .i64 0, .int .i64 0, .int .i64 0, .int .i64 0, .int .i64 0, .int .i64 0] 110)).farRow (Nat.ne_of_lt g0.lt) (i64s zero6).toArray
      have F1 := (g1.alloc (.cells #[.int .i64 0, .int .i64 0, .int .i64 0, .int .i64 0, .int .i64 0, .int .i64 0] 110)).farRow (Nat.ne_of_lt g1.lt) (i64s zero6).toArray
      have F2 := E2.setRow (i64s zero6)
      have hs0 := g.lt
      have hs1 := g1.lt
      have hbs := hb.size
      have fb := bl_setRow (bl_new hb (.cells #[.int .i64 0, .int .i64 0, .int .i64 0, .int .i64 0, .int .i64 0, .int .i64 0] 110)) hbs (i64s zero6).toArray
      have hsz : ((wr.alloc (.cells #[.int .i64 0, .int .i64 0, .int .i64 0, .int .i64 0, .int .i64 0, .int .i64 0] 110)).setRow wr.heap.size (i64s zero6).toArray).heap.size = wr.heap.size + 1 := by simp
      go_wp2_with (refine store_blk rfl 110 _ _ rfl _ rfl (ds := i64s zero6) rfl E2 info_i6 (by rw [i64s_length]; exact rfl) (by rw [i64s_length]; exact rfl) (i64s_one _) ?_)
      have hP := posL_at k
      generalize 2 * ((k : Int) % 3) + 12 * ((k : Int) / 3) = F at *
      have W2 : Blk (((wr.alloc (.cells #[.int .i64 0, .int .i64 0, .int .i64 0, .int .i64 0, .int .i64 0, .int .i64 0] 110)).setRow wr.heap.size (i64s zero6).toArray).alloc (.cells #[.int .i64 F, .int .i64 (F + 1), .int .i64 (F + 6), .int .i64 (F + 6 + 1)] 3)) (wr.heap.size + 1) (i64s (posL k)) 3 := by
        rw [hP]; exact Blk.mk _ (i64s [F, F + 1, F + 6, F + 6 + 1]) _ hsz.symm
      replace Fx := Fx.alloc (.cells #[.int .i64 F, .int .i64 (F + 1), .int .i64 (F + 6), .int .i64 (F + 6 + 1)] 3)
      replace F0 := F0.alloc (.cells #[.int .i64 F, .int .i64 (F + 1), .int .i64 (F + 6), .int .i64 (F + 6 + 1)] 3)
      replace F1 := F1.alloc (.cells #[.int .i64 F, .int .i64 (F + 1), .int .i64 (F + 6), .int .i64 (F + 6 + 1)] 3)
      replace F2 := F2.alloc (.cells #[.int .i64 F, .int .i64 (F + 1), .int .i64 (F + 6), .int .i64 (F + 6 + 1)] 3)
      replace fb := bl_new fb (.cells #[.int .i64 F, .int .i64 (F + 1), .int .i64 (F + 6), .int .i64 (F + 6 + 1)] 3)
      generalize ((wr.alloc (.cells #[.int .i64 0, .int .i64 0, .int .i64 0, .int .i64 0, .int .i64 0, .int .i64 0] 110)).setRow wr.heap.size (i64s zero6).toArray).alloc (.cells #[.int .i64 F, .int .i64 (F + 1), .int .i64 (F + 6), .int .i64 (F + 6 + 1)] 3) = W at *
      generalize wr.heap.size = B at *
      clear E2 g g0 g1 hb hP hsz
      go_loopw [31] (fun i wr => ∃ m : Nat, m ≤ 4 ∧ i = .int .i64 m ∧ Blk wr w.heap.size (u8s xs) 38 ∧ Blk wr (w.heap.size + 1) (u8s zero6) 94 ∧ Blk wr (w.heap.size + 1 + 1) (u8s (part (blurF xs) 6 k)) 94 ∧ Blk wr B (i64s (cntL xs k m)) 110 ∧ Blk wr (B + 1) (i64s (posL k)) 3 ∧ Below w.heap.size w wr) (fun i _ => 4 - (intOf i).toNat)
      case atStart => exact ⟨0, by omega, rfl, Fx, F0, F1, F2, W2, fb⟩
      case round =>
        obtain ⟨m, hm, rfl, g, g0, g1, g2, g3, hb⟩ := hrel
        clear Fx F0 F1 F2 W2 fb
        by_cases hlt2 : m < 4
        · have hlt2' : (m : Int) < 4 := by omega
          have hP24 := pos_lt k m hlt hlt2
          have n1 := (rx.nth (pos k m)).1
          have n2 : nth xs (pos k m) ≤ 5 := vf_nth hv (pos k m) (by omega)
          obtain ⟨c, hc⟩ := Int.eq_ofNat_of_zero_le n1
          have hc6 : c < 6 := by omega
          have hbd := cntB_bd xs k m c
          have hbd1 := hbd.1
          have hbd2 : cntB xs k m c ≤ 4 := by have := hbd.2; omega
          have hst := As.mk (cntL_step xs k m c hc)
          have cp : wr.cell? ⟨B + 1, m, none⟩ = some (.int .i64 ((pos k m : Nat) : Int)) := by rw [g3.at, i64s_get _ m (by rw [posL_length]; exact hlt2), posL_nth k m hlt2]
          have c0 : wr.cell? ⟨w.heap.size, pos k m, none⟩ = some (.int .u8 c) := by rw [g.at, u8s_get xs _ (by omega), hc]
          have c2 : wr.cell? ⟨B, c, none⟩ = some (.int .i64 (cntB xs k m c)) := by rw [g2.at, i64s_get _ c (by rw [cntL_length]; exact hc6), cntL_nth xs k m c hc6]
          have f2 := g2.frozen c
          clear hbd n1 n2 hc
          generalize pos k m = PP at *
          generalize cntB xs k m c = cn at *
          have hc6' : (c : Int) < 6 := by omega
          have hp6' : (PP : Int) < 24 := by omega
          go_wp2
          go_roundw
          case rel => exact ⟨m + 1, by omega, by go_num, g.far (by simp; omega) _, g0.far (by simp; omega) _, g1.far (by simp; omega) _, by have := g2.set c (.int .i64 (cn + 1)); rw [i64s_set, hst.out] at this; exact this, g3.far (by simp) _, hb.setCell (by simp; omega) _⟩
          case measure => simp [intOf]; omega
        · obtain rfl : m = 4 := by omega
          have hbf := blurF_bd xs k
          have n1 := hbf.1; have n2 := hbf.2
          obtain ⟨v2, c2⟩ := g1.some k (by rw [u8s_length, part_length]; exact hlt)
          have f2 := g1.frozen k
          have hps := As.mk (part_set (blurF xs) 6 k)
          have kI := blur_idx xs k
          have kM := fun W h => Max_int (cntL xs k 4) (by simp [cntL]) (by simp [cntL]) B 0 6 W h
          have kX := fun W h => Index_int (cntL xs k 4) (nth (cntL xs k 4) (bestUp (nth (cntL xs k 4)) 5)) (by simp [cntL]) B 0 6 W h
          have hR := g2.drew.range
          rw [cntL_length] at kM kX
          rw [kI] at kX
          simp only [Nat.reduceSub] at kM
          generalize nth (cntL xs k 4) (bestUp (nth (cntL xs k 4)) 5) = mx at *
          generalize blurF xs k = bf at *
          go_wp2_with (fail)
          have e1 : IntKind.u8.wrap bf = bf := IntWalk.u8_in _ (by omega)
          refine wp_region_still_tail 7 (by kernel_rfl) (by kernel_rfl) ?_
          simp only [List.take_succ_cons, List.take_zero, List.drop_succ_cons, List.drop_zero]
          repeat still_step
          still_call ((kM _ hR).mono fun e w' h => ⟨h.1, h.2.symm⟩)
          repeat still_step
          still_call ((kX _ hR).mono fun e w' h => ⟨h.1, h.2.symm⟩)
          repeat still_step
          refine wpStill_nil ?_
          clear e1
          go_wp2
          go_roundw
          case rel => exact ⟨k + 1, by omega, by go_num, (g.far (by simp; omega) _).drew, (g0.far (by simp) _).drew, by have := (g1.set k (.int .u8 bf)).drew; rw [u8s_set, hps.out] at this; exact this, (hb.setCell (by simp; omega) _).drew⟩
          case measure => simp [intOf]; omega
    · obtain rfl : k = 6 := by omega
      rw [part_full] at g1
      have hl := blurL_length xs
      change Blk wr (w.heap.size + 1 + 1) (u8s (blurL xs)) _ at g1
      go_wp2_with (first | (refine load_blk rfl 94 _ rfl _ rfl g1 Try.underlying94 rfl info_b6 (by rw [u8s_length]; exact hl) ?_) | (refine store_blk rfl 94 _ _ rfl _ rfl (ds := u8s (blurL xs)) rfl g0 info_b6 (by rw [u8s_length]; exact hl) (by rw [u8s_length]; exact zero6_length) (u8s_one _) ?_))
      refine ret_blk rfl _ rfl (g0.setRow _) Try.underlying94 rfl info_b6 (by rw [u8s_length]; exact hl) rfl ⟨rfl, bl_setRow hb (by omega) _⟩
end Go.Proofs.Ytjppoejkfpeicaa

/- For laws: a region that draws its order and calls functions which make memory, beside loads of whole flags. -/
set_option linter.unusedVariables false
namespace Go.Proofs.Ytjppoejkfpeicaa
open Go.RowKit

theorem range_kept {w w' : World} {b o : Nat} {cs : List Value} (h : w.rangeAt b o cs) (hb : Below w.heap.size w w') : w'.rangeAt b o cs := fun j v hv => by
  have := h j v hv
  rw [hb.cell (World.block_lt_of_cell? w _ this)]; exact this
/-- What is kept through such a region: what came before lies as it did, and one or two flags lie where they did. -/
theorem keep1 {w W W' : World} {b1 : Nat} {c1 : List Value} (h : Below w.heap.size w W ∧ W.rangeAt b1 0 c1) (hb : Below W.heap.size W W') :
    Below w.heap.size w W' ∧ W'.rangeAt b1 0 c1 := ⟨bl_call h.1 hb, range_kept h.2 hb⟩
theorem keep2 {w W W' : World} {b1 b2 : Nat} {c1 c2 : List Value} (h : Below w.heap.size w W ∧ W.rangeAt b1 0 c1 ∧ W.rangeAt b2 0 c2) (hb : Below W.heap.size W W') :
    Below w.heap.size w W' ∧ W'.rangeAt b1 0 c1 ∧ W'.rangeAt b2 0 c2 := ⟨bl_call h.1 hb, range_kept h.2.1 hb, range_kept h.2.2 hb⟩
theorem drew2 {w W : World} {b1 b2 : Nat} {c1 c2 : List Value} (h : Below w.heap.size w W ∧ W.rangeAt b1 0 c1 ∧ W.rangeAt b2 0 c2) :
    Below w.heap.size w W.drew ∧ W.drew.rangeAt b1 0 c1 ∧ W.drew.rangeAt b2 0 c2 := ⟨h.1.drew, h.2.1, h.2.2⟩
theorem start2 (w : World) (c1 c2 : List Value) (t1 t2 : TypeId) : Below w.heap.size w ((w.alloc (.cells c1.toArray t1)).alloc (.cells c2.toArray t2)) ∧ ((w.alloc (.cells c1.toArray t1)).alloc (.cells c2.toArray t2)).rangeAt w.heap.size 0 c1 ∧ ((w.alloc (.cells c1.toArray t1)).alloc (.cells c2.toArray t2)).rangeAt (w.heap.size + 1) 0 c2 :=
  ⟨bl_new (bl_new (Below.refl _ w) _) _, ((Blk.new _ _ _).alloc _).range, (Blk.mk _ _ _ (by simp)).range⟩

section
variable {P : Program} {ops : Array Oper} {Q : Exit → Act → World → Prop} {S : World → Prop} {listed : Array Bool} {ts : List Value} {ds : List Deferred} {w : World} {fuel : Nat}
/-- 'wpAnyH_take', the slot and the frame written out. -/
theorem hTake (i d : Nat) {oi : Oper} {v : Value} (hi : ops[i]? = some oi) (hd : oi.dst = some d)
    (hs : Region.noSelect ops = true) (hf : Region.free .any ops listed i = true) (hr : (Region.ready .any ops listed).contains i = true)
    (hQ : ∀ c a w, Q (.panic c) (a.put oi.dst v) w → Q (.panic c) a w) (hy : YieldsIf P ops S oi v ⟨ts.toArray, ds⟩) (hS : S w)
    (h : wpAnyH P .any ops Q S fuel (listed.setIfInBounds i true) ⟨(ts.set d v).toArray, ds⟩ w) : wpAnyH P .any ops Q S (fuel + 1) listed ⟨ts.toArray, ds⟩ w :=
  wpAnyH_take hi hs hf hr hQ hy hS (by rw [hd]; simpa [Act.put] using h)
/-- The one operation that may come up is a call of function f. -/
theorem hCall (i d f : Nat) {oi : Oper} (hi : ops[i]? = some oi) (hd : oi.dst = some d) (hr : Region.ready .any ops listed = [i]) {args : Array Value}
    (hw : Region.wanted oi (yielded ops ts.toArray) = true) (he : (execOp (Act.mk ts.toArray ds).eval oi).run P w = .ok (.enter f args) w) (v : Value) {R : World → Prop}
    (hc : Calls P f args w fun e w' => e = .returned v ∧ R w')
    (h : ∀ w', R w' → S w' ∧ wpAnyH P .any ops Q S fuel (listed.setIfInBounds i true) ⟨(ts.set d v).toArray, ds⟩ w') : wpAnyH P .any ops Q S (fuel + 1) listed ⟨ts.toArray, ds⟩ w := by
  refine wpAnyH_ready (rs := [i]) hr (by simp) (AllReadyH.cons hi (fun K hK => ?_) AllReadyH.nil)
  rw [if_pos hw]
  unfold Oper.wp
  rw [he, Oper.upon_enter]
  refine hc.mono ?_
  rintro e w' ⟨rfl, hR⟩
  obtain ⟨h1, h2⟩ := h w' hR
  refine hK.out _ _ h1 (fun _ => ?_)
  rw [hd]
  simpa [Act.put] using h2
end
end Go.Proofs.Ytjppoejkfpeicaa
