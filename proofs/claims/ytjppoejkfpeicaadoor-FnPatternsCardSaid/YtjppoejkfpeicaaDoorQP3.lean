/- Contracts and plain facts, several texts in one. -/
import Derived.Test.YtjppoejkfpeicaaDoorQP2
import Derived.StillTailTactics
import Derived.Test.YtjppoejkfpeicaaDoorQP1
/- Contracts: TurnFlag: both sides. -/
set_option linter.unusedVariables false
namespace Go.Proofs.YtjppoejkfpeicaaDoor
open Go.RowKit

def zero24 : List Int := List.replicate 24 0
/-- The flag that is handed back: ys, or none. -/
def okF (b : Bool) (ys : List Int) : List Int := if b then ys else zero24
theorem zero24_length : zero24.length = 24 := rfl
theorem okF_length {b : Bool} {ys : List Int} (h : ys.length = 24) : (okF b ys).length = 24 := by cases b; exact zero24_length; exact h
theorem ret_f {xs ys : List Int} {n m : Int} (h : xs = ys) (h' : n = m) : Ending.returned (.tuple #[fl xs, .int .i64 n]) = .returned (.tuple #[fl ys, .int .i64 m]) := by rw [h, h']

set_option maxHeartbeats 800000 in
theorem turned_any (xs : List Int) (hx : xs.length = 24) (w : World) :
    Calls Tryd.prog 37 #[fl xs] w fun e w' => e = .returned (fl (turnL xs)) ∧ Below w.heap.size w w' := by
  unfold fl
  have B0 : Blk ((w.alloc (.cells (u8s xs).toArray 23)).alloc (.cells #[.int .u8 0, .int .u8 0, .int .u8 0, .int .u8 0, .int .u8 0, .int .u8 0, .int .u8 0, .int .u8 0, .int .u8 0, .int .u8 0, .int .u8 0, .int .u8 0, .int .u8 0, .int .u8 0, .int .u8 0, .int .u8 0, .int .u8 0, .int .u8 0, .int .u8 0, .int .u8 0, .int .u8 0, .int .u8 0, .int .u8 0, .int .u8 0] 23)) w.heap.size (u8s xs) 23 := (Blk.new _ _ _).alloc _
  have B1 : Blk ((w.alloc (.cells (u8s xs).toArray 23)).alloc (.cells #[.int .u8 0, .int .u8 0, .int .u8 0, .int .u8 0, .int .u8 0, .int .u8 0, .int .u8 0, .int .u8 0, .int .u8 0, .int .u8 0, .int .u8 0, .int .u8 0, .int .u8 0, .int .u8 0, .int .u8 0, .int .u8 0, .int .u8 0, .int .u8 0, .int .u8 0, .int .u8 0, .int .u8 0, .int .u8 0, .int .u8 0, .int .u8 0] 23)) (w.heap.size + 1) (u8s zero24) 23 := Blk.mk _ (u8s zero24) _ (by simp)
  have b0 : Below w.heap.size w ((w.alloc (.cells (u8s xs).toArray 23)).alloc (.cells #[.int .u8 0, .int .u8 0, .int .u8 0, .int .u8 0, .int .u8 0, .int .u8 0, .int .u8 0, .int .u8 0, .int .u8 0, .int .u8 0, .int .u8 0, .int .u8 0, .int .u8 0, .int .u8 0, .int .u8 0, .int .u8 0, .int .u8 0, .int .u8 0, .int .u8 0, .int .u8 0, .int .u8 0, .int .u8 0, .int .u8 0, .int .u8 0] 23)) := bl_new (bl_new (Below.refl _ _) _) _
  have hl : (turnL xs).length = 24 := turnL_length xs
  go_enter Tryd.func37, Tryd.ntmps37
  go_wp2_with (fail)
  refine (Reverse_u8 xs hx _ _ _ _ B0).mono ?_; rintro e w1 ⟨rfl, h1, ho⟩
  have h2 := ho.blk B1 (by omega)
  have hb := ho.below b0 (Nat.le_refl _) (by simp; omega)
  go_wp2_with (first | (refine load_blk rfl 23 _ rfl _ rfl h1 Tryd.underlying23 rfl info_fl (by rw [u8s_length]; exact hl) ?_) | (refine store_blk rfl 23 _ _ rfl _ rfl rfl h2 info_fl (by rw [u8s_length]; exact hl) (by rw [u8s_length]; exact zero24_length) (u8s_one _) ?_))
  refine ret_blk rfl _ rfl (h2.setRow _) Tryd.underlying23 rfl info_fl (by rw [u8s_length]; exact hl) rfl ⟨rfl, bl_setRow hb (by omega) _⟩

set_option maxHeartbeats 800000 in
theorem sTurnFlag_any (xs : List Int) (hx : xs.length = 24) (w : World) :
    Calls Tryd.prog 14 #[fl xs] w fun e w' => e = .returned (.tuple #[fl (okF (vf xs) (turnL xs)), .int .i64 (codeV (vf xs))]) ∧ Below w.heap.size w w' := by
  unfold fl
  have B0 : Blk ((w.alloc (.cells (u8s xs).toArray 23)).alloc (.cells #[.int .u8 0, .int .u8 0, .int .u8 0, .int .u8 0, .int .u8 0, .int .u8 0, .int .u8 0, .int .u8 0, .int .u8 0, .int .u8 0, .int .u8 0, .int .u8 0, .int .u8 0, .int .u8 0, .int .u8 0, .int .u8 0, .int .u8 0, .int .u8 0, .int .u8 0, .int .u8 0, .int .u8 0, .int .u8 0, .int .u8 0, .int .u8 0] 23)) w.heap.size (u8s xs) 23 := (Blk.new _ _ _).alloc _
  have B1 : Blk ((w.alloc (.cells (u8s xs).toArray 23)).alloc (.cells #[.int .u8 0, .int .u8 0, .int .u8 0, .int .u8 0, .int .u8 0, .int .u8 0, .int .u8 0, .int .u8 0, .int .u8 0, .int .u8 0, .int .u8 0, .int .u8 0, .int .u8 0, .int .u8 0, .int .u8 0, .int .u8 0, .int .u8 0, .int .u8 0, .int .u8 0, .int .u8 0, .int .u8 0, .int .u8 0, .int .u8 0, .int .u8 0] 23)) (w.heap.size + 1) (u8s zero24) 23 := Blk.mk _ (u8s zero24) _ (by simp)
  have b0 : Below w.heap.size w ((w.alloc (.cells (u8s xs).toArray 23)).alloc (.cells #[.int .u8 0, .int .u8 0, .int .u8 0, .int .u8 0, .int .u8 0, .int .u8 0, .int .u8 0, .int .u8 0, .int .u8 0, .int .u8 0, .int .u8 0, .int .u8 0, .int .u8 0, .int .u8 0, .int .u8 0, .int .u8 0, .int .u8 0, .int .u8 0, .int .u8 0, .int .u8 0, .int .u8 0, .int .u8 0, .int .u8 0, .int .u8 0] 23)) := bl_new (bl_new (Below.refl _ _) _) _
  have hl : (turnL xs).length = 24 := turnL_length xs
  cases h1 : vf xs
  · go_enter Tryd.func14, Tryd.ntmps14
    go_wp2_with (first | (go_at_call 35; refine (l01Ok_any xs hx _ 0 _ B0.range).mono ?_; rintro e w' ⟨rfl, rfl⟩) | (refine store_blk rfl 23 _ _ rfl _ rfl (ds := u8s zero24) rfl B1 info_fl (by rfl) (by rfl) (u8s_one _) ?_))
    refine ret_blk_tmp rfl _ rfl (B1.setRow _) Tryd.underlying23 rfl info_fl (by rfl) rfl ⟨rfl, bl_setRow b0 (by omega) _⟩
  · go_enter Tryd.func14, Tryd.ntmps14
    go_wp2_with (go_at_call 35; refine (l01Ok_any xs hx _ 0 _ B0.range).mono ?_; rintro e w' ⟨rfl, rfl⟩)
    refine (l01Turn_any xs hx _ 0 _ B0.range).mono ?_; rintro e w1 ⟨rfl, hb1⟩
    have h2 := B1.kept hb1
    go_wp2_with (refine store_blk rfl 23 _ _ rfl _ rfl rfl h2 info_fl (by rw [u8s_length]; exact hl) (by rw [u8s_length]; exact zero24_length) (u8s_one _) ?_)
    refine ret_blk_tmp rfl _ rfl (h2.setRow _) Tryd.underlying23 rfl info_fl (by rw [u8s_length]; exact hl) rfl ⟨rfl, bl_setRow (bl_call b0 hb1) (by omega) _⟩

set_option maxHeartbeats 800000 in
theorem TurnFlag_any (xs : List Int) (hx : xs.length = 24) (w : World) :
    Calls Tryd.prog 13 #[fl xs] w fun e w' => e = .returned (.tuple #[fl (okF (vf xs) (turnL xs)), .int .i64 (codeV (vf xs))]) ∧ Below w.heap.size w w' := by
  unfold fl
  have B0 : Blk ((w.alloc (.cells (u8s xs).toArray 23)).alloc (.cells #[.int .u8 0, .int .u8 0, .int .u8 0, .int .u8 0, .int .u8 0, .int .u8 0, .int .u8 0, .int .u8 0, .int .u8 0, .int .u8 0, .int .u8 0, .int .u8 0, .int .u8 0, .int .u8 0, .int .u8 0, .int .u8 0, .int .u8 0, .int .u8 0, .int .u8 0, .int .u8 0, .int .u8 0, .int .u8 0, .int .u8 0, .int .u8 0] 23)) w.heap.size (u8s xs) 23 := (Blk.new _ _ _).alloc _
  have B1 : Blk ((w.alloc (.cells (u8s xs).toArray 23)).alloc (.cells #[.int .u8 0, .int .u8 0, .int .u8 0, .int .u8 0, .int .u8 0, .int .u8 0, .int .u8 0, .int .u8 0, .int .u8 0, .int .u8 0, .int .u8 0, .int .u8 0, .int .u8 0, .int .u8 0, .int .u8 0, .int .u8 0, .int .u8 0, .int .u8 0, .int .u8 0, .int .u8 0, .int .u8 0, .int .u8 0, .int .u8 0, .int .u8 0] 23)) (w.heap.size + 1) (u8s zero24) 23 := Blk.mk _ (u8s zero24) _ (by simp)
  have b0 : Below w.heap.size w ((w.alloc (.cells (u8s xs).toArray 23)).alloc (.cells #[.int .u8 0, .int .u8 0, .int .u8 0, .int .u8 0, .int .u8 0, .int .u8 0, .int .u8 0, .int .u8 0, .int .u8 0, .int .u8 0, .int .u8 0, .int .u8 0, .int .u8 0, .int .u8 0, .int .u8 0, .int .u8 0, .int .u8 0, .int .u8 0, .int .u8 0, .int .u8 0, .int .u8 0, .int .u8 0, .int .u8 0, .int .u8 0] 23)) := bl_new (bl_new (Below.refl _ _) _) _
  have hl : (turnL xs).length = 24 := turnL_length xs
  cases h1 : vf xs
  · go_enter Tryd.func13, Tryd.ntmps13
    go_wp2_with (refine load_blk rfl 23 _ rfl _ rfl B0 Tryd.underlying23 rfl info_fl (by rw [u8s_length]; exact hx) ?_)
    refine (ValidFlag_any xs hx _).mono ?_; rintro e w1 ⟨rfl, hb1⟩
    have h2 := B1.kept hb1
    go_wp2_with (refine store_blk rfl 23 _ _ rfl _ rfl (ds := u8s zero24) rfl h2 info_fl (by rfl) (by rfl) (u8s_one _) ?_)
    refine ret_blk_tmp rfl _ rfl (h2.setRow _) Tryd.underlying23 rfl info_fl (by rfl) rfl ⟨rfl, bl_setRow (bl_call b0 hb1) (by omega) _⟩
  · go_enter Tryd.func13, Tryd.ntmps13
    go_wp2_with (refine load_blk rfl 23 _ rfl _ rfl B0 Tryd.underlying23 rfl info_fl (by rw [u8s_length]; exact hx) ?_)
    refine (ValidFlag_any xs hx _).mono ?_; rintro e w1 ⟨rfl, hb1⟩
    have h0 := B0.kept hb1
    go_wp2_with (refine load_blk rfl 23 _ rfl _ rfl h0 Tryd.underlying23 rfl info_fl (by rw [u8s_length]; exact hx) ?_)
    refine (turned_any xs hx _).mono ?_; rintro e w2 ⟨rfl, hb2⟩
    have h2 := (B1.kept hb1).kept hb2
    go_wp2_with (refine store_blk rfl 23 _ _ rfl _ rfl rfl h2 info_fl (by rw [u8s_length]; exact hl) (by rw [u8s_length]; exact zero24_length) (u8s_one _) ?_)
    refine ret_blk_tmp rfl _ rfl (h2.setRow _) Tryd.underlying23 rfl info_fl (by rw [u8s_length]; exact hl) rfl ⟨rfl, bl_setRow (bl_call (bl_call b0 hb1) hb2) (by omega) _⟩
end Go.Proofs.YtjppoejkfpeicaaDoor

/- Contracts: impl.flagOf over any closure; MirrorFlag: both sides. -/
set_option linter.unusedVariables false
namespace Go.Proofs.YtjppoejkfpeicaaDoor
open Go.RowKit

set_option maxHeartbeats 800000 in
/-- impl.flagOf: the closure of function g, captured lb, gives f i at cell i, in whatever later world. -/
theorem flagOf_any (g : Nat) (lb : Array Value) (eg : ∀ args w, (callFunc g args).run Tryd.prog w = .ok (.enter g args) w) (f : Nat → Int) (hf : ∀ i, i < 24 → 0 ≤ f i ∧ f i ≤ 255) (w : World)
    (hp : ∀ (W : World) (k : Nat), k < 24 → Below w.heap.size w W → Calls Tryd.prog g (#[.int .i64 ((k : Int) % 6), .int .i64 ((k : Int) / 6)] ++ lb) W fun e w' => e = .returned (.int .i64 (f k)) ∧ Below W.heap.size W w') :
    Calls Tryd.prog 59 #[.func (.func g) #[] lb] w fun e w' => e = .returned (fl ((List.range 24).map f)) ∧ Below w.heap.size w w' := by
  have hz : part f 24 0 = zero24 := part_zero _ _
  have HZ := As.mk hz
  clear hz
  have BZ : Blk ((w.alloc (.cells #[.int .u8 0, .int .u8 0, .int .u8 0, .int .u8 0, .int .u8 0, .int .u8 0, .int .u8 0, .int .u8 0, .int .u8 0, .int .u8 0, .int .u8 0, .int .u8 0, .int .u8 0, .int .u8 0, .int .u8 0, .int .u8 0, .int .u8 0, .int .u8 0, .int .u8 0, .int .u8 0, .int .u8 0, .int .u8 0, .int .u8 0, .int .u8 0] 23)).alloc (.cells #[.int .u8 0, .int .u8 0, .int .u8 0, .int .u8 0, .int .u8 0, .int .u8 0, .int .u8 0, .int .u8 0, .int .u8 0, .int .u8 0, .int .u8 0, .int .u8 0, .int .u8 0, .int .u8 0, .int .u8 0, .int .u8 0, .int .u8 0, .int .u8 0, .int .u8 0, .int .u8 0, .int .u8 0, .int .u8 0, .int .u8 0, .int .u8 0] 23)) (w.heap.size + 1) (u8s zero24) 23 := Blk.mk _ (u8s zero24) _ (by simp)
  have BY : Blk ((w.alloc (.cells #[.int .u8 0, .int .u8 0, .int .u8 0, .int .u8 0, .int .u8 0, .int .u8 0, .int .u8 0, .int .u8 0, .int .u8 0, .int .u8 0, .int .u8 0, .int .u8 0, .int .u8 0, .int .u8 0, .int .u8 0, .int .u8 0, .int .u8 0, .int .u8 0, .int .u8 0, .int .u8 0, .int .u8 0, .int .u8 0, .int .u8 0, .int .u8 0] 23)).alloc (.cells #[.int .u8 0, .int .u8 0, .int .u8 0, .int .u8 0, .int .u8 0, .int .u8 0, .int .u8 0, .int .u8 0, .int .u8 0, .int .u8 0, .int .u8 0, .int .u8 0, .int .u8 0, .int .u8 0, .int .u8 0, .int .u8 0, .int .u8 0, .int .u8 0, .int .u8 0, .int .u8 0, .int .u8 0, .int .u8 0, .int .u8 0, .int .u8 0] 23)) w.heap.size (u8s zero24) 23 := (Blk.mk w (u8s zero24) _ rfl).alloc _
  have bZ : Below w.heap.size w ((w.alloc (.cells #[.int .u8 0, .int .u8 0, .int .u8 0, .int .u8 0, .int .u8 0, .int .u8 0, .int .u8 0, .int .u8 0, .int .u8 0, .int .u8 0, .int .u8 0, .int .u8 0, .int .u8 0, .int .u8 0, .int .u8 0, .int .u8 0, .int .u8 0, .int .u8 0, .int .u8 0, .int .u8 0, .int .u8 0, .int .u8 0, .int .u8 0, .int .u8 0] 23)).alloc (.cells #[.int .u8 0, .int .u8 0, .int .u8 0, .int .u8 0, .int .u8 0, .int .u8 0, .int .u8 0, .int .u8 0, .int .u8 0, .int .u8 0, .int .u8 0, .int .u8 0, .int .u8 0, .int .u8 0, .int .u8 0, .int .u8 0, .int .u8 0, .int .u8 0, .int .u8 0, .int .u8 0, .int .u8 0, .int .u8 0, .int .u8 0, .int .u8 0] 23)) := bl_new (bl_new (Below.refl _ _) _) _
  go_enter Tryd.func59, Tryd.ntmps59
  go_wp2_with (refine store_blk rfl 23 _ _ rfl _ rfl (ds := u8s zero24) rfl BZ info_fl (by rfl) (by rfl) (u8s_one _) ?_)
  go_loopw [6] (fun i wr => ∃ k : Nat, k ≤ 24 ∧ i = .int .i64 k ∧ Blk wr w.heap.size (u8s zero24) 23 ∧ Blk wr (w.heap.size + 1) (u8s (part f 24 k)) 23 ∧ Below w.heap.size w wr) (fun i _ => 24 - (intOf i).toNat)
  case atStart => exact ⟨0, by omega, rfl, BY.farRow (by omega) _, by rw [HZ.out]; exact BZ.setRow _, bl_setRow bZ (by omega) _⟩
  case round =>
    obtain ⟨k, hk, rfl, h1, h2, hb⟩ := hrel
    by_cases hlt : k < 24
    · have hlt' : (k : Int) < 24 := by omega
      have hfk := hf k hlt
      have n1 := hfk.1; have n2 := hfk.2
      have hcall := hp wr k hlt hb
      go_wp2_with (fail)
      refine hcall.mono ?_; rintro e w1 ⟨rfl, hb1⟩
      have h1' := h1.kept hb1
      have h2' := h2.kept hb1
      have hb' := bl_call hb hb1
      obtain ⟨v2, c2⟩ := h2'.some k (by rw [u8s_length, part_length]; exact hlt)
      have f2 := h2'.frozen k
      clear hcall
      go_wp2_with (fail)
      go_roundw
      case rel => exact ⟨k + 1, by omega, by go_num, h1'.far (by simp) _, by have := h2'.set k (.int .u8 (f k)); rw [u8s_set, part_set f] at this; exact this, hb'.setCell (by simp) _⟩
      case measure => simp [intOf]; omega
    · obtain rfl : k = 24 := by omega
      rw [part_full] at h2
      have hl : ((List.range 24).map f).length = 24 := by simp
      go_wp2_with (first | (refine load_blk rfl 23 _ rfl _ rfl h2 Tryd.underlying23 rfl info_fl (by rw [u8s_length]; exact hl) ?_) | (refine store_blk rfl 23 _ _ rfl _ rfl rfl h1 info_fl (by rw [u8s_length]; exact hl) (by rw [u8s_length]; exact zero24_length) (u8s_one _) ?_))
      refine ret_blk rfl _ rfl (h1.setRow _) Tryd.underlying23 rfl info_fl (by rw [u8s_length]; exact hl) rfl ⟨rfl, bl_setRow hb (by omega) _⟩

/-- A flag from the other side. -/
def mirF (xs : List Int) (i : Nat) : Int := nth xs (5 - i % 6 + 6 * (i / 6))
def mirrorL (xs : List Int) : List Int := (List.range 24).map (mirF xs)
theorem mirrorL_length (xs : List Int) : (mirrorL xs).length = 24 := by simp [mirrorL]

set_option maxHeartbeats 400000 in
theorem mirrored1_any (xs : List Int) (hx : xs.length = 24) (rx : Bytes xs) (b k : Nat) (hk : k < 24) (w : World) (hr : w.rangeAt b 0 (u8s xs)) :
    Calls Tryd.prog 60 #[.int .i64 ((k : Int) % 6), .int .i64 ((k : Int) / 6), .pointer (some ⟨b, 0, none⟩)] w fun e w' => e = .returned (.int .i64 (mirF xs k)) ∧ Below w.heap.size w w' := by
  have c0 := hr (5 - k % 6 + 6 * (k / 6)) _ (u8s_get xs _ (by omega))
  have n1 := (rx.nth (5 - k % 6 + 6 * (k / 6))).1
  have n2 := (rx.nth (5 - k % 6 + 6 * (k / 6))).2
  have h1 : (0 : Int) ≤ (k : Int) % 6 := by omega
  have h2 : (k : Int) % 6 ≤ 5 := by omega
  have h3 : (0 : Int) ≤ (k : Int) / 6 := by omega
  have h4 : (k : Int) / 6 ≤ 3 := by omega
  rw [Nat.zero_add] at c0
  go_enter Tryd.func60, Tryd.ntmps60
  go_wp2
  go_ret
  exact ⟨rfl, Below.refl _ _⟩

set_option maxHeartbeats 400000 in
theorem mirrored_any (xs : List Int) (hx : xs.length = 24) (rx : Bytes xs) (w : World) :
    Calls Tryd.prog 34 #[fl xs] w fun e w' => e = .returned (fl (mirrorL xs)) ∧ Below w.heap.size w w' := by
  unfold fl
  have B0 : Blk ((w.alloc (.cells (u8s xs).toArray 23)).alloc (.cells #[.int .u8 0, .int .u8 0, .int .u8 0, .int .u8 0, .int .u8 0, .int .u8 0, .int .u8 0, .int .u8 0, .int .u8 0, .int .u8 0, .int .u8 0, .int .u8 0, .int .u8 0, .int .u8 0, .int .u8 0, .int .u8 0, .int .u8 0, .int .u8 0, .int .u8 0, .int .u8 0, .int .u8 0, .int .u8 0, .int .u8 0, .int .u8 0] 23)) w.heap.size (u8s xs) 23 := (Blk.new _ _ _).alloc _
  have B1 : Blk ((w.alloc (.cells (u8s xs).toArray 23)).alloc (.cells #[.int .u8 0, .int .u8 0, .int .u8 0, .int .u8 0, .int .u8 0, .int .u8 0, .int .u8 0, .int .u8 0, .int .u8 0, .int .u8 0, .int .u8 0, .int .u8 0, .int .u8 0, .int .u8 0, .int .u8 0, .int .u8 0, .int .u8 0, .int .u8 0, .int .u8 0, .int .u8 0, .int .u8 0, .int .u8 0, .int .u8 0, .int .u8 0] 23)) (w.heap.size + 1) (u8s zero24) 23 := Blk.mk _ (u8s zero24) _ (by simp)
  have b0 : Below w.heap.size w ((w.alloc (.cells (u8s xs).toArray 23)).alloc (.cells #[.int .u8 0, .int .u8 0, .int .u8 0, .int .u8 0, .int .u8 0, .int .u8 0, .int .u8 0, .int .u8 0, .int .u8 0, .int .u8 0, .int .u8 0, .int .u8 0, .int .u8 0, .int .u8 0, .int .u8 0, .int .u8 0, .int .u8 0, .int .u8 0, .int .u8 0, .int .u8 0, .int .u8 0, .int .u8 0, .int .u8 0, .int .u8 0] 23)) := bl_new (bl_new (Below.refl _ _) _) _
  have hl := mirrorL_length xs
  have hF := fun (W : World) (hB : Blk W w.heap.size (u8s xs) 23) => flagOf_any 60 #[.pointer (some ⟨w.heap.size, 0, none⟩)] (enters Tryd.func60 (by kernel_rfl) rfl) (mirF xs) (fun i _ => rx.nth _) W
    (fun W' k hk hb => mirrored1_any xs hx rx w.heap.size k hk W' (hB.kept hb).range)
  go_enter Tryd.func34, Tryd.ntmps34
  go_wp2_with (fail)
  refine (hF _ B0).mono ?_; rintro e w1 ⟨rfl, hb1⟩
  have h2 := B1.kept hb1
  clear hF
  go_wp2_with (refine store_blk rfl 23 _ _ rfl _ rfl rfl h2 info_fl (by rw [u8s_length]; exact hl) (by rw [u8s_length]; exact zero24_length) (u8s_one _) ?_)
  refine ret_blk rfl _ rfl (h2.setRow _) Tryd.underlying23 rfl info_fl (by rw [u8s_length]; exact hl) rfl ⟨rfl, bl_setRow (bl_call b0 hb1) (by omega) _⟩
end Go.Proofs.YtjppoejkfpeicaaDoor

/- Contracts: colours of a list; patterns. -/
set_option linter.unusedVariables false
namespace Go.Proofs.YtjppoejkfpeicaaDoor
open Go.RowKit

set_option maxHeartbeats 400000 in
theorem IndexFunc_i64 (g : Nat) (lb : Array Value) (eg : ∀ args w, (callFunc g args).run Tryd.prog w = .ok (.enter g args) w) (xs : List Int) (p : Nat → Bool) (b o c : Nat) (w : World)
    (hp : Pred g lb (fun k => .int .i64 (nth xs k)) xs.length p w) (hbig : xs.length ≤ 9223372036854775807) (hr : w.rangeAt b o (i64s xs)) :
    Calls Tryd.prog 79 #[.slice (some ⟨b, o, none⟩) xs.length c, .func (.func g) #[] lb] w fun e w' => e = .returned (.int .i64 (firstIdx p xs.length 0)) ∧ Below w.heap.size w w' := by
  go_enter Tryd.func79, Tryd.ntmps79
  go_wp2
  go_loopw [5, 8] (fun _ i wr => ∃ k : Nat, k ≤ xs.length ∧ i = .int .i64 k ∧ Below w.heap.size w wr ∧ As (∀ j, j < k → p j = false)) (fun _ i _ => xs.length - (intOf i).toNat)
  case atStart => exact ⟨0, by omega, rfl, Below.refl _ _, ⟨fun j hj => by omega⟩⟩
  case round =>
    obtain ⟨k, hk, rfl, hb, H⟩ := hrel
    by_cases hlt : k < xs.length
    · have c0 : wr.cell? ⟨b, o + k, none⟩ = some (.int .i64 (nth xs k)) := by
        have h0 := hr k _ (by rw [i64s_get xs k hlt])
        rw [hb.cell (World.block_lt_of_cell? w _ h0)]; exact h0
      have hcall := hp wr k hlt hb
      cases hq : p k with
      | true =>
        rw [hq] at hcall
        go_wp2_with (refine hcall.mono ?_; rintro e w' ⟨rfl, hb'⟩)
        go_ret
        exact ⟨ret_n (by rw [firstIdx_hit p xs.length 0 k hlt (by simpa using H.out) (by simpa using hq)]; simp), bl_call hb hb'⟩
      | false =>
        rw [hq] at hcall
        go_wp2_with (refine hcall.mono ?_; rintro e w' ⟨rfl, hb'⟩)
        go_roundw
        case rel => exact ⟨k + 1, by omega, by go_num, bl_call hb hb', ⟨all_succ H.out hq⟩⟩
        case measure => simp [intOf]; omega
    · obtain rfl : k = xs.length := by omega
      go_wp2
      go_ret
      exact ⟨ret_n (by rw [firstIdx_miss p xs.length 0 (by simpa using H.out)]), hb⟩

theorem ContainsFunc_i64 (g : Nat) (lb : Array Value) (eg : ∀ args w, (callFunc g args).run Tryd.prog w = .ok (.enter g args) w) (xs : List Int) (p : Nat → Bool) (b o c : Nat) (w : World)
    (hp : Pred g lb (fun k => .int .i64 (nth xs k)) xs.length p w) (hbig : xs.length ≤ 9223372036854775807) (hr : w.rangeAt b o (i64s xs)) :
    Calls Tryd.prog 68 #[.slice (some ⟨b, o, none⟩) xs.length c, .func (.func g) #[] lb] w fun e w' => e = .returned (.bool (anyBelow p xs.length)) ∧ Below w.heap.size w w' := by
  rw [← firstIdx_nonneg]
  go_enter Tryd.func68, Tryd.ntmps68
  go_wp2_with (go_at_call 79; refine (IndexFunc_i64 g lb eg xs p b o c _ hp hbig hr).mono ?_; rintro e w' ⟨rfl, hb⟩)
  go_ret
  exact ⟨rfl, hb⟩


theorem areColours1_any (n : Int) (w : World) : Calls Tryd.prog 69 #[.int .i64 n] w fun e w' => e = .returned (.bool (!inR n 0 5)) ∧ Below w.heap.size w w' := by
  go_enter Tryd.func69, Tryd.ntmps69
  go_wp2_with (go_at_call 51; refine (isColour_any _ _).mono ?_; rintro e w' ⟨rfl, rfl⟩)
  go_ret
  exact ⟨rfl, Below.refl _ _⟩

/-- All numbers are colours. -/
def aC (xs : List Int) : Bool := xs.all fun x => inR x 0 5
theorem any_aC (xs : List Int) : (!anyBelow (fun k => !inR (nth xs k) 0 5) xs.length) = aC xs := by
  unfold anyBelow aC
  rw [Bool.eq_iff_iff]
  simp only [Bool.not_eq_true', List.any_eq_false, List.all_eq_true, List.mem_range]
  constructor
  · intro h x hx
    obtain ⟨i, hi, rfl⟩ := List.mem_iff_getElem.1 hx
    rw [nth_get xs i hi]
    simpa using h i hi
  · intro h i hi
    simpa using h _ (nth_mem xs i hi)
theorem areColours_any (xs : List Int) (b o c : Nat) (w : World) (hbig : xs.length ≤ 9223372036854775807) (hr : w.rangeAt b o (i64s xs)) :
    Calls Tryd.prog 52 #[.slice (some ⟨b, o, none⟩) xs.length c] w fun e w' => e = .returned (.bool (aC xs)) ∧ Below w.heap.size w w' := by
  rw [← any_aC xs]
  have hcf := fun W c h => ContainsFunc_i64 69 #[] (enters Tryd.func69 (by kernel_rfl) rfl) xs (fun k => !inR (nth xs k) 0 5) b o c W (fun W k _ _ => areColours1_any _ W) hbig h
  go_enter Tryd.func52, Tryd.ntmps52
  go_wp2_with (go_at_call 68; refine (hcf _ _ hr).mono ?_; rintro e w' ⟨rfl, hb⟩)
  go_ret
  exact ⟨rfl, hb⟩

/-- The code of numbers in bounds: 0, or 2. -/
def codeR (b : Bool) : Int := if b then 0 else 2
/-- Where a pattern of a kind shows its second colour. -/
def other : Nat → Nat → Nat → Bool
  | 0, x, y => x == 2 || x == 3 || y == 1 || y == 2
  | 1, x, y => x == 0 || x == 5 || y == 0 || y == 3
  | 2, x, y => (x + y) % 2 == 1
  | _, _, _ => false
def madeF (kind : Nat) (a b : Int) (k : Nat) : Int := if other kind (k % 6) (k / 6) then b else a
def madeL (kind : Nat) (a b : Int) : List Int := (List.range 24).map (madeF kind a b)
theorem madeL_length (kind : Nat) (a b : Int) : (madeL kind a b).length = 24 := by simp [madeL]
theorem made_bd (kind : Nat) (a b : Int) (h : aC [a, b] = true) (k : Nat) : 0 ≤ madeF kind a b k ∧ madeF kind a b k ≤ 255 := by
  simp only [aC, List.all_cons, List.all_nil, Bool.and_true, Bool.and_eq_true, inR_iff] at h
  unfold madeF; split <;> omega

end Go.Proofs.YtjppoejkfpeicaaDoor

/- Contracts: spec.l01Made of the three kinds. -/
set_option linter.unusedVariables false
set_option linter.unusedSimpArgs false
namespace Go.Proofs.YtjppoejkfpeicaaDoor
open Go.RowKit
theorem aC_two (a b : Int) : aC [a, b] = (inR a 0 5 && inR b 0 5) := by simp [aC]

set_option maxHeartbeats 1000000 in
theorem l01Made0_any (a b : Int) (w : World) :
    Calls Tryd.prog 55 #[.int .i64 a, .int .i64 b, .int .i64 0] w fun e w' => e = .returned (.tuple #[fl (okF (aC [a, b]) (madeL 0 a b)), .int .i64 (codeR (aC [a, b]))]) ∧ Below w.heap.size w w' := by
  have B0 : Blk ((w.alloc (.cells #[.int .u8 0, .int .u8 0, .int .u8 0, .int .u8 0, .int .u8 0, .int .u8 0, .int .u8 0, .int .u8 0, .int .u8 0, .int .u8 0, .int .u8 0, .int .u8 0, .int .u8 0, .int .u8 0, .int .u8 0, .int .u8 0, .int .u8 0, .int .u8 0, .int .u8 0, .int .u8 0, .int .u8 0, .int .u8 0, .int .u8 0, .int .u8 0] 23)).alloc (.cells #[.int .u8 0, .int .u8 0, .int .u8 0, .int .u8 0, .int .u8 0, .int .u8 0, .int .u8 0, .int .u8 0, .int .u8 0, .int .u8 0, .int .u8 0, .int .u8 0, .int .u8 0, .int .u8 0, .int .u8 0, .int .u8 0, .int .u8 0, .int .u8 0, .int .u8 0, .int .u8 0, .int .u8 0, .int .u8 0, .int .u8 0, .int .u8 0] 23)) w.heap.size (u8s zero24) 23 := (Blk.mk _ (u8s zero24) _ rfl).alloc _
  have B1 : Blk ((w.alloc (.cells #[.int .u8 0, .int .u8 0, .int .u8 0, .int .u8 0, .int .u8 0, .int .u8 0, .int .u8 0, .int .u8 0, .int .u8 0, .int .u8 0, .int .u8 0, .int .u8 0, .int .u8 0, .int .u8 0, .int .u8 0, .int .u8 0, .int .u8 0, .int .u8 0, .int .u8 0, .int .u8 0, .int .u8 0, .int .u8 0, .int .u8 0, .int .u8 0] 23)).alloc (.cells #[.int .u8 0, .int .u8 0, .int .u8 0, .int .u8 0, .int .u8 0, .int .u8 0, .int .u8 0, .int .u8 0, .int .u8 0, .int .u8 0, .int .u8 0, .int .u8 0, .int .u8 0, .int .u8 0, .int .u8 0, .int .u8 0, .int .u8 0, .int .u8 0, .int .u8 0, .int .u8 0, .int .u8 0, .int .u8 0, .int .u8 0, .int .u8 0] 23)) (w.heap.size + 1) (u8s zero24) 23 := Blk.mk _ (u8s zero24) _ (by simp)
  have b0 : Below w.heap.size w ((w.alloc (.cells #[.int .u8 0, .int .u8 0, .int .u8 0, .int .u8 0, .int .u8 0, .int .u8 0, .int .u8 0, .int .u8 0, .int .u8 0, .int .u8 0, .int .u8 0, .int .u8 0, .int .u8 0, .int .u8 0, .int .u8 0, .int .u8 0, .int .u8 0, .int .u8 0, .int .u8 0, .int .u8 0, .int .u8 0, .int .u8 0, .int .u8 0, .int .u8 0] 23)).alloc (.cells #[.int .u8 0, .int .u8 0, .int .u8 0, .int .u8 0, .int .u8 0, .int .u8 0, .int .u8 0, .int .u8 0, .int .u8 0, .int .u8 0, .int .u8 0, .int .u8 0, .int .u8 0, .int .u8 0, .int .u8 0, .int .u8 0, .int .u8 0, .int .u8 0, .int .u8 0, .int .u8 0, .int .u8 0, .int .u8 0, .int .u8 0, .int .u8 0] 23)) := bl_new (bl_new (Below.refl _ _) _) _
  have C0 := B0.farRow (g := w.heap.size + 1) (by omega) (u8s zero24).toArray
  have C1 := B1.setRow (u8s zero24)
  have c0 := bl_setRow b0 (g := w.heap.size + 1) (by omega) (u8s zero24).toArray
  rw [aC_two]
  cases h1 : (inR a 0 5 && inR b 0 5)
  · cases h2 : inR a 0 5
    · go_enter Tryd.func55, Tryd.ntmps55
      go_wp2_with (first | (refine store_blk rfl 23 _ _ rfl _ rfl (ds := u8s zero24) rfl B1 info_fl (by rfl) (by rfl) (u8s_one _) ?_) | (go_at_call 77; refine (l01Colour_any _ _).mono ?_; rintro e w' ⟨rfl, rfl⟩) | (refine load_blk rfl 23 _ rfl _ rfl C1 Tryd.underlying23 rfl info_fl (by rw [u8s_length]; exact rfl) ?_) | (refine store_blk rfl 23 _ _ rfl _ rfl (ds := u8s zero24) rfl C0 info_fl (by rfl) (by rfl) (u8s_one _) ?_))
      refine ret_blk_tmp rfl _ rfl (C0.setRow _) Tryd.underlying23 rfl info_fl (by rfl) rfl ⟨rfl, bl_setRow c0 (by omega) _⟩
    · rw [h2, Bool.true_and] at h1
      go_enter Tryd.func55, Tryd.ntmps55
      go_wp2_with (first | (refine store_blk rfl 23 _ _ rfl _ rfl (ds := u8s zero24) rfl B1 info_fl (by rfl) (by rfl) (u8s_one _) ?_) | (go_at_call 77; refine (l01Colour_any _ _).mono ?_; rintro e w' ⟨rfl, rfl⟩) | (refine load_blk rfl 23 _ rfl _ rfl C1 Tryd.underlying23 rfl info_fl (by rw [u8s_length]; exact rfl) ?_) | (refine store_blk rfl 23 _ _ rfl _ rfl (ds := u8s zero24) rfl C0 info_fl (by rfl) (by rfl) (u8s_one _) ?_))
      refine ret_blk_tmp rfl _ rfl (C0.setRow _) Tryd.underlying23 rfl info_fl (by rfl) rfl ⟨rfl, bl_setRow c0 (by omega) _⟩
  · obtain ⟨h2, h3⟩ := Bool.and_eq_true_iff.1 h1
    have n1 := ((inR_iff _ _ _).1 h2).1; have n2 := ((inR_iff _ _ _).1 h2).2
    have n3 := ((inR_iff _ _ _).1 h3).1; have n4 := ((inR_iff _ _ _).1 h3).2
    have hz : part (madeF 0 a b) 24 0 = zero24 := part_zero _ _
    have HZ := As.mk hz
    clear hz h1
    go_enter Tryd.func55, Tryd.ntmps55
    go_wp2_with (first | (refine store_blk rfl 23 _ _ rfl _ rfl (ds := u8s zero24) rfl B1 info_fl (by rfl) (by rfl) (u8s_one _) ?_) | (go_at_call 77; refine (l01Colour_any _ _).mono ?_; rintro e w' ⟨rfl, rfl⟩))
    go_loopw [9] (fun i wr => ∃ k : Nat, k ≤ 24 ∧ i = .int .i64 k ∧ Blk wr w.heap.size (u8s zero24) 23 ∧ Blk wr (w.heap.size + 1) (u8s (part (madeF 0 a b) 24 k)) 23 ∧ Below w.heap.size w wr) (fun i _ => 24 - (intOf i).toNat)
    case atStart => exact ⟨0, by omega, rfl, C0, by rw [HZ.out]; exact C1, c0⟩
    case round =>
      obtain ⟨k, hk, rfl, g1, g2, hb⟩ := hrel
      clear B0 B1 b0 C0 C1 c0 HZ
      by_cases hlt : k < 24
      · have hlt' : (k : Int) < 24 := by omega
        obtain ⟨v2, c2⟩ := g2.some k (by rw [u8s_length, part_length]; exact hlt)
        have f2 := g2.frozen k
        go_wp2
        all_goals
          go_roundw
          case rel =>
            first
            | (have hm : madeF 0 a b k = b := by
                 try simp only [beq_iff_eq, beq_eq_false_iff_ne] at *
                 unfold madeF other
                 rw [if_pos (by simp only [Bool.or_eq_true, beq_iff_eq]; omega)]
               have e := part_set (madeF 0 a b) 24 k
               rw [hm] at e
               exact ⟨k + 1, by omega, by go_num, (g1.far (by simp) _).far (by simp) _, by have := (g2.set k (.int .u8 a)).set k (.int .u8 b); rw [List.set_set, u8s_set, e] at this; exact this, (hb.setCell (by simp) _).setCell (by simp) _⟩)
            | (have hm : madeF 0 a b k = a := by
                 try simp only [beq_iff_eq, beq_eq_false_iff_ne] at *
                 unfold madeF other
                 rw [if_neg (by simp only [Bool.or_eq_true, beq_iff_eq]; omega)]
               have e := part_set (madeF 0 a b) 24 k
               rw [hm] at e
               exact ⟨k + 1, by omega, by go_num, g1.far (by simp) _, by have := g2.set k (.int .u8 a); rw [u8s_set, e] at this; exact this, hb.setCell (by simp) _⟩)
          case measure => simp [intOf]; omega
      · obtain rfl : k = 24 := by omega
        rw [part_full] at g2
        have hl := madeL_length 0 a b
        change Blk wr (w.heap.size + 1) (u8s (madeL 0 a b)) _ at g2
        go_wp2_with (first | (refine load_blk rfl 23 _ rfl _ rfl g2 Tryd.underlying23 rfl info_fl (by rw [u8s_length]; exact hl) ?_) | (refine store_blk rfl 23 _ _ rfl _ rfl rfl g1 info_fl (by rw [u8s_length]; exact hl) (by rw [u8s_length]; exact zero24_length) (u8s_one _) ?_))
        refine ret_blk_tmp rfl _ rfl (g1.setRow _) Tryd.underlying23 rfl info_fl (by rw [u8s_length]; exact hl) rfl ⟨rfl, bl_setRow hb (by omega) _⟩
set_option maxHeartbeats 1000000 in
theorem l01Made1_any (a b : Int) (w : World) :
    Calls Tryd.prog 55 #[.int .i64 a, .int .i64 b, .int .i64 1] w fun e w' => e = .returned (.tuple #[fl (okF (aC [a, b]) (madeL 1 a b)), .int .i64 (codeR (aC [a, b]))]) ∧ Below w.heap.size w w' := by
  have B0 : Blk ((w.alloc (.cells #[.int .u8 0, .int .u8 0, .int .u8 0, .int .u8 0, .int .u8 0, .int .u8 0, .int .u8 0, .int .u8 0, .int .u8 0, .int .u8 0, .int .u8 0, .int .u8 0, .int .u8 0, .int .u8 0, .int .u8 0, .int .u8 0, .int .u8 0, .int .u8 0, .int .u8 0, .int .u8 0, .int .u8 0, .int .u8 0, .int .u8 0, .int .u8 0] 23)).alloc (.cells #[.int .u8 0, .int .u8 0, .int .u8 0, .int .u8 0, .int .u8 0, .int .u8 0, .int .u8 0, .int .u8 0, .int .u8 0, .int .u8 0, .int .u8 0, .int .u8 0, .int .u8 0, .int .u8 0, .int .u8 0, .int .u8 0, .int .u8 0, .int .u8 0, .int .u8 0, .int .u8 0, .int .u8 0, .int .u8 0, .int .u8 0, .int .u8 0] 23)) w.heap.size (u8s zero24) 23 := (Blk.mk _ (u8s zero24) _ rfl).alloc _
  have B1 : Blk ((w.alloc (.cells #[.int .u8 0, .int .u8 0, .int .u8 0, .int .u8 0, .int .u8 0, .int .u8 0, .int .u8 0, .int .u8 0, .int .u8 0, .int .u8 0, .int .u8 0, .int .u8 0, .int .u8 0, .int .u8 0, .int .u8 0, .int .u8 0, .int .u8 0, .int .u8 0, .int .u8 0, .int .u8 0, .int .u8 0, .int .u8 0, .int .u8 0, .int .u8 0] 23)).alloc (.cells #[.int .u8 0, .int .u8 0, .int .u8 0, .int .u8 0, .int .u8 0, .int .u8 0, .int .u8 0, .int .u8 0, .int .u8 0, .int .u8 0, .int .u8 0, .int .u8 0, .int .u8 0, .int .u8 0, .int .u8 0, .int .u8 0, .int .u8 0, .int .u8 0, .int .u8 0, .int .u8 0, .int .u8 0, .int .u8 0, .int .u8 0, .int .u8 0] 23)) (w.heap.size + 1) (u8s zero24) 23 := Blk.mk _ (u8s zero24) _ (by simp)
  have b0 : Below w.heap.size w ((w.alloc (.cells #[.int .u8 0, .int .u8 0, .int .u8 0, .int .u8 0, .int .u8 0, .int .u8 0, .int .u8 0, .int .u8 0, .int .u8 0, .int .u8 0, .int .u8 0, .int .u8 0, .int .u8 0, .int .u8 0, .int .u8 0, .int .u8 0, .int .u8 0, .int .u8 0, .int .u8 0, .int .u8 0, .int .u8 0, .int .u8 0, .int .u8 0, .int .u8 0] 23)).alloc (.cells #[.int .u8 0, .int .u8 0, .int .u8 0, .int .u8 0, .int .u8 0, .int .u8 0, .int .u8 0, .int .u8 0, .int .u8 0, .int .u8 0, .int .u8 0, .int .u8 0, .int .u8 0, .int .u8 0, .int .u8 0, .int .u8 0, .int .u8 0, .int .u8 0, .int .u8 0, .int .u8 0, .int .u8 0, .int .u8 0, .int .u8 0, .int .u8 0] 23)) := bl_new (bl_new (Below.refl _ _) _) _
  have C0 := B0.farRow (g := w.heap.size + 1) (by omega) (u8s zero24).toArray
  have C1 := B1.setRow (u8s zero24)
  have c0 := bl_setRow b0 (g := w.heap.size + 1) (by omega) (u8s zero24).toArray
  rw [aC_two]
  cases h1 : (inR a 0 5 && inR b 0 5)
  · cases h2 : inR a 0 5
    · go_enter Tryd.func55, Tryd.ntmps55
      go_wp2_with (first | (refine store_blk rfl 23 _ _ rfl _ rfl (ds := u8s zero24) rfl B1 info_fl (by rfl) (by rfl) (u8s_one _) ?_) | (go_at_call 77; refine (l01Colour_any _ _).mono ?_; rintro e w' ⟨rfl, rfl⟩) | (refine load_blk rfl 23 _ rfl _ rfl C1 Tryd.underlying23 rfl info_fl (by rw [u8s_length]; exact rfl) ?_) | (refine store_blk rfl 23 _ _ rfl _ rfl (ds := u8s zero24) rfl C0 info_fl (by rfl) (by rfl) (u8s_one _) ?_))
      refine ret_blk_tmp rfl _ rfl (C0.setRow _) Tryd.underlying23 rfl info_fl (by rfl) rfl ⟨rfl, bl_setRow c0 (by omega) _⟩
    · rw [h2, Bool.true_and] at h1
      go_enter Tryd.func55, Tryd.ntmps55
      go_wp2_with (first | (refine store_blk rfl 23 _ _ rfl _ rfl (ds := u8s zero24) rfl B1 info_fl (by rfl) (by rfl) (u8s_one _) ?_) | (go_at_call 77; refine (l01Colour_any _ _).mono ?_; rintro e w' ⟨rfl, rfl⟩) | (refine load_blk rfl 23 _ rfl _ rfl C1 Tryd.underlying23 rfl info_fl (by rw [u8s_length]; exact rfl) ?_) | (refine store_blk rfl 23 _ _ rfl _ rfl (ds := u8s zero24) rfl C0 info_fl (by rfl) (by rfl) (u8s_one _) ?_))
      refine ret_blk_tmp rfl _ rfl (C0.setRow _) Tryd.underlying23 rfl info_fl (by rfl) rfl ⟨rfl, bl_setRow c0 (by omega) _⟩
  · obtain ⟨h2, h3⟩ := Bool.and_eq_true_iff.1 h1
    have n1 := ((inR_iff _ _ _).1 h2).1; have n2 := ((inR_iff _ _ _).1 h2).2
    have n3 := ((inR_iff _ _ _).1 h3).1; have n4 := ((inR_iff _ _ _).1 h3).2
    have hz : part (madeF 1 a b) 24 0 = zero24 := part_zero _ _
    have HZ := As.mk hz
    clear hz h1
    go_enter Tryd.func55, Tryd.ntmps55
    go_wp2_with (first | (refine store_blk rfl 23 _ _ rfl _ rfl (ds := u8s zero24) rfl B1 info_fl (by rfl) (by rfl) (u8s_one _) ?_) | (go_at_call 77; refine (l01Colour_any _ _).mono ?_; rintro e w' ⟨rfl, rfl⟩))
    go_loopw [9] (fun i wr => ∃ k : Nat, k ≤ 24 ∧ i = .int .i64 k ∧ Blk wr w.heap.size (u8s zero24) 23 ∧ Blk wr (w.heap.size + 1) (u8s (part (madeF 1 a b) 24 k)) 23 ∧ Below w.heap.size w wr) (fun i _ => 24 - (intOf i).toNat)
    case atStart => exact ⟨0, by omega, rfl, C0, by rw [HZ.out]; exact C1, c0⟩
    case round =>
      obtain ⟨k, hk, rfl, g1, g2, hb⟩ := hrel
      clear B0 B1 b0 C0 C1 c0 HZ
      by_cases hlt : k < 24
      · have hlt' : (k : Int) < 24 := by omega
        obtain ⟨v2, c2⟩ := g2.some k (by rw [u8s_length, part_length]; exact hlt)
        have f2 := g2.frozen k
        go_wp2
        all_goals
          go_roundw
          case rel =>
            first
            | (have hm : madeF 1 a b k = b := by
                 try simp only [beq_iff_eq, beq_eq_false_iff_ne] at *
                 unfold madeF other
                 rw [if_pos (by simp only [Bool.or_eq_true, beq_iff_eq]; omega)]
               have e := part_set (madeF 1 a b) 24 k
               rw [hm] at e
               exact ⟨k + 1, by omega, by go_num, (g1.far (by simp) _).far (by simp) _, by have := (g2.set k (.int .u8 a)).set k (.int .u8 b); rw [List.set_set, u8s_set, e] at this; exact this, (hb.setCell (by simp) _).setCell (by simp) _⟩)
            | (have hm : madeF 1 a b k = a := by
                 try simp only [beq_iff_eq, beq_eq_false_iff_ne] at *
                 unfold madeF other
                 rw [if_neg (by simp only [Bool.or_eq_true, beq_iff_eq]; omega)]
               have e := part_set (madeF 1 a b) 24 k
               rw [hm] at e
               exact ⟨k + 1, by omega, by go_num, g1.far (by simp) _, by have := g2.set k (.int .u8 a); rw [u8s_set, e] at this; exact this, hb.setCell (by simp) _⟩)
          case measure => simp [intOf]; omega
      · obtain rfl : k = 24 := by omega
        rw [part_full] at g2
        have hl := madeL_length 0 a b
        change Blk wr (w.heap.size + 1) (u8s (madeL 1 a b)) _ at g2
        go_wp2_with (first | (refine load_blk rfl 23 _ rfl _ rfl g2 Tryd.underlying23 rfl info_fl (by rw [u8s_length]; exact hl) ?_) | (refine store_blk rfl 23 _ _ rfl _ rfl rfl g1 info_fl (by rw [u8s_length]; exact hl) (by rw [u8s_length]; exact zero24_length) (u8s_one _) ?_))
        refine ret_blk_tmp rfl _ rfl (g1.setRow _) Tryd.underlying23 rfl info_fl (by rw [u8s_length]; exact hl) rfl ⟨rfl, bl_setRow hb (by omega) _⟩
set_option maxHeartbeats 1000000 in
theorem l01Made2_any (a b : Int) (w : World) :
    Calls Tryd.prog 55 #[.int .i64 a, .int .i64 b, .int .i64 2] w fun e w' => e = .returned (.tuple #[fl (okF (aC [a, b]) (madeL 2 a b)), .int .i64 (codeR (aC [a, b]))]) ∧ Below w.heap.size w w' := by
  have B0 : Blk ((w.alloc (.cells #[.int .u8 0, .int .u8 0, .int .u8 0, .int .u8 0, .int .u8 0, .int .u8 0, .int .u8 0, .int .u8 0, .int .u8 0, .int .u8 0, .int .u8 0, .int .u8 0, .int .u8 0, .int .u8 0, .int .u8 0, .int .u8 0, .int .u8 0, .int .u8 0, .int .u8 0, .int .u8 0, .int .u8 0, .int .u8 0, .int .u8 0, .int .u8 0] 23)).alloc (.cells #[.int .u8 0, .int .u8 0, .int .u8 0, .int .u8 0, .int .u8 0, .int .u8 0, .int .u8 0, .int .u8 0, .int .u8 0, .int .u8 0, .int .u8 0, .int .u8 0, .int .u8 0, .int .u8 0, .int .u8 0, .int .u8 0, .int .u8 0, .int .u8 0, .int .u8 0, .int .u8 0, .int .u8 0, .int .u8 0, .int .u8 0, .int .u8 0] 23)) w.heap.size (u8s zero24) 23 := (Blk.mk _ (u8s zero24) _ rfl).alloc _
  have B1 : Blk ((w.alloc (.cells #[.int .u8 0, .int .u8 0, .int .u8 0, .int .u8 0, .int .u8 0, .int .u8 0, .int .u8 0, .int .u8 0, .int .u8 0, .int .u8 0, .int .u8 0, .int .u8 0, .int .u8 0, .int .u8 0, .int .u8 0, .int .u8 0, .int .u8 0, .int .u8 0, .int .u8 0, .int .u8 0, .int .u8 0, .int .u8 0, .int .u8 0, .int .u8 0] 23)).alloc (.cells #[.int .u8 0, .int .u8 0, .int .u8 0, .int .u8 0, .int .u8 0, .int .u8 0, .int .u8 0, .int .u8 0, .int .u8 0, .int .u8 0, .int .u8 0, .int .u8 0, .int .u8 0, .int .u8 0, .int .u8 0, .int .u8 0, .int .u8 0, .int .u8 0, .int .u8 0, .int .u8 0, .int .u8 0, .int .u8 0, .int .u8 0, .int .u8 0] 23)) (w.heap.size + 1) (u8s zero24) 23 := Blk.mk _ (u8s zero24) _ (by simp)
  have b0 : Below w.heap.size w ((w.alloc (.cells #[.int .u8 0, .int .u8 0, .int .u8 0, .int .u8 0, .int .u8 0, .int .u8 0, .int .u8 0, .int .u8 0, .int .u8 0, .int .u8 0, .int .u8 0, .int .u8 0, .int .u8 0, .int .u8 0, .int .u8 0, .int .u8 0, .int .u8 0, .int .u8 0, .int .u8 0, .int .u8 0, .int .u8 0, .int .u8 0, .int .u8 0, .int .u8 0] 23)).alloc (.cells #[.int .u8 0, .int .u8 0, .int .u8 0, .int .u8 0, .int .u8 0, .int .u8 0, .int .u8 0, .int .u8 0, .int .u8 0, .int .u8 0, .int .u8 0, .int .u8 0, .int .u8 0, .int .u8 0, .int .u8 0, .int .u8 0, .int .u8 0, .int .u8 0, .int .u8 0, .int .u8 0, .int .u8 0, .int .u8 0, .int .u8 0, .int .u8 0] 23)) := bl_new (bl_new (Below.refl _ _) _) _
  have C0 := B0.farRow (g := w.heap.size + 1) (by omega) (u8s zero24).toArray
  have C1 := B1.setRow (u8s zero24)
  have c0 := bl_setRow b0 (g := w.heap.size + 1) (by omega) (u8s zero24).toArray
  rw [aC_two]
  cases h1 : (inR a 0 5 && inR b 0 5)
  · cases h2 : inR a 0 5
    · go_enter Tryd.func55, Tryd.ntmps55
      go_wp2_with (first | (refine store_blk rfl 23 _ _ rfl _ rfl (ds := u8s zero24) rfl B1 info_fl (by rfl) (by rfl) (u8s_one _) ?_) | (go_at_call 77; refine (l01Colour_any _ _).mono ?_; rintro e w' ⟨rfl, rfl⟩) | (refine load_blk rfl 23 _ rfl _ rfl C1 Tryd.underlying23 rfl info_fl (by rw [u8s_length]; exact rfl) ?_) | (refine store_blk rfl 23 _ _ rfl _ rfl (ds := u8s zero24) rfl C0 info_fl (by rfl) (by rfl) (u8s_one _) ?_))
      refine ret_blk_tmp rfl _ rfl (C0.setRow _) Tryd.underlying23 rfl info_fl (by rfl) rfl ⟨rfl, bl_setRow c0 (by omega) _⟩
    · rw [h2, Bool.true_and] at h1
      go_enter Tryd.func55, Tryd.ntmps55
      go_wp2_with (first | (refine store_blk rfl 23 _ _ rfl _ rfl (ds := u8s zero24) rfl B1 info_fl (by rfl) (by rfl) (u8s_one _) ?_) | (go_at_call 77; refine (l01Colour_any _ _).mono ?_; rintro e w' ⟨rfl, rfl⟩) | (refine load_blk rfl 23 _ rfl _ rfl C1 Tryd.underlying23 rfl info_fl (by rw [u8s_length]; exact rfl) ?_) | (refine store_blk rfl 23 _ _ rfl _ rfl (ds := u8s zero24) rfl C0 info_fl (by rfl) (by rfl) (u8s_one _) ?_))
      refine ret_blk_tmp rfl _ rfl (C0.setRow _) Tryd.underlying23 rfl info_fl (by rfl) rfl ⟨rfl, bl_setRow c0 (by omega) _⟩
  · obtain ⟨h2, h3⟩ := Bool.and_eq_true_iff.1 h1
    have n1 := ((inR_iff _ _ _).1 h2).1; have n2 := ((inR_iff _ _ _).1 h2).2
    have n3 := ((inR_iff _ _ _).1 h3).1; have n4 := ((inR_iff _ _ _).1 h3).2
    have hz : part (madeF 2 a b) 24 0 = zero24 := part_zero _ _
    have HZ := As.mk hz
    clear hz h1
    go_enter Tryd.func55, Tryd.ntmps55
    go_wp2_with (first | (refine store_blk rfl 23 _ _ rfl _ rfl (ds := u8s zero24) rfl B1 info_fl (by rfl) (by rfl) (u8s_one _) ?_) | (go_at_call 77; refine (l01Colour_any _ _).mono ?_; rintro e w' ⟨rfl, rfl⟩))
    go_loopw [9] (fun i wr => ∃ k : Nat, k ≤ 24 ∧ i = .int .i64 k ∧ Blk wr w.heap.size (u8s zero24) 23 ∧ Blk wr (w.heap.size + 1) (u8s (part (madeF 2 a b) 24 k)) 23 ∧ Below w.heap.size w wr) (fun i _ => 24 - (intOf i).toNat)
    case atStart => exact ⟨0, by omega, rfl, C0, by rw [HZ.out]; exact C1, c0⟩
    case round =>
      obtain ⟨k, hk, rfl, g1, g2, hb⟩ := hrel
      clear B0 B1 b0 C0 C1 c0 HZ
      by_cases hlt : k < 24
      · have hlt' : (k : Int) < 24 := by omega
        obtain ⟨v2, c2⟩ := g2.some k (by rw [u8s_length, part_length]; exact hlt)
        have f2 := g2.frozen k
        go_wp2
        all_goals
          go_roundw
          case rel =>
            first
            | (have hm : madeF 2 a b k = b := by
                 try simp only [beq_iff_eq, beq_eq_false_iff_ne] at *
                 unfold madeF other
                 rw [if_pos (by simp only [Bool.or_eq_true, beq_iff_eq]; omega)]
               have e := part_set (madeF 2 a b) 24 k
               rw [hm] at e
               exact ⟨k + 1, by omega, by go_num, (g1.far (by simp) _).far (by simp) _, by have := (g2.set k (.int .u8 a)).set k (.int .u8 b); rw [List.set_set, u8s_set, e] at this; exact this, (hb.setCell (by simp) _).setCell (by simp) _⟩)
            | (have hm : madeF 2 a b k = a := by
                 try simp only [beq_iff_eq, beq_eq_false_iff_ne] at *
                 unfold madeF other
                 rw [if_neg (by simp only [Bool.or_eq_true, beq_iff_eq]; omega)]
               have e := part_set (madeF 2 a b) 24 k
               rw [hm] at e
               exact ⟨k + 1, by omega, by go_num, g1.far (by simp) _, by have := g2.set k (.int .u8 a); rw [u8s_set, e] at this; exact this, hb.setCell (by simp) _⟩)
          case measure => simp [intOf]; omega
      · obtain rfl : k = 24 := by omega
        rw [part_full] at g2
        have hl := madeL_length 0 a b
        change Blk wr (w.heap.size + 1) (u8s (madeL 2 a b)) _ at g2
        go_wp2_with (first | (refine load_blk rfl 23 _ rfl _ rfl g2 Tryd.underlying23 rfl info_fl (by rw [u8s_length]; exact hl) ?_) | (refine store_blk rfl 23 _ _ rfl _ rfl rfl g1 info_fl (by rw [u8s_length]; exact hl) (by rw [u8s_length]; exact zero24_length) (u8s_one _) ?_))
        refine ret_blk_tmp rfl _ rfl (g1.setRow _) Tryd.underlying23 rfl info_fl (by rw [u8s_length]; exact hl) rfl ⟨rfl, bl_setRow hb (by omega) _⟩
end Go.Proofs.YtjppoejkfpeicaaDoor

/- Contracts: the reference's crosses, borders, chequers, plain flags. -/
set_option linter.unusedVariables false
namespace Go.Proofs.YtjppoejkfpeicaaDoor
open Go.RowKit

/-- A plain flag. -/
def plainL (a : Int) : List Int := (List.range 24).map fun _ => a
theorem plainL_length (a : Int) : (plainL a).length = 24 := by simp [plainL]

set_option maxHeartbeats 1000000 in
theorem sPlainFlag_any (a : Int) (w : World) :
    Calls Tryd.prog 56 #[.int .i64 a] w fun e w' => e = .returned (.tuple #[fl (okF (inR a 0 5) (plainL a)), .int .i64 (codeR (inR a 0 5))]) ∧ Below w.heap.size w w' := by
  have B0 : Blk ((w.alloc (.cells #[.int .u8 0, .int .u8 0, .int .u8 0, .int .u8 0, .int .u8 0, .int .u8 0, .int .u8 0, .int .u8 0, .int .u8 0, .int .u8 0, .int .u8 0, .int .u8 0, .int .u8 0, .int .u8 0, .int .u8 0, .int .u8 0, .int .u8 0, .int .u8 0, .int .u8 0, .int .u8 0, .int .u8 0, .int .u8 0, .int .u8 0, .int .u8 0] 23)).alloc (.cells #[.int .u8 0, .int .u8 0, .int .u8 0, .int .u8 0, .int .u8 0, .int .u8 0, .int .u8 0, .int .u8 0, .int .u8 0, .int .u8 0, .int .u8 0, .int .u8 0, .int .u8 0, .int .u8 0, .int .u8 0, .int .u8 0, .int .u8 0, .int .u8 0, .int .u8 0, .int .u8 0, .int .u8 0, .int .u8 0, .int .u8 0, .int .u8 0] 23)) w.heap.size (u8s zero24) 23 := (Blk.mk _ (u8s zero24) _ rfl).alloc _
  have B1 : Blk ((w.alloc (.cells #[.int .u8 0, .int .u8 0, .int .u8 0, .int .u8 0, .int .u8 0, .int .u8 0, .int .u8 0, .int .u8 0, .int .u8 0, .int .u8 0, .int .u8 0, .int .u8 0, .int .u8 0, .int .u8 0, .int .u8 0, .int .u8 0, .int .u8 0, .int .u8 0, .int .u8 0, .int .u8 0, .int .u8 0, .int .u8 0, .int .u8 0, .int .u8 0] 23)).alloc (.cells #[.int .u8 0, .int .u8 0, .int .u8 0, .int .u8 0, .int .u8 0, .int .u8 0, .int .u8 0, .int .u8 0, .int .u8 0, .int .u8 0, .int .u8 0, .int .u8 0, .int .u8 0, .int .u8 0, .int .u8 0, .int .u8 0, .int .u8 0, .int .u8 0, .int .u8 0, .int .u8 0, .int .u8 0, .int .u8 0, .int .u8 0, .int .u8 0] 23)) (w.heap.size + 1) (u8s zero24) 23 := Blk.mk _ (u8s zero24) _ (by simp)
  have b0 : Below w.heap.size w ((w.alloc (.cells #[.int .u8 0, .int .u8 0, .int .u8 0, .int .u8 0, .int .u8 0, .int .u8 0, .int .u8 0, .int .u8 0, .int .u8 0, .int .u8 0, .int .u8 0, .int .u8 0, .int .u8 0, .int .u8 0, .int .u8 0, .int .u8 0, .int .u8 0, .int .u8 0, .int .u8 0, .int .u8 0, .int .u8 0, .int .u8 0, .int .u8 0, .int .u8 0] 23)).alloc (.cells #[.int .u8 0, .int .u8 0, .int .u8 0, .int .u8 0, .int .u8 0, .int .u8 0, .int .u8 0, .int .u8 0, .int .u8 0, .int .u8 0, .int .u8 0, .int .u8 0, .int .u8 0, .int .u8 0, .int .u8 0, .int .u8 0, .int .u8 0, .int .u8 0, .int .u8 0, .int .u8 0, .int .u8 0, .int .u8 0, .int .u8 0, .int .u8 0] 23)) := bl_new (bl_new (Below.refl _ _) _) _
  have C0 := B0.farRow (g := w.heap.size + 1) (by omega) (u8s zero24).toArray
  have C1 := B1.setRow (u8s zero24)
  have c0 := bl_setRow b0 (g := w.heap.size + 1) (by omega) (u8s zero24).toArray
  cases h1 : inR a 0 5
  · go_enter Tryd.func56, Tryd.ntmps56
    go_wp2_with (first | (refine store_blk rfl 23 _ _ rfl _ rfl (ds := u8s zero24) rfl B1 info_fl (by rfl) (by rfl) (u8s_one _) ?_) | (go_at_call 77; refine (l01Colour_any _ _).mono ?_; rintro e w' ⟨rfl, rfl⟩) | (refine load_blk rfl 23 _ rfl _ rfl C1 Tryd.underlying23 rfl info_fl (by rw [u8s_length]; exact rfl) ?_) | (refine store_blk rfl 23 _ _ rfl _ rfl (ds := u8s zero24) rfl C0 info_fl (by rfl) (by rfl) (u8s_one _) ?_))
    refine ret_blk_tmp rfl _ rfl (C0.setRow _) Tryd.underlying23 rfl info_fl (by rfl) rfl ⟨rfl, bl_setRow c0 (by omega) _⟩
  · have n1 := ((inR_iff _ _ _).1 h1).1; have n2 := ((inR_iff _ _ _).1 h1).2
    have hz : part (fun _ => a) 24 0 = zero24 := part_zero _ _
    have HZ := As.mk hz
    clear hz
    go_enter Tryd.func56, Tryd.ntmps56
    go_wp2_with (first | (refine store_blk rfl 23 _ _ rfl _ rfl (ds := u8s zero24) rfl B1 info_fl (by rfl) (by rfl) (u8s_one _) ?_) | (go_at_call 77; refine (l01Colour_any _ _).mono ?_; rintro e w' ⟨rfl, rfl⟩))
    go_loopw [5] (fun i wr => ∃ k : Nat, k ≤ 24 ∧ i = .int .i64 k ∧ Blk wr w.heap.size (u8s zero24) 23 ∧ Blk wr (w.heap.size + 1) (u8s (part (fun _ => a) 24 k)) 23 ∧ Below w.heap.size w wr) (fun i _ => 24 - (intOf i).toNat)
    case atStart => exact ⟨0, by omega, rfl, C0, by rw [HZ.out]; exact C1, c0⟩
    case round =>
      obtain ⟨k, hk, rfl, g1, g2, hb⟩ := hrel
      clear B0 B1 b0 C0 C1 c0 HZ
      by_cases hlt : k < 24
      · have hlt' : (k : Int) < 24 := by omega
        obtain ⟨v2, c2⟩ := g2.some k (by rw [u8s_length, part_length]; exact hlt)
        have f2 := g2.frozen k
        go_wp2
        go_roundw
        case rel => exact ⟨k + 1, by omega, by go_num, g1.far (by simp) _, by have := g2.set k (.int .u8 a); rw [u8s_set, part_set (fun _ => a)] at this; exact this, hb.setCell (by simp) _⟩
        case measure => simp [intOf]; omega
      · obtain rfl : k = 24 := by omega
        rw [part_full] at g2
        have hl := plainL_length a
        change Blk wr (w.heap.size + 1) (u8s (plainL a)) _ at g2
        go_wp2_with (first | (refine load_blk rfl 23 _ rfl _ rfl g2 Tryd.underlying23 rfl info_fl (by rw [u8s_length]; exact hl) ?_) | (refine store_blk rfl 23 _ _ rfl _ rfl rfl g1 info_fl (by rw [u8s_length]; exact hl) (by rw [u8s_length]; exact zero24_length) (u8s_one _) ?_))
        refine ret_blk_tmp rfl _ rfl (g1.setRow _) Tryd.underlying23 rfl info_fl (by rw [u8s_length]; exact hl) rfl ⟨rfl, bl_setRow hb (by omega) _⟩
end Go.Proofs.YtjppoejkfpeicaaDoor

/- Contracts: what the patterns' functions tell. -/
set_option linter.unusedVariables false
namespace Go.Proofs.YtjppoejkfpeicaaDoor
open Go.RowKit

end Go.Proofs.YtjppoejkfpeicaaDoor

/- Contracts: crosses, borders, chequers. -/
set_option linter.unusedVariables false
namespace Go.Proofs.YtjppoejkfpeicaaDoor
open Go.RowKit

end Go.Proofs.YtjppoejkfpeicaaDoor

/- Contracts: stripes: what the closure tells. -/
set_option linter.unusedVariables false
namespace Go.Proofs.YtjppoejkfpeicaaDoor
open Go.RowKit

/-- Cell k of a flag of stripes. -/
def stripeF (xs : List Int) (up : Bool) (k : Nat) : Int := nth xs ((if up then k % 6 else k / 6) * xs.length / (if up then 6 else 4))
def stripeL (xs : List Int) (up : Bool) : List Int := (List.range 24).map (stripeF xs up)
theorem stripeL_length (xs : List Int) (up : Bool) : (stripeL xs up).length = 24 := by simp [stripeL]
theorem stripe_at (q n m : Nat) (hq : q < m) (hn : 1 ≤ n) (hm : 0 < m) : q * n / m < n := by
  rw [Nat.div_lt_iff_lt_mul hm, Nat.mul_comm n m]
  exact Nat.mul_lt_mul_of_pos_right hq (by omega)

end Go.Proofs.YtjppoejkfpeicaaDoor

/- Contracts: impl.StripesOf, impl.PlainFlag. -/
set_option linter.unusedVariables false
set_option linter.unusedSimpArgs false
namespace Go.Proofs.YtjppoejkfpeicaaDoor
open Go.RowKit

def stripesOk (xs : List Int) (up : Bool) : Bool := inR xs.length 1 (if up then 6 else 4) && aC xs
theorem stripe_bd (xs : List Int) (up : Bool) (h : stripesOk xs up = true) (k : Nat) (hk : k < 24) : 0 ≤ stripeF xs up k ∧ stripeF xs up k ≤ 255 := by
  simp only [stripesOk, Bool.and_eq_true, inR_iff] at h
  have ha := h.2
  unfold aC at ha
  rw [List.all_eq_true] at ha
  have hi : (if up then k % 6 else k / 6) * xs.length / (if up then 6 else 4) < xs.length := by
    cases up
    · exact stripe_at (k / 6) xs.length 4 (by omega) (by omega) (by omega)
    · exact stripe_at (k % 6) xs.length 6 (by omega) (by omega) (by omega)
  have := (inR_iff _ _ _).1 (ha _ (nth_mem xs _ hi))
  unfold stripeF
  omega
theorem Sl.below {k : IntKind} {w w' : World} {A : Option Addr} {xs : List Int} (h : Sl k w A xs) (hb : Below w.heap.size w w') : Sl k w' A xs := h.kept hb

theorem stripe_one (a : Int) : stripeL [a] true = plainL a := by
  unfold stripeL plainL
  apply List.map_congr_left
  intro k _
  simp only [stripeF, if_true, List.length_singleton, Nat.mul_one]
  rw [Nat.div_eq_of_lt (by omega)]; rfl
theorem stripesOk_one (a : Int) : stripesOk [a] true = inR a 0 5 := by
  simp [stripesOk, aC, inR]
end Go.Proofs.YtjppoejkfpeicaaDoor
