/- Contracts: colours of a list; patterns. -/
import Derived.Test.YtjppoejkfpeicaaF11
import Derived.Test.YtjppoejkfpeicaaLw
set_option linter.unusedVariables false
namespace Go.Proofs.Ytjppoejkfpeicaa
open Go.RowKit

set_option maxHeartbeats 400000 in
theorem IndexFunc_i64 (g : Nat) (lb : Array Value) (eg : ∀ args w, (callFunc g args).run Try.prog w = .ok (.enter g args) w) (xs : List Int) (p : Nat → Bool) (b o c : Nat) (w : World)
    (hp : Pred g lb (fun k => .int .i64 (nth xs k)) xs.length p w) (hbig : xs.length ≤ 9223372036854775807) (hr : w.rangeAt b o (i64s xs)) :
    Calls Try.prog 83 #[.slice (some ⟨b, o, none⟩) xs.length c, .func (.func g) #[] lb] w fun e w' => e = .returned (.int .i64 (firstIdx p xs.length 0)) ∧ Below w.heap.size w w' := by
  go_enter Try.func83, Try.ntmps83
  go_wp2
  go_loopw [5, 8] (fun _ i wr => ∃ k : Nat, k ≤ xs.length ∧ i = .int .i64 k ∧ Below w.heap.size w wr ∧ As (∀ j, j < k → p j = false)) (fun _ i _ => xs.length - (intOf i).toNat)
  case atStart => exact ⟨0, by omega, rfl, Below.refl _ _, ⟨fun j hj => by omega⟩⟩
  case round =>
    obtain ⟨k, hk, rfl, hb, H⟩ := hrel
    by_cases hlt : k < xs.length
    · have c0 : wr.cell? ⟨b, o + k, none⟩ = some (.int .i64 (nth xs k)) := by
        have h0 := hr k _ (by rw [i64s_get xs k hlt])
        rw [hb.cell (World.block_lt_of_cell? w _ h0)]; exact h0
      have hcall := hp wr k hlt hb
      cases hq : p k with
      | true =>
        rw [hq] at hcall
        go_wp2_with (refine hcall.mono ?_; rintro e w' ⟨rfl, hb'⟩)
        go_ret
        exact ⟨ret_n (by rw [firstIdx_hit p xs.length 0 k hlt (by simpa using H.out) (by simpa using hq)]; simp), bl_call hb hb'⟩
      | false =>
        rw [hq] at hcall
        go_wp2_with (refine hcall.mono ?_; rintro e w' ⟨rfl, hb'⟩)
        go_roundw
        case rel => exact ⟨k + 1, by omega, by go_num, bl_call hb hb', ⟨all_succ H.out hq⟩⟩
        case measure => simp [intOf]; omega
    · obtain rfl : k = xs.length := by omega
      go_wp2
      go_ret
      exact ⟨ret_n (by rw [firstIdx_miss p xs.length 0 (by simpa using H.out)]), hb⟩

theorem ContainsFunc_i64 (g : Nat) (lb : Array Value) (eg : ∀ args w, (callFunc g args).run Try.prog w = .ok (.enter g args) w) (xs : List Int) (p : Nat → Bool) (b o c : Nat) (w : World)
    (hp : Pred g lb (fun k => .int .i64 (nth xs k)) xs.length p w) (hbig : xs.length ≤ 9223372036854775807) (hr : w.rangeAt b o (i64s xs)) :
    Calls Try.prog 46 #[.slice (some ⟨b, o, none⟩) xs.length c, .func (.func g) #[] lb] w fun e w' => e = .returned (.bool (anyBelow p xs.length)) ∧ Below w.heap.size w w' := by
  rw [← firstIdx_nonneg]
  go_enter Try.func46, Try.ntmps46
  go_wp2_with (go_at_call 83; refine (IndexFunc_i64 g lb eg xs p b o c _ hp hbig hr).mono ?_; rintro e w' ⟨rfl, hb⟩)
  go_ret
  exact ⟨rfl, hb⟩


theorem areColours1_any (n : Int) (w : World) : Calls Try.prog 101 #[.int .i64 n] w fun e w' => e = .returned (.bool (!inR n 0 5)) ∧ Below w.heap.size w w' := by
  go_enter Try.func101, Try.ntmps101
  go_wp2_with (go_at_call 72; refine (isColour_any _ _).mono ?_; rintro e w' ⟨rfl, rfl⟩)
  go_ret
  exact ⟨rfl, Below.refl _ _⟩

/-- All numbers are colours. -/
def aC (xs : List Int) : Bool := xs.all fun x => inR x 0 5
theorem any_aC (xs : List Int) : (!anyBelow (fun k => !inR (nth xs k) 0 5) xs.length) = aC xs := by
  unfold anyBelow aC
  rw [Bool.eq_iff_iff]
  simp only [Bool.not_eq_true', List.any_eq_false, List.all_eq_true, List.mem_range]
  constructor
  · intro h x hx
    obtain ⟨i, hi, rfl⟩ := List.mem_iff_getElem.1 hx
    rw [nth_get xs i hi]
    simpa using h i hi
  · intro h i hi
    simpa using h _ (nth_mem xs i hi)
theorem areColours_any (xs : List Int) (b o c : Nat) (w : World) (hbig : xs.length ≤ 9223372036854775807) (hr : w.rangeAt b o (i64s xs)) :
    Calls Try.prog 88 #[.slice (some ⟨b, o, none⟩) xs.length c] w fun e w' => e = .returned (.bool (aC xs)) ∧ Below w.heap.size w w' := by
  rw [← any_aC xs]
  have hcf := fun W c h => ContainsFunc_i64 101 #[] (enters Try.func101 (by kernel_rfl) rfl) xs (fun k => !inR (nth xs k) 0 5) b o c W (fun W k _ _ => areColours1_any _ W) hbig h
  go_enter Try.func88, Try.ntmps88
  go_wp2_with (go_at_call 46; refine (hcf _ _ hr).mono ?_; rintro e w' ⟨rfl, hb⟩)
  go_ret
  exact ⟨rfl, hb⟩

/-- The code of numbers in bounds: 0, or 2. -/
def codeR (b : Bool) : Int := if b then 0 else 2
set_option maxHeartbeats 400000 in
/-- impl.pattern over any closure. -/
theorem pattern_any (g : Nat) (lb : Array Value) (eg : ∀ args w, (callFunc g args).run Try.prog w = .ok (.enter g args) w) (f : Nat → Int) (xs : List Int) (b o c : Nat) (w : World) (hbig : xs.length ≤ 9223372036854775807) (hr : w.rangeAt b o (i64s xs))
    (hf : aC xs = true → ∀ i, i < 24 → 0 ≤ f i ∧ f i ≤ 255)
    (hp : aC xs = true → ∀ (W : World) (k : Nat), k < 24 → Below w.heap.size w W → Calls Try.prog g (#[.int .i64 ((k : Int) % 6), .int .i64 ((k : Int) / 6)] ++ lb) W fun e w' => e = .returned (.int .i64 (f k)) ∧ Below W.heap.size W w') :
    Calls Try.prog 58 #[.slice (some ⟨b, o, none⟩) xs.length c, .func (.func g) #[] lb] w fun e w' => e = .returned (.tuple #[fl (okF (aC xs) ((List.range 24).map f)), .int .i64 (codeR (aC xs))]) ∧ Below w.heap.size w w' := by
  have B1 : Blk (w.alloc (.cells #[.int .u8 0, .int .u8 0, .int .u8 0, .int .u8 0, .int .u8 0, .int .u8 0, .int .u8 0, .int .u8 0, .int .u8 0, .int .u8 0, .int .u8 0, .int .u8 0, .int .u8 0, .int .u8 0, .int .u8 0, .int .u8 0, .int .u8 0, .int .u8 0, .int .u8 0, .int .u8 0, .int .u8 0, .int .u8 0, .int .u8 0, .int .u8 0] 38)) w.heap.size (u8s zero24) 38 := Blk.mk _ (u8s zero24) _ rfl
  have b0 : Below w.heap.size w (w.alloc (.cells #[.int .u8 0, .int .u8 0, .int .u8 0, .int .u8 0, .int .u8 0, .int .u8 0, .int .u8 0, .int .u8 0, .int .u8 0, .int .u8 0, .int .u8 0, .int .u8 0, .int .u8 0, .int .u8 0, .int .u8 0, .int .u8 0, .int .u8 0, .int .u8 0, .int .u8 0, .int .u8 0, .int .u8 0, .int .u8 0, .int .u8 0, .int .u8 0] 38)) := bl_new (Below.refl _ _) _
  have hr' : (w.alloc (.cells #[.int .u8 0, .int .u8 0, .int .u8 0, .int .u8 0, .int .u8 0, .int .u8 0, .int .u8 0, .int .u8 0, .int .u8 0, .int .u8 0, .int .u8 0, .int .u8 0, .int .u8 0, .int .u8 0, .int .u8 0, .int .u8 0, .int .u8 0, .int .u8 0, .int .u8 0, .int .u8 0, .int .u8 0, .int .u8 0, .int .u8 0, .int .u8 0] 38)).rangeAt b o (i64s xs) := range_kept hr b0
  have hl : ((List.range 24).map f).length = 24 := by simp
  cases h1 : aC xs
  · go_enter Try.func58, Try.ntmps58
    go_wp2_with (fail)
    refine (areColours_any xs b o c _ hbig hr').mono ?_; rintro e w1 ⟨rfl, hb1⟩
    have h2 := B1.kept hb1
    go_wp2_with (refine store_blk rfl 38 _ _ rfl _ rfl (ds := u8s zero24) rfl h2 info_fl (by rfl) (by rfl) (u8s_one _) ?_)
    refine ret_blk_tmp rfl _ rfl (h2.setRow _) Try.underlying38 rfl info_fl (by rfl) rfl ⟨rfl, bl_setRow (bl_call b0 hb1) (by omega) _⟩
  · have hF := fun (W : World) (hB : Below w.heap.size w W) => flagOf_any g lb eg f (hf h1) W (fun W' k hk hb => hp h1 W' k hk (bl_call hB hb))
    go_enter Try.func58, Try.ntmps58
    go_wp2_with (fail)
    refine (areColours_any xs b o c _ hbig hr').mono ?_; rintro e w1 ⟨rfl, hb1⟩
    go_wp2_with (fail)
    refine (hF _ (bl_call b0 hb1)).mono ?_; rintro e w2 ⟨rfl, hb2⟩
    have h2 := (B1.kept hb1).kept hb2
    clear hF hp
    unfold fl
    go_wp2_with (refine store_blk rfl 38 _ _ rfl _ rfl rfl h2 info_fl (by rw [u8s_length]; exact hl) (by rw [u8s_length]; exact zero24_length) (u8s_one _) ?_)
    refine ret_blk_tmp rfl _ rfl (h2.setRow _) Try.underlying38 rfl info_fl (by rw [u8s_length]; exact hl) rfl ⟨rfl, bl_setRow (bl_call (bl_call b0 hb1) hb2) (by omega) _⟩

theorem either_any (is : Bool) (a b : Int) (w : World) : Calls Try.prog 60 #[.bool is, .int .i64 a, .int .i64 b] w fun e w' => e = .returned (.int .i64 (if is then a else b)) ∧ w = w' := by
  cases is
  all_goals
    go_enter Try.func60, Try.ntmps60
    go_wp2
    go_ret
    exact ⟨rfl, rfl⟩

/-- Where a pattern of a kind shows its second colour. -/
def other : Nat → Nat → Nat → Bool
  | 0, x, y => x == 2 || x == 3 || y == 1 || y == 2
  | 1, x, y => x == 0 || x == 5 || y == 0 || y == 3
  | 2, x, y => (x + y) % 2 == 1
  | _, _, _ => false
def madeF (kind : Nat) (a b : Int) (k : Nat) : Int := if other kind (k % 6) (k / 6) then b else a
def madeL (kind : Nat) (a b : Int) : List Int := (List.range 24).map (madeF kind a b)
theorem madeL_length (kind : Nat) (a b : Int) : (madeL kind a b).length = 24 := by simp [madeL]
theorem made_bd (kind : Nat) (a b : Int) (h : aC [a, b] = true) (k : Nat) : 0 ≤ madeF kind a b k ∧ madeF kind a b k ≤ 255 := by
  simp only [aC, List.all_cons, List.all_nil, Bool.and_true, Bool.and_eq_true, inR_iff] at h
  unfold madeF; split <;> omega

end Go.Proofs.Ytjppoejkfpeicaa
