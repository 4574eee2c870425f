/- Contracts: SpelledWord: both sides. -/
import Derived.Test.YtllplgjlpndpfaaH5
import Derived.Test.YtllplgjlpndpfaaF17
set_option linter.unusedVariables false
namespace Go.Proofs.Ytllplgjlpndpfaa
open Go.RowKit

/-- The letters of a meaning, and whether there are letters for all. -/
def spellL (xs : List Int) : List Int := (xs.filter (· != -10)).map (97 + ·)
def spellOk (xs : List Int) : Bool := xs.all fun n => decide (n ≤ 25)
def Kinds (xs : List Int) : Prop := ∀ n ∈ xs, n = -10 ∨ (0 ≤ n ∧ n ≤ 39)
theorem take_nth (xs : List Int) (k : Nat) (h : k < xs.length) : xs.take (k + 1) = xs.take k ++ [nth xs k] := by
  rw [List.take_add_one, nth_get? xs k h]; rfl
theorem spell_brk (xs : List Int) (k : Nat) (h : k < xs.length) (hx : nth xs k = -10) : spellL (xs.take (k + 1)) = spellL (xs.take k) := by
  rw [take_nth xs k h, hx]; simp [spellL]
theorem spell_kind (xs : List Int) (k : Nat) (h : k < xs.length) (hx : nth xs k ≠ -10) : spellL (xs.take (k + 1)) = spellL (xs.take k) ++ [97 + nth xs k] := by
  rw [take_nth xs k h]; simp [spellL, hx]
theorem spell_len (xs : List Int) : (spellL xs).length ≤ xs.length := by
  unfold spellL; rw [List.length_map]; exact List.length_filter_le _ _
theorem spell_bad (xs : List Int) (k : Nat) (h : k < xs.length) (hx : 26 ≤ nth xs k) : spellOk xs = false := by
  unfold spellOk; rw [List.all_eq_false]; exact ⟨_, nth_mem xs k h, by simp; omega⟩
theorem spell_good (xs : List Int) (h : ∀ j, j < xs.length → nth xs j ≤ 25) : spellOk xs = true := by
  unfold spellOk; rw [List.all_eq_true]
  intro x hx
  obtain ⟨i, hi, rfl⟩ := List.mem_iff_getElem.1 hx
  rw [nth_get xs i hi]
  simpa using h i hi
def word (xs : List Int) : ByteArray := if spellOk xs then strOfNums (spellL xs) else ⟨#[]⟩

set_option maxHeartbeats 1000000 in
theorem l03Read_any (xs : List Int) (A : Option Addr) (c : Nat) (w : World) (h : Sl .i8 w A xs) (hk : Kinds xs) (hn : xs.length ≤ 1048576) :
    Calls Try.prog 58 #[.slice A xs.length c] w fun e w' => e = .returned (.tuple #[.string (word xs), .bool (spellOk xs)]) ∧ Below w.heap.size w w' := by
  have HW := As.mk (show word xs = if spellOk xs then strOfNums (spellL xs) else ⟨#[]⟩ from rfl)
  have HK := As.mk hk
  obtain ⟨n, hm⟩ : ∃ n, xs.length = n := ⟨_, rfl⟩
  have HM := As.mk hm
  rw [hm] at hn ⊢
  clear hm hk
  go_enter Try.func58, Try.ntmps58
  go_wp2
  go_loopw [4, 5] (fun v i wr => ∃ k : Nat, k ≤ n ∧ i = .int .i64 k ∧ Own wr w.heap.size 5 v (u8s (spellL (xs.take k))) ∧ As (∀ j, j < k → nth xs j ≤ 25) ∧ Below w.heap.size w wr) (fun _ i _ => n - (intOf i).toNat)
  case atStart => exact ⟨0, by omega, rfl, Own.lit w w.heap.size 5 [] (Nat.le_refl _) (by simp), ⟨fun j hj => by omega⟩, bl_new (Below.refl _ _) _⟩
  case round =>
    obtain ⟨k, hk, rfl, hO, H, hb⟩ := hrel
    by_cases hlt : k < n
    · have hlt' : (k : Int) < (n : Int) := by omega
      have hlx := As.mk (show k < xs.length by rw [HM.out]; exact hlt)
      obtain ⟨b, off, rfl, hr⟩ := h.2 (by rw [HM.out]; omega)
      have c0 : wr.cell? ⟨b, off + k, none⟩ = some (.int .i8 (nth xs k)) := by
        have h0 := hr k _ (i8s_get xs k hlx.out)
        rw [hb.cell (World.block_lt_of_cell? w _ h0)]; exact h0
      have hx := HK.out _ (nth_mem xs k hlx.out)
      by_cases hx10 : nth xs k = -10
      · have h1 : (nth xs k == -10) = true := by rw [beq_iff_eq]; exact hx10
        have hs := As.mk (spell_brk xs k hlx.out hx10)
        have h2 := As.mk hx10
        clear hx hx10
        go_wp2_with (fail)
        go_roundw
        case rel => exact ⟨k + 1, by omega, by go_num, by rw [hs.out]; exact hO, ⟨all_succ H.out (by rw [h2.out]; omega)⟩, hb⟩
        case measure => simp [intOf]; omega
      · have h1 : (nth xs k == -10) = false := by rw [beq_eq_false_iff_ne]; exact hx10
        have h3 : 0 ≤ nth xs k := by omega
        have h4 : nth xs k ≤ 39 := by omega
        have hs := As.mk (spell_kind xs k hlx.out hx10)
        have hl := spell_len (xs.take k)
        rw [List.length_take] at hl
        clear hx hx10
        by_cases h25 : nth xs k ≤ 25
        · have h5 : ¬ (25 < nth xs k) := by omega
          go_wp2_with (at_builtin; refine app1 (w0 := w) (w.heap.size) rfl (.tmp 23) (.tmp 30) 70 5 (.int .u8 0) 1 rfl Try.underlying70 info_u8 rfl (by omega) (u4) (u8s (spellL (xs.take k))) (.int .u8 (97 + nth xs k)) rfl rfl rfl hO hb hb.size (by rw [u8s_length]; omega) ?_)
          intro v2 w2 hO2 hb2 _ _
          rw [u8s_snoc] at hO2
          go_wp2_with (fail)
          go_roundw
          case rel => exact ⟨k + 1, by omega, by go_num, by rw [hs.out]; exact hO2, ⟨all_succ H.out h25⟩, hb2⟩
          case measure => simp [intOf]; omega
        · have h5 : 25 < nth xs k := by omega
          have hbad := spell_bad xs k hlx.out (by omega)
          go_wp2_with (fail)
          go_ret2
          exact ⟨by rw [HW.out, hbad]; rfl, hb⟩
    · obtain rfl : k = n := by omega
      have hgood := spell_good xs (by rw [HM.out]; exact H.out)
      rw [← HM.out, List.take_length] at hO
      have hcv := own_string (P := Try.prog) Try.underlying70 Try.underlying5 Try.underlying9 hO
      go_wp2_with (fail)
      go_ret2
      exact ⟨by rw [HW.out, hgood]; rfl, hb⟩

/-- What SpelledWord answers. -/
def spelledS (xs : List Int) : ByteArray := if mOk xs then word xs else ⟨#[]⟩
def spelledC (xs : List Int) : Int := if mOk xs then (if spellOk xs then 0 else 2) else 1
set_option maxHeartbeats 1000000 in
theorem sSpelledWord_any (xs : List Int) (A : Option Addr) (c : Nat) (w : World) (h : Sl .i8 w A xs) (rx : ∀ n ∈ xs, -128 ≤ n ∧ n ≤ 127) (hn : xs.length ≤ 1048576) :
    Calls Try.prog 31 #[.slice A xs.length c] w fun e w' => e = .returned (.tuple #[.string (spelledS xs), .int .i64 (spelledC xs)]) ∧ Below w.heap.size w w' := by
  have key := sValidMeaning_any xs A c w h rx
  have hS := As.mk (show spelledS xs = if mOk xs then word xs else ⟨#[]⟩ from rfl)
  have hC := As.mk (show spelledC xs = if mOk xs then (if spellOk xs then 0 else 2) else 1 from rfl)
  have hW := As.mk (show word xs = if spellOk xs then strOfNums (spellL xs) else ⟨#[]⟩ from rfl)
  cases hk : mOk xs
  · go_enter Try.func31, Try.ntmps31
    go_wp2_with (fail)
    refine key.mono ?_; rintro e w1 ⟨rfl, hb⟩
    rw [hk]
    go_wp2_with (fail)
    go_ret2
    exact ⟨by rw [hS.out, hC.out, hk]; rfl, hb⟩
  · have key2 := fun W h' => l03Read_any xs A c W h' (mOk_kinds hk) hn
    cases hs : spellOk xs
    all_goals
      go_enter Try.func31, Try.ntmps31
      go_wp2_with (fail)
      refine key.mono ?_; rintro e w1 ⟨rfl, hb⟩
      rw [hk]
      go_wp2_with (fail)
      refine (key2 _ (h.kept hb)).mono ?_; rintro e w2 ⟨rfl, hb2⟩
      rw [hs]
      go_wp2_with (fail)
      go_ret2
      first | exact ⟨by rw [hS.out, hC.out, hW.out, hk, hs]; rfl, bl_call hb hb2⟩ | exact ⟨by rw [hS.out, hC.out, hk, hs]; rfl, bl_call hb hb2⟩

set_option maxHeartbeats 1000000 in
theorem SpelledWord_any (xs : List Int) (A : Option Addr) (c : Nat) (w : World) (h : Sl .i8 w A xs) (rx : ∀ n ∈ xs, -128 ≤ n ∧ n ≤ 127) (hn : xs.length ≤ 1048576) :
    Calls Try.prog 32 #[.slice A xs.length c] w fun e w' => e = .returned (.tuple #[.string (spelledS xs), .int .i64 (spelledC xs)]) ∧ Below w.heap.size w w' := by
  have key := ValidMeaning_any xs A c w h rx hn
  have hS := As.mk (show spelledS xs = if mOk xs then word xs else ⟨#[]⟩ from rfl)
  have hC := As.mk (show spelledC xs = if mOk xs then (if spellOk xs then 0 else 2) else 1 from rfl)
  have hW := As.mk (show word xs = if spellOk xs then strOfNums (spellL xs) else ⟨#[]⟩ from rfl)
  cases hv : mOk xs
  · go_enter Try.func32, Try.ntmps32
    go_wp2_with (fail)
    refine key.mono ?_; rintro e w1 ⟨rfl, hb⟩
    rw [hv]
    go_wp2_with (fail)
    go_ret2
    exact ⟨by rw [hS.out, hC.out, hv]; rfl, hb⟩
  · have HK := As.mk (mOk_kinds hv)
    have HV := As.mk hv
    obtain ⟨n, hm⟩ : ∃ n, xs.length = n := ⟨_, rfl⟩
    have HM := As.mk hm
    rw [hm] at hn key ⊢
    clear hm rx
    go_enter Try.func32, Try.ntmps32
    go_wp2_with (fail)
    refine key.mono ?_; rintro e w1 ⟨rfl, hb0⟩
    rw [hv]
    clear hv
    have h1 := h.kept hb0
    go_wp2_with (fail)
    go_loopw [4, 13] (fun v i wr => ∃ k : Nat, k ≤ n ∧ i = .int .i64 k ∧ Own wr w1.heap.size 5 v (u8s (spellL (xs.take k))) ∧ As (∀ j, j < k → nth xs j ≤ 25) ∧ Below w1.heap.size w1 wr) (fun _ i _ => n - (intOf i).toNat)
    case atStart => exact ⟨0, by omega, rfl, Own.lit w1 w1.heap.size 5 [] (Nat.le_refl _) (by simp), ⟨fun j hj => by omega⟩, bl_new (Below.refl _ _) _⟩
    case round =>
      obtain ⟨k, hk, rfl, hO, H, hb⟩ := hrel
      by_cases hlt : k < n
      · have hlt' : (k : Int) < (n : Int) := by omega
        have hlx := As.mk (show k < xs.length by rw [HM.out]; exact hlt)
        obtain ⟨b, off, rfl, hr⟩ := h1.2 (by rw [HM.out]; omega)
        have c0 : wr.cell? ⟨b, off + k, none⟩ = some (.int .i8 (nth xs k)) := by
          have h0 := hr k _ (i8s_get xs k hlx.out)
          rw [hb.cell (World.block_lt_of_cell? w1 _ h0)]; exact h0
        have hx := HK.out _ (nth_mem xs k hlx.out)
        by_cases hx10 : nth xs k = -10
        · have h1 : (nth xs k == -10) = true := by rw [beq_iff_eq]; exact hx10
          have hs := As.mk (spell_brk xs k hlx.out hx10)
          have h2 := As.mk hx10
          clear hx hx10
          go_wp2_with (fail)
          go_roundw
          case rel => exact ⟨k + 1, by omega, by go_num, by rw [hs.out]; exact hO, ⟨all_succ H.out (by rw [h2.out]; omega)⟩, hb⟩
          case measure => simp [intOf]; omega
        · have h1 : (nth xs k == -10) = false := by rw [beq_eq_false_iff_ne]; exact hx10
          have h3 : 0 ≤ nth xs k := by omega
          have h4 : nth xs k ≤ 39 := by omega
          have hs := As.mk (spell_kind xs k hlx.out hx10)
          have hl := spell_len (xs.take k)
          rw [List.length_take] at hl
          clear hx hx10
          by_cases h25 : nth xs k ≤ 25
          · have h5 : ¬ (26 ≤ nth xs k) := by omega
            go_wp2_with (at_builtin; refine app1 (w0 := w1) (w1.heap.size) rfl (.tmp 17) (.tmp 21) 70 5 (.int .u8 0) 1 rfl Try.underlying70 info_u8 rfl (by omega) (u4) (u8s (spellL (xs.take k))) (.int .u8 (97 + nth xs k)) rfl rfl rfl hO hb hb.size (by rw [u8s_length]; omega) ?_)
            intro v2 w2 hO2 hb2 _ _
            rw [u8s_snoc] at hO2
            go_wp2_with (fail)
            go_roundw
            case rel => exact ⟨k + 1, by omega, by go_num, by rw [hs.out]; exact hO2, ⟨all_succ H.out h25⟩, hb2⟩
            case measure => simp [intOf]; omega
          · have h5 : 26 ≤ nth xs k := by omega
            have hbad := spell_bad xs k hlx.out h5
            go_wp2_with (fail)
            go_ret2
            exact ⟨by rw [hS.out, hC.out, hW.out, HV.out, hbad]; rfl, bl_call hb0 hb⟩
      · obtain rfl : k = n := by omega
        have hgood := spell_good xs (by rw [HM.out]; exact H.out)
        rw [← HM.out, List.take_length] at hO
        have hcv := own_string (P := Try.prog) Try.underlying70 Try.underlying5 Try.underlying9 hO
        go_wp2_with (fail)
        go_ret2
        exact ⟨by rw [hS.out, hC.out, hW.out, HV.out, hgood]; rfl, bl_call hb0 hb⟩
end Go.Proofs.Ytllplgjlpndpfaa
