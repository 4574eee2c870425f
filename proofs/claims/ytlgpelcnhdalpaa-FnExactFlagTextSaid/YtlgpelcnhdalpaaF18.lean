/- Contracts: FlagText: both sides. -/
import Derived.Test.YtlgpelcnhdalpaaF17
set_option linter.unusedVariables false
namespace Go.Proofs.Ytlgpelcnhdalpaa
open Go.RowKit

/-- What FlagText answers. -/
def flagText (xs : List Int) : ByteArray := if vf xs then strOfNums (textL xs 24) else ⟨#[]⟩

set_option maxHeartbeats 400000 in
theorem sFlagText_any (xs : List Int) (hx : xs.length = 24) (rx : Bytes xs) (w : World) :
    Calls Try.prog 38 #[fl xs] w fun e w' => e = .returned (.string (flagText xs)) ∧ Below w.heap.size w w' := by
  unfold fl
  have B0 := Blk.new w (u8s xs) 27
  have b0 := bl_new (Below.refl _ w) (.cells (u8s xs).toArray 27)
  have hT := As.mk (show flagText xs = if vf xs then strOfNums (textL xs 24) else ⟨#[]⟩ from rfl)
  cases h1 : vf xs
  · go_enter Try.func38, Try.ntmps38
    go_wp2_with (go_at_call 47; refine (l01Ok_any xs hx _ 0 _ B0.range).mono ?_; rintro e w' ⟨rfl, rfl⟩)
    go_ret
    exact ⟨ret_s (by rw [hT.out, h1]; rfl), b0⟩
  · have hc := fun W h => l01Text_any xs hx rx h1 w.heap.size 0 W h
    go_enter Try.func38, Try.ntmps38
    go_wp2_with (go_at_call 47; refine (l01Ok_any xs hx _ 0 _ B0.range).mono ?_; rintro e w' ⟨rfl, rfl⟩)
    refine (hc _ B0.range).mono ?_; rintro e w1 ⟨rfl, hb1⟩
    go_wp2_with (fail)
    go_ret
    exact ⟨ret_s (by rw [hT.out, h1]; rfl), bl_call b0 hb1⟩

set_option maxHeartbeats 1000000 in
theorem FlagText_any (xs : List Int) (hx : xs.length = 24) (rx : Bytes xs) (w : World) :
    Calls Try.prog 39 #[fl xs] w fun e w' => e = .returned (.string (flagText xs)) ∧ Below w.heap.size w w' := by
  unfold fl
  have B0 := Blk.new w (u8s xs) 27
  have b0 := bl_new (Below.refl _ w) (.cells (u8s xs).toArray 27)
  have hT := As.mk (show flagText xs = if vf xs then strOfNums (textL xs 24) else ⟨#[]⟩ from rfl)
  cases h1 : vf xs
  · go_enter Try.func39, Try.ntmps39
    go_wp2_with (refine load_blk rfl 27 _ rfl _ rfl B0 Try.underlying27 rfl info_fl (by rw [u8s_length]; exact hx) ?_)
    refine (ValidFlag_any xs hx _).mono ?_; rintro e w1 ⟨rfl, hb1⟩
    go_wp2_with (fail)
    go_ret
    exact ⟨ret_s (by rw [hT.out, h1]; rfl), bl_call b0 hb1⟩
  · have HV := As.mk h1
    go_enter Try.func39, Try.ntmps39
    go_wp2_with (refine load_blk rfl 27 _ rfl _ rfl B0 Try.underlying27 rfl info_fl (by rw [u8s_length]; exact hx) ?_)
    refine (ValidFlag_any xs hx _).mono ?_; rintro e w1 ⟨rfl, hb1⟩
    have B1 := B0.kept hb1
    have b1 := bl_call b0 hb1
    have B2 := B1.alloc (.cells #[] 5)
    clear B0 b0 hb1
    go_wp2_with (refine load_blk rfl 27 _ rfl _ rfl B2 Try.underlying27 rfl info_fl (by rw [u8s_length]; exact hx) ?_)
    go_loopw [3, 11] (fun v i wr => ∃ k : Nat, k ≤ 24 ∧ i = .int .i64 k ∧ Own wr w1.heap.size 5 v (u8s (textL xs k)) ∧ Below w1.heap.size w1 wr) (fun _ i _ => 24 - (intOf i).toNat)
    case atStart => exact ⟨0, by omega, rfl, Own.lit w1 w1.heap.size 5 [] (Nat.le_refl _) (by simp), bl_new (Below.refl _ _) _⟩
    case round =>
      obtain ⟨k, hk, rfl, hO, hb⟩ := hrel
      by_cases hlt : k < 24
      · have hlt' : (k : Int) < 24 := by omega
        have n1 := (rx.nth k).1
        have n2 : nth xs k ≤ 5 := vf_nth HV.out k (by omega)
        have hi := index_letters (nth xs k) n1 n2
        have hi2 := index_fl xs hx k hlt
        have hlen := textL_length xs k
        have ht := As.mk (show textL xs (k + 1) = (if 0 < k ∧ k % 6 = 0 then textL xs k ++ [47] else textL xs k) ++ [letter (nth xs k)] from rfl)
        by_cases hs : 0 < k ∧ k % 6 = 0
        · have h1 : (0 : Int) < k := by omega
          have h2 : ((k : Int) % 6 == 0) = true := by rw [beq_iff_eq]; omega
          have hs' := As.mk hs
          clear hs
          go_wp2_with (at_builtin; refine app1 (w0 := w1) (w1.heap.size) rfl (.tmp 22) (.tmp 23) 56 5 (.int .u8 0) 1 rfl Try.underlying56 info_u8 rfl (by omega) (u3) (u8s (textL xs k)) (.int .u8 47) rfl rfl rfl hO hb hb.size (by rw [u8s_length]; omega) ?_)
          intro v2 w2 hO1 hb1 _ _
          rw [u8s_snoc] at hO1
          go_wp2_with (at_builtin; refine app1 (w0 := w1) (w1.heap.size) rfl (.tmp 25) (.tmp 28) 56 5 (.int .u8 0) 1 rfl Try.underlying56 info_u8 rfl (by omega) (v2) (u8s (textL xs k ++ [47])) (.int .u8 (letter (nth xs k))) rfl rfl rfl hO1 hb1 hb1.size (by rw [u8s_length, List.length_append]; simp; omega) ?_)
          intro v3 w3 hO2 hb2 _ _
          rw [u8s_snoc] at hO2
          go_wp2_with (fail)
          go_roundw
          case rel => exact ⟨k + 1, by omega, by go_num, by rw [ht.out, if_pos hs'.out]; exact hO2, hb2⟩
          case measure => simp [intOf]; omega
        · have hs' := As.mk hs
          by_cases h0 : k = 0
          · have h1 : decide (0 < k) = false := by simp; omega
            clear hs h0
            go_wp2_with (at_builtin; refine app1 (w0 := w1) (w1.heap.size) rfl (.tmp 25) (.tmp 28) 56 5 (.int .u8 0) 1 rfl Try.underlying56 info_u8 rfl (by omega) (u3) (u8s (textL xs k)) (.int .u8 (letter (nth xs k))) rfl rfl rfl hO hb hb.size (by rw [u8s_length]; omega) ?_)
            intro v3 w3 hO2 hb2 _ _
            rw [u8s_snoc] at hO2
            go_wp2_with (fail)
            go_roundw
            case rel => exact ⟨k + 1, by omega, by go_num, by rw [ht.out, if_neg hs'.out]; exact hO2, hb2⟩
            case measure => simp [intOf]; omega
          · have h1 : (0 : Int) < k := by omega
            have h2 : ((k : Int) % 6 == 0) = false := by rw [beq_eq_false_iff_ne]; omega
            clear hs h0
            go_wp2_with (at_builtin; refine app1 (w0 := w1) (w1.heap.size) rfl (.tmp 25) (.tmp 28) 56 5 (.int .u8 0) 1 rfl Try.underlying56 info_u8 rfl (by omega) (u3) (u8s (textL xs k)) (.int .u8 (letter (nth xs k))) rfl rfl rfl hO hb hb.size (by rw [u8s_length]; omega) ?_)
            intro v3 w3 hO2 hb2 _ _
            rw [u8s_snoc] at hO2
            go_wp2_with (fail)
            go_roundw
            case rel => exact ⟨k + 1, by omega, by go_num, by rw [ht.out, if_neg hs'.out]; exact hO2, hb2⟩
            case measure => simp [intOf]; omega
      · obtain rfl : k = 24 := by omega
        have hcv := own_string (P := Try.prog) Try.underlying56 Try.underlying5 Try.underlying9 hO
        go_wp2
        go_ret
        exact ⟨ret_s (by rw [hT.out, HV.out]; rfl), bl_call b1 hb⟩

set_option maxHeartbeats 800000 in
theorem walk_FnExactFlagText (xs : List Int) (hx : xs.length = 24) (rx : ∀ x ∈ xs, 0 ≤ x ∧ x ≤ 255) (w : World) :
    Calls Try.prog 13 #[fl xs] w fun e w' => e = .returned (.bool true) ∧ Below w.heap.size w w' := by
  unfold fl
  have B0 := Blk.new w (u8s xs) 25
  have b0 := bl_new (Below.refl _ w) (.cells (u8s xs).toArray 25)
  go_enter Try.func13, Try.ntmps13
  go_wp2_with (refine load_blk rfl 25 _ rfl _ rfl B0 Try.underlying25 rfl info_fl' (by rw [u8s_length]; exact hx) ?_)
  refine (toFlag_any xs hx _).mono ?_; rintro e w1 ⟨rfl, hb1⟩
  go_wp2_with (fail)
  refine (sFlagText_any xs hx rx _).mono ?_; rintro e w2 ⟨rfl, hb2⟩
  have b2 := bl_call (bl_call b0 hb1) hb2
  have B2 := (B0.kept hb1).kept hb2
  clear B0 b0 hb1 hb2
  go_wp2_with (refine load_blk rfl 25 _ rfl _ rfl B2 Try.underlying25 rfl info_fl' (by rw [u8s_length]; exact hx) ?_)
  refine (toFlag_any xs hx _).mono ?_; rintro e w3 ⟨rfl, hb3⟩
  go_wp2_with (fail)
  refine (FlagText_any xs hx rx _).mono ?_; rintro e w4 ⟨rfl, hb4⟩
  go_wp2_with (fail)
  go_ret
  exact ⟨rfl, bl_call (bl_call b2 hb3) hb4⟩
end Go.Proofs.Ytlgpelcnhdalpaa
