/- Contracts: FlagText: both sides. -/
import Derived.Test.YtjppoejkfpeicaaDoorF17
set_option linter.unusedVariables false
namespace Go.Proofs.YtjppoejkfpeicaaDoor
open Go.RowKit

/-- What FlagText answers. -/
def flagText (xs : List Int) : ByteArray := if vf xs then strOfNums (textL xs 24) else ⟨#[]⟩

set_option maxHeartbeats 1000000 in
theorem FlagText_any (xs : List Int) (hx : xs.length = 24) (rx : Bytes xs) (w : World) :
    Calls Tryd.prog 10 #[fl xs] w fun e w' => e = .returned (.string (flagText xs)) ∧ Below w.heap.size w w' := by
  unfold fl
  have B0 := Blk.new w (u8s xs) 23
  have b0 := bl_new (Below.refl _ w) (.cells (u8s xs).toArray 23)
  have hT := As.mk (show flagText xs = if vf xs then strOfNums (textL xs 24) else ⟨#[]⟩ from rfl)
  cases h1 : vf xs
  · go_enter Tryd.func10, Tryd.ntmps10
    go_wp2_with (refine load_blk rfl 23 _ rfl _ rfl B0 Tryd.underlying23 rfl info_fl (by rw [u8s_length]; exact hx) ?_)
    refine (ValidFlag_any xs hx _).mono ?_; rintro e w1 ⟨rfl, hb1⟩
    go_wp2_with (fail)
    go_ret
    exact ⟨ret_s (by rw [hT.out, h1]; rfl), bl_call b0 hb1⟩
  · have HV := As.mk h1
    go_enter Tryd.func10, Tryd.ntmps10
    go_wp2_with (refine load_blk rfl 23 _ rfl _ rfl B0 Tryd.underlying23 rfl info_fl (by rw [u8s_length]; exact hx) ?_)
    refine (ValidFlag_any xs hx _).mono ?_; rintro e w1 ⟨rfl, hb1⟩
    have B1 := B0.kept hb1
    have b1 := bl_call b0 hb1
    have B2 := B1.alloc (.cells #[] 5)
    clear B0 b0 hb1
    go_wp2_with (refine load_blk rfl 23 _ rfl _ rfl B2 Tryd.underlying23 rfl info_fl (by rw [u8s_length]; exact hx) ?_)
    go_loopw [3, 11] (fun v i wr => ∃ k : Nat, k ≤ 24 ∧ i = .int .i64 k ∧ Own wr w1.heap.size 5 v (u8s (textL xs k)) ∧ Below w1.heap.size w1 wr) (fun _ i _ => 24 - (intOf i).toNat)
    case atStart => exact ⟨0, by omega, rfl, Own.lit w1 w1.heap.size 5 [] (Nat.le_refl _) (by simp), bl_new (Below.refl _ _) _⟩
    case round =>
      obtain ⟨k, hk, rfl, hO, hb⟩ := hrel
      by_cases hlt : k < 24
      · have hlt' : (k : Int) < 24 := by omega
        have n1 := (rx.nth k).1
        have n2 : nth xs k ≤ 5 := vf_nth HV.out k (by omega)
        have hi := index_letters (nth xs k) n1 n2
        have hi2 := index_fl xs hx k hlt
        have hlen := textL_length xs k
        have ht := As.mk (show textL xs (k + 1) = (if 0 < k ∧ k % 6 = 0 then textL xs k ++ [47] else textL xs k) ++ [letter (nth xs k)] from rfl)
        by_cases hs : 0 < k ∧ k % 6 = 0
        · have h1 : (0 : Int) < k := by omega
          have h2 : ((k : Int) % 6 == 0) = true := by rw [beq_iff_eq]; omega
          have hs' := As.mk hs
          clear hs
          go_wp2_with (at_builtin; refine app1 (w0 := w1) (w1.heap.size) rfl (.tmp 22) (.tmp 23) 28 5 (.int .u8 0) 1 rfl Tryd.underlying28 info_u8 rfl (by omega) (u3) (u8s (textL xs k)) (.int .u8 47) rfl rfl rfl hO hb hb.size (by rw [u8s_length]; omega) ?_)
          intro v2 w2 hO1 hb1 _ _
          rw [u8s_snoc] at hO1
          go_wp2_with (at_builtin; refine app1 (w0 := w1) (w1.heap.size) rfl (.tmp 25) (.tmp 28) 28 5 (.int .u8 0) 1 rfl Tryd.underlying28 info_u8 rfl (by omega) (v2) (u8s (textL xs k ++ [47])) (.int .u8 (letter (nth xs k))) rfl rfl rfl hO1 hb1 hb1.size (by rw [u8s_length, List.length_append]; simp; omega) ?_)
          intro v3 w3 hO2 hb2 _ _
          rw [u8s_snoc] at hO2
          go_wp2_with (fail)
          go_roundw
          case rel => exact ⟨k + 1, by omega, by go_num, by rw [ht.out, if_pos hs'.out]; exact hO2, hb2⟩
          case measure => simp [intOf]; omega
        · have hs' := As.mk hs
          by_cases h0 : k = 0
          · have h1 : decide (0 < k) = false := by simp; omega
            clear hs h0
            go_wp2_with (at_builtin; refine app1 (w0 := w1) (w1.heap.size) rfl (.tmp 25) (.tmp 28) 28 5 (.int .u8 0) 1 rfl Tryd.underlying28 info_u8 rfl (by omega) (u3) (u8s (textL xs k)) (.int .u8 (letter (nth xs k))) rfl rfl rfl hO hb hb.size (by rw [u8s_length]; omega) ?_)
            intro v3 w3 hO2 hb2 _ _
            rw [u8s_snoc] at hO2
            go_wp2_with (fail)
            go_roundw
            case rel => exact ⟨k + 1, by omega, by go_num, by rw [ht.out, if_neg hs'.out]; exact hO2, hb2⟩
            case measure => simp [intOf]; omega
          · have h1 : (0 : Int) < k := by omega
            have h2 : ((k : Int) % 6 == 0) = false := by rw [beq_eq_false_iff_ne]; omega
            clear hs h0
            go_wp2_with (at_builtin; refine app1 (w0 := w1) (w1.heap.size) rfl (.tmp 25) (.tmp 28) 28 5 (.int .u8 0) 1 rfl Tryd.underlying28 info_u8 rfl (by omega) (u3) (u8s (textL xs k)) (.int .u8 (letter (nth xs k))) rfl rfl rfl hO hb hb.size (by rw [u8s_length]; omega) ?_)
            intro v3 w3 hO2 hb2 _ _
            rw [u8s_snoc] at hO2
            go_wp2_with (fail)
            go_roundw
            case rel => exact ⟨k + 1, by omega, by go_num, by rw [ht.out, if_neg hs'.out]; exact hO2, hb2⟩
            case measure => simp [intOf]; omega
      · obtain rfl : k = 24 := by omega
        have hcv := own_string (P := Tryd.prog) Tryd.underlying28 Tryd.underlying5 Tryd.underlying9 hO
        go_wp2
        go_ret
        exact ⟨ret_s (by rw [hT.out, HV.out]; rfl), bl_call b1 hb⟩

end Go.Proofs.YtjppoejkfpeicaaDoor
