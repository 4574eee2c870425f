/- Contracts: FlagText: both sides. -/
import Derived.Test.YtlgpelcnhdalpaaF15
import Derived.Test.YtlgpelcnhdalpaaOwn
set_option linter.unusedVariables false
namespace Go.Proofs.Ytlgpelcnhdalpaa
open Go.RowKit

theorem info_u8 : (Try.prog.info? 5).map (fun i => (i.zero, i.size, i.bytes)) = some (some (.int .u8 0), 1, 1) := by kernel_rfl
def letter (c : Int) : Int := nth [119, 121, 114, 98, 103, 107] c.toNat
theorem index_letters (c : Int) (h0 : 0 ≤ c) (h5 : c ≤ 5) (W : World) : (Instr.index 9 (.string ⟨#[119, 121, 114, 98, 103, 107]⟩) (.int .u8 c)).run Try.prog W = .ok (.int .u8 (letter c)) W := by
  rcases (by omega : c = 0 ∨ c = 1 ∨ c = 2 ∨ c = 3 ∨ c = 4 ∨ c = 5) with rfl | rfl | rfl | rfl | rfl | rfl
  all_goals (simp only [Instr.index, asIntOf, Sem.run_bind, Sem.run_pure, Result.andThen_ok, run_underlying Try.underlying9]; rfl)
/-- The text of the first k cells. -/
def textL (xs : List Int) : Nat → List Int
  | 0 => []
  | k + 1 => (if 0 < k ∧ k % 6 = 0 then textL xs k ++ [47] else textL xs k) ++ [letter (nth xs k)]
theorem textL_length (xs : List Int) : ∀ k, (textL xs k).length ≤ 2 * k
  | 0 => by simp [textL]
  | k + 1 => by
    have := textL_length xs k
    unfold textL
    split <;> simp <;> omega
theorem u8s_snoc (xs : List Int) (c : Int) : u8s xs ++ [.int .u8 c] = u8s (xs ++ [c]) := by simp [u8s]

set_option maxHeartbeats 1000000 in
theorem l01Text_any (xs : List Int) (hx : xs.length = 24) (rx : Bytes xs) (hv : vf xs = true) (b o : Nat) (w : World) (hr : w.rangeAt b o (u8s xs)) :
    Calls Try.prog 61 #[.pointer (some ⟨b, o, none⟩)] w fun e w' => e = .returned (.string (strOfNums (textL xs 24))) ∧ Below w.heap.size w w' := by
  have HV := As.mk hv
  clear hv
  go_enter Try.func61, Try.ntmps61
  go_wp2
  go_loopw [4, 5] (fun v i wr => ∃ k : Nat, k ≤ 24 ∧ i = .int .i64 k ∧ Own wr w.heap.size 5 v (u8s (textL xs k)) ∧ Below w.heap.size w wr) (fun _ i _ => 24 - (intOf i).toNat)
  case atStart => exact ⟨0, by omega, rfl, Own.lit w w.heap.size 5 [] (Nat.le_refl _) (by simp), bl_new (Below.refl _ _) _⟩
  case round =>
    obtain ⟨k, hk, rfl, hO, hb⟩ := hrel
    by_cases hlt : k < 24
    · have hlt' : (k : Int) < 24 := by omega
      have n1 := (rx.nth k).1
      have n2 : nth xs k ≤ 5 := vf_nth HV.out k (by omega)
      have hi := index_letters (nth xs k) n1 n2
      have hlen := textL_length xs k
      have ht := As.mk (show textL xs (k + 1) = (if 0 < k ∧ k % 6 = 0 then textL xs k ++ [47] else textL xs k) ++ [letter (nth xs k)] from rfl)
      by_cases hs : 0 < k ∧ k % 6 = 0
      · have h1 : (0 : Int) < k := by omega
        have h2 : ((k : Int) % 6 == 0) = true := by rw [beq_iff_eq]; omega
        have hs' := As.mk hs
        clear hs
        go_wp2_with (at_builtin; refine app1 (w0 := w) (w.heap.size) rfl (.tmp 18) (.tmp 19) 56 5 (.int .u8 0) 1 rfl Try.underlying56 info_u8 rfl (by omega) (u4) (u8s (textL xs k)) (.int .u8 47) rfl rfl rfl hO hb hb.size (by rw [u8s_length]; omega) ?_)
        intro v1 w1 hO1 hb1 _ _
        rw [u8s_snoc] at hO1
        have c0 : w1.cell? ⟨b, o + k, none⟩ = some (.int .u8 (nth xs k)) := by
          have h0 := hr k _ (u8s_get xs k (by omega))
          rw [hb1.cell (World.block_lt_of_cell? w _ h0)]; exact h0
        go_wp2_with (at_builtin; refine app1 (w0 := w) (w.heap.size) rfl (.tmp 21) (.tmp 29) 56 5 (.int .u8 0) 1 rfl Try.underlying56 info_u8 rfl (by omega) (v1) (u8s (textL xs k ++ [47])) (.int .u8 (letter (nth xs k))) rfl rfl rfl hO1 hb1 hb1.size (by rw [u8s_length, List.length_append]; simp; omega) ?_)
        intro v2 w2 hO2 hb2 _ _
        rw [u8s_snoc] at hO2
        go_wp2_with (fail)
        go_roundw
        case rel => exact ⟨k + 1, by omega, by go_num, by rw [ht.out, if_pos hs'.out]; exact hO2, hb2⟩
        case measure => simp [intOf]; omega
      · have c0 : wr.cell? ⟨b, o + k, none⟩ = some (.int .u8 (nth xs k)) := by
          have h0 := hr k _ (u8s_get xs k (by omega))
          rw [hb.cell (World.block_lt_of_cell? w _ h0)]; exact h0
        have hs' := As.mk hs
        by_cases h0 : k = 0
        · have h1 : decide (0 < k) = false := by simp; omega
          clear hs h0
          go_wp2_with (at_builtin; refine app1 (w0 := w) (w.heap.size) rfl (.tmp 21) (.tmp 29) 56 5 (.int .u8 0) 1 rfl Try.underlying56 info_u8 rfl (by omega) (u4) (u8s (textL xs k)) (.int .u8 (letter (nth xs k))) rfl rfl rfl hO hb hb.size (by rw [u8s_length]; omega) ?_)
          intro v2 w2 hO2 hb2 _ _
          rw [u8s_snoc] at hO2
          go_wp2_with (fail)
          go_roundw
          case rel => exact ⟨k + 1, by omega, by go_num, by rw [ht.out, if_neg hs'.out]; exact hO2, hb2⟩
          case measure => simp [intOf]; omega
        · have h1 : (0 : Int) < k := by omega
          have h2 : ((k : Int) % 6 == 0) = false := by rw [beq_eq_false_iff_ne]; omega
          clear hs h0
          go_wp2_with (at_builtin; refine app1 (w0 := w) (w.heap.size) rfl (.tmp 21) (.tmp 29) 56 5 (.int .u8 0) 1 rfl Try.underlying56 info_u8 rfl (by omega) (u4) (u8s (textL xs k)) (.int .u8 (letter (nth xs k))) rfl rfl rfl hO hb hb.size (by rw [u8s_length]; omega) ?_)
          intro v2 w2 hO2 hb2 _ _
          rw [u8s_snoc] at hO2
          go_wp2_with (fail)
          go_roundw
          case rel => exact ⟨k + 1, by omega, by go_num, by rw [ht.out, if_neg hs'.out]; exact hO2, hb2⟩
          case measure => simp [intOf]; omega
    · obtain rfl : k = 24 := by omega
      have hcv := own_string (P := Try.prog) Try.underlying56 Try.underlying5 Try.underlying9 hO
      go_wp2
      go_ret
      exact ⟨rfl, hb⟩
end Go.Proofs.Ytlgpelcnhdalpaa
