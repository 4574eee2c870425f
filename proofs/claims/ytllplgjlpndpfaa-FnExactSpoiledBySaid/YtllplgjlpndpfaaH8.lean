/- Contracts: SpoiledBy: both sides. -/
import Derived.Test.YtllplgjlpndpfaaH7
set_option linter.unusedVariables false
namespace Go.Proofs.Ytllplgjlpndpfaa
open Go.RowKit

/-- The places below k at which two lists differ. -/
def diffK (m n : List Int) (k : Nat) : List Int := ((List.range k).filter fun i => nth m i != nth n i).map fun (i : Nat) => (i : Int)
theorem diff_t (m n : List Int) (k : Nat) (h : (nth m k != nth n k) = true) : diffK m n (k + 1) = diffK m n k ++ [(k : Int)] := by
  unfold diffK; rw [List.range_succ, List.filter_append]; simp [h]
theorem diff_f (m n : List Int) (k : Nat) (h : (nth m k != nth n k) = false) : diffK m n (k + 1) = diffK m n k := by
  unfold diffK; rw [List.range_succ, List.filter_append]; simp [h]
theorem diff_le (m n : List Int) (k : Nat) : (diffK m n k).length ≤ k := by
  unfold diffK; rw [List.length_map]; exact Nat.le_trans (List.length_filter_le _ _) (by simp)
def spoilL (xs : List Int) (i x : Int) : List Int := if placeC xs i x = 0 then diffK (hMean xs) (ifL xs i x) xs.length else []
theorem spoil_le (xs : List Int) (i x : Int) : (spoilL xs i x).length ≤ 8 := by
  unfold spoilL
  split
  · rename_i h; exact Nat.le_trans (diff_le _ _ _) (hOk_len (place_zero h).1).2
  · simp
theorem i64s_snoc (xs : List Int) (x : Int) : i64s xs ++ [.int .i64 x] = i64s (xs ++ [x]) := by simp [i64s]

set_option maxHeartbeats 1000000 in
theorem SpoiledBy_any (xs : List Int) (i x : Int) (ri : -9223372036854775808 ≤ i ∧ i ≤ 9223372036854775807) (A : Option Addr) (c : Nat) (w : World) (h : Sl .i8 w A xs) (rx : ∀ n ∈ xs, -128 ≤ n ∧ n ≤ 127) (hn : xs.length ≤ 1048576) :
    Calls Try.prog 41 #[.slice A xs.length c, .int .i64 i, .int .i64 x] w fun e w' => Gave 2 (i64s (spoilL xs i x)) (placeC xs i x) w.heap.size e w' ∧ Below w.heap.size w w' := by
  have key := MeaningIf_any xs i x ri A c w h rx hn
  by_cases h0 : placeC xs i x = 0
  · have hok := (place_zero h0).1
    have hpos := hOk_len hok
    have hS := As.mk (show spoilL xs i x = diffK (hMean xs) (ifL xs i x) xs.length by unfold spoilL; rw [if_pos h0])
    have hlm := hMean_length hok
    have hln := ifL_len h0
    have key2 := fun W h' => meaning_any xs A c W h' rx hn
    rw [h0] at key ⊢
    obtain ⟨n, hm⟩ : ∃ n, xs.length = n := ⟨_, rfl⟩
    rw [hm] at hS hlm hln hpos hn key key2 ⊢
    have HM := As.mk hm
    clear hm
    obtain ⟨mm, hmm⟩ : ∃ mm, hMean xs = mm := ⟨_, rfl⟩
    rw [hmm] at hS hlm
    have HMM := As.mk hmm
    clear hmm
    generalize ifL xs i x = nn at *
    go_enter Try.func41, Try.ntmps41
    go_wp2_with (fail)
    refine key.mono ?_; rintro e w1 ⟨⟨v, rfl, hO⟩, hb⟩
    obtain ⟨A1, c1, rfl, S1⟩ := hO.sl
    go_wp2_with (fail)
    refine (key2 _ (h.kept hb)).mono ?_; rintro e w2 ⟨⟨v2, rfl, hO2⟩, hb2⟩
    rw [hok]
    have hO2 := hO2 hok
    rw [HMM.out] at hO2
    obtain ⟨A2, c2, rfl, S2⟩ := hO2.sl
    have b2 := bl_call hb hb2
    have T1 := S1.kept hb2
    clear hO hO2 S1 key key2
    rw [hlm]
    go_wp2_with (fail)
    go_loopw [12, 32] (fun v i wr => ∃ k : Nat, k ≤ n ∧ i = .int .i64 k ∧ Own wr w2.heap.size 2 v (i64s (diffK mm nn k)) ∧ Below w2.heap.size w2 wr) (fun _ i _ => n - (intOf i).toNat)
    case atStart => exact ⟨0, by omega, rfl, Own.lit w2 w2.heap.size 2 [] (Nat.le_refl _) (by simp), bl_new (Below.refl _ _) _⟩
    case round =>
      obtain ⟨k, hk, rfl, hO, hb3⟩ := hrel
      by_cases hlt : k < n
      · have hlt' : (k : Int) < (n : Int) := by omega
        obtain ⟨b, o, rfl, hr⟩ := S2.2 (by omega)
        obtain ⟨b', o', rfl, hr'⟩ := T1.2 (by omega)
        have c0 : wr.cell? ⟨b, o + k, none⟩ = some (.int .i8 (nth mm k)) := range_below hr hb3 k _ (i8s_get mm k (by omega))
        have c1 : wr.cell? ⟨b', o' + k, none⟩ = some (.int .i8 (nth nn k)) := range_below hr' hb3 k _ (i8s_get nn k (by omega))
        have hd := diff_le mm nn k
        cases ht : (nth mm k != nth nn k)
        · have hs := As.mk (diff_f mm nn k ht)
          go_wp2_with (fail)
          go_quiet (fail)
          go_wp2_with (fail)
          go_roundw
          case rel => exact ⟨k + 1, by omega, by go_num, by rw [hs.out]; exact hO.drewN _, bl_drewN hb3 _⟩
          case measure => simp [intOf]; omega
        · have hs := As.mk (diff_t mm nn k ht)
          go_wp2_with (fail)
          go_quiet (fail)
          generalize hW : wr.drewN nq = W2
          have hO' : Own W2 w2.heap.size 2 u12 (i64s (diffK mm nn k)) := by rw [← hW]; exact hO.drewN _
          have hb3' : Below w2.heap.size w2 W2 := by rw [← hW]; exact bl_drewN hb3 _
          clear hW
          go_wp2_with (at_builtin; refine app1 (w0 := w2) (w2.heap.size) rfl (.tmp 44) (.tmp 46) 50 2 (.int .i64 0) 8 rfl Try.underlying50 info_i64 rfl (by omega) (u12) (i64s (diffK mm nn k)) (.int .i64 k) rfl rfl rfl hO' hb3' hb3'.size (by rw [i64s_length]; omega) ?_)
          intro v3 w3 hO3 hb4 _ _
          rw [i64s_snoc] at hO3
          go_wp2_with (fail)
          go_roundw
          case rel => exact ⟨k + 1, by omega, by go_num, by rw [hs.out]; exact hO3, hb4⟩
          case measure => simp [intOf]; omega
      · obtain rfl : k = n := by omega
        go_wp2_with (fail)
        go_ret2
        exact ⟨⟨_, rfl, by rw [hS.out]; exact hO.lower b2.size⟩, bl_call b2 hb3⟩
  · have hne : (placeC xs i x != 0) = true := by rw [bne_iff_ne]; exact h0
    have hL := As.mk (show spoilL xs i x = [] by unfold spoilL; rw [if_neg h0])
    clear h0
    go_enter Try.func41, Try.ntmps41
    go_wp2_with (fail)
    refine key.mono ?_; rintro e w1 ⟨⟨v, rfl, hO⟩, hb⟩
    go_wp2_with (fail)
    go_ret2
    exact ⟨⟨_, rfl, by rw [hL.out]; exact Own.nil _ _ _⟩, hb⟩
set_option maxHeartbeats 1000000 in
theorem sSpoiledBy_any (xs : List Int) (i x : Int) (ri : -9223372036854775808 ≤ i ∧ i ≤ 9223372036854775807) (A : Option Addr) (c : Nat) (w : World) (h : Sl .i8 w A xs) (rx : ∀ n ∈ xs, -128 ≤ n ∧ n ≤ 127) (hn : xs.length ≤ 1048576) :
    Calls Try.prog 40 #[.slice A xs.length c, .int .i64 i, .int .i64 x] w fun e w' => Gave 2 (i64s (spoilL xs i x)) (placeC xs i x) w.heap.size e w' ∧ Below w.heap.size w w' := by
  have key := l02If_any xs i x ri A c w h rx hn
  by_cases h0 : placeC xs i x = 0
  · have hok := (place_zero h0).1
    have hpos := hOk_len hok
    have hS := As.mk (show spoilL xs i x = diffK (hMean xs) (ifL xs i x) xs.length by unfold spoilL; rw [if_pos h0])
    have hlm := hMean_length hok
    have hln := ifL_len h0
    have key2 := fun W h' => l02Read_any xs A c W h' rx
    rw [h0] at key ⊢
    obtain ⟨n, hm⟩ : ∃ n, xs.length = n := ⟨_, rfl⟩
    rw [hm] at hS hlm hln hpos hn key key2 ⊢
    have HM := As.mk hm
    clear hm
    obtain ⟨mm, hmm⟩ : ∃ mm, hMean xs = mm := ⟨_, rfl⟩
    rw [hmm] at hS hlm
    have HMM := As.mk hmm
    clear hmm
    generalize ifL xs i x = nn at *
    go_enter Try.func40, Try.ntmps40
    go_wp2_with (fail)
    refine key.mono ?_; rintro e w1 ⟨⟨v, rfl, hO⟩, hb⟩
    obtain ⟨A1, c1, rfl, S1⟩ := hO.sl
    go_wp2_with (fail)
    refine (key2 _ (h.kept hb)).mono ?_; rintro e w2 ⟨⟨v2, rfl, hO2⟩, hb2⟩
    rw [hok]
    have hO2 := hO2 hok
    rw [HMM.out] at hO2
    obtain ⟨A2, c2, rfl, S2⟩ := hO2.sl
    have b2 := bl_call hb hb2
    have T1 := S1.kept hb2
    clear hO hO2 S1 key key2
    rw [hlm]
    go_wp2_with (fail)
    go_loopw [12, 13] (fun v i wr => ∃ k : Nat, k ≤ n ∧ i = .int .i64 k ∧ Own wr w2.heap.size 2 v (i64s (diffK mm nn k)) ∧ Below w2.heap.size w2 wr) (fun _ i _ => n - (intOf i).toNat)
    case atStart => exact ⟨0, by omega, rfl, Own.lit w2 w2.heap.size 2 [] (Nat.le_refl _) (by simp), bl_new (Below.refl _ _) _⟩
    case round =>
      obtain ⟨k, hk, rfl, hO, hb3⟩ := hrel
      by_cases hlt : k < n
      · have hlt' : (k : Int) < (n : Int) := by omega
        obtain ⟨b, o, rfl, hr⟩ := S2.2 (by omega)
        obtain ⟨b', o', rfl, hr'⟩ := T1.2 (by omega)
        have c0 : wr.cell? ⟨b, o + k, none⟩ = some (.int .i8 (nth mm k)) := range_below hr hb3 k _ (i8s_get mm k (by omega))
        have c1 : wr.cell? ⟨b', o' + k, none⟩ = some (.int .i8 (nth nn k)) := range_below hr' hb3 k _ (i8s_get nn k (by omega))
        have hd := diff_le mm nn k
        cases ht : (nth mm k != nth nn k)
        · have hs := As.mk (diff_f mm nn k ht)
          go_wp2_with (fail)
          go_quiet (fail)
          go_wp2_with (fail)
          go_roundw
          case rel => exact ⟨k + 1, by omega, by go_num, by rw [hs.out]; exact hO.drewN _, bl_drewN hb3 _⟩
          case measure => simp [intOf]; omega
        · have hs := As.mk (diff_t mm nn k ht)
          go_wp2_with (fail)
          go_quiet (fail)
          generalize hW : wr.drewN nq = W2
          have hO' : Own W2 w2.heap.size 2 u12 (i64s (diffK mm nn k)) := by rw [← hW]; exact hO.drewN _
          have hb3' : Below w2.heap.size w2 W2 := by rw [← hW]; exact bl_drewN hb3 _
          clear hW
          go_wp2_with (at_builtin; refine app1 (w0 := w2) (w2.heap.size) rfl (.tmp 46) (.tmp 48) 50 2 (.int .i64 0) 8 rfl Try.underlying50 info_i64 rfl (by omega) (u12) (i64s (diffK mm nn k)) (.int .i64 k) rfl rfl rfl hO' hb3' hb3'.size (by rw [i64s_length]; omega) ?_)
          intro v3 w3 hO3 hb4 _ _
          rw [i64s_snoc] at hO3
          go_wp2_with (fail)
          go_roundw
          case rel => exact ⟨k + 1, by omega, by go_num, by rw [hs.out]; exact hO3, hb4⟩
          case measure => simp [intOf]; omega
      · obtain rfl : k = n := by omega
        go_wp2_with (fail)
        go_ret2
        exact ⟨⟨_, rfl, by rw [hS.out]; exact hO.lower b2.size⟩, bl_call b2 hb3⟩
  · have hne : (placeC xs i x != 0) = true := by rw [bne_iff_ne]; exact h0
    have hL := As.mk (show spoilL xs i x = [] by unfold spoilL; rw [if_neg h0])
    clear h0
    go_enter Try.func40, Try.ntmps40
    go_wp2_with (fail)
    refine key.mono ?_; rintro e w1 ⟨⟨v, rfl, hO⟩, hb⟩
    go_wp2_with (fail)
    go_ret2
    exact ⟨⟨_, rfl, by rw [hL.out]; exact Own.lit w1 w.heap.size 2 [] hb.size (by simp)⟩, bl_new hb _⟩
end Go.Proofs.Ytllplgjlpndpfaa
