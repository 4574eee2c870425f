/- Contracts for MostDistinct: the first one of the longest accepted lists. -/
import Derived.Test.YtjppoejkfpeicaaMg
set_option linter.unusedVariables false
set_option linter.unusedSimpArgs false
namespace Go.Proofs.Ytjppoejkfpeicaa
open Go.RowKit

theorem twelve (n : Nat) (h : n ≤ 12) : n = 0 ∨ n = 1 ∨ n = 2 ∨ n = 3 ∨ n = 4 ∨ n = 5 ∨ n = 6 ∨ n = 7 ∨ n = 8 ∨ n = 9 ∨ n = 10 ∨ n = 11 ∨ n = 12 := by omega
theorem two_pow_le (n : Nat) (hn : n ≤ 12) : 1 ≤ 2 ^ n ∧ 2 ^ n ≤ 4096 := by
  rcases twelve n hn with rfl | rfl | rfl | rfl | rfl | rfl | rfl | rfl | rfl | rfl | rfl | rfl | rfl <;> decide
theorem shl_wrap (n : Nat) (hn : n ≤ 12) : wrap64 ((2 : Int) ^ n) = ((2 ^ n : Nat) : Int) := by
  have h := two_pow_le n hn
  have e : ((2 : Int) ^ n) = ((2 ^ n : Nat) : Int) := by push_cast; rfl
  rw [e]
  exact IntWalk.wrap64_in _ ⟨by omega, by omega⟩
theorem bit_run (s i : Nat) (hs : s ≤ 4096) (hi : i < 12) : bits .and .i64 ((s : Int) / 2 ^ i) 1 = if s.testBit i then 1 else 0 := by
  have hb : s.testBit i = decide (s / 2 ^ i % 2 = 1) := Nat.testBit_eq_decide_div_mod_eq
  have hq : s / 2 ^ i ≤ 4096 := Nat.le_trans (Nat.div_le_self _ _) hs
  have e0 : (s : Int) / 2 ^ i = ((s / 2 ^ i : Nat) : Int) := by push_cast; rfl
  rw [e0, hb]
  generalize s / 2 ^ i = q at *
  unfold bits
  have e3 : (BitVec.ofInt IntKind.i64.bits (q : Int) &&& BitVec.ofInt IntKind.i64.bits 1).toNat = q % 2 := by
    rw [BitVec.toNat_and]
    have a1 : (BitVec.ofInt IntKind.i64.bits (q : Int)).toNat = q := by
      simp [BitVec.toNat_ofInt, IntKind.bits]; omega
    have a2 : (BitVec.ofInt IntKind.i64.bits 1).toNat = 1 := by decide
    rw [a1, a2, Nat.and_one_is_mod]
  simp only [e3]
  rcases Nat.mod_two_eq_zero_or_one q with h | h <;> rw [h] <;> decide
theorem ownN_hit {k s : Nat} (h : s.testBit k = true) : ownN (k + 1) s = ownN k s ++ [k] := by
  unfold ownN; rw [List.range_succ, List.filter_append]; simp [h]
theorem ownN_miss {k s : Nat} (h : s.testBit k = false) : ownN (k + 1) s = ownN k s := by
  unfold ownN; rw [List.range_succ, List.filter_append]; simp [h]
theorem ownN_length (k s : Nat) : (ownN k s).length ≤ k := by
  unfold ownN
  exact Nat.le_trans (List.length_filter_le _ _) (by simp)
theorem bestN_length (f : Nat → Nat → Bool) (n : Nat) : ∀ s, (bestN f n s).length ≤ n
  | 0 => by simp [bestN]
  | s + 1 => by
    unfold bestN
    split
    · exact ownN_length _ _
    · exact bestN_length f n s
theorem best_succ (f : Nat → Nat → Bool) (n s : Nat) : bestN f n (s + 1) = if (betterN (ownN n s) (bestN f n s) && accN f [] (ownN n s)) then ownN n s else bestN f n s := rfl
theorem best_take {f : Nat → Nat → Bool} {n s : Nat} (h1 : betterN (ownN n s) (bestN f n s) = true) (h2 : accN f [] (ownN n s) = true) : bestN f n (s + 1) = ownN n s := by rw [best_succ, h1, h2]; rfl
theorem best_leave1 {f : Nat → Nat → Bool} {n s : Nat} (h1 : betterN (ownN n s) (bestN f n s) = false) : bestN f n (s + 1) = bestN f n s := by rw [best_succ, h1]; rfl
theorem best_leave2 {f : Nat → Nat → Bool} {n s : Nat} (h2 : accN f [] (ownN n s) = false) : bestN f n (s + 1) = bestN f n s := by rw [best_succ, h2, Bool.and_false]; rfl

set_option maxRecDepth 100000 in
set_option maxHeartbeats 2000000 in
theorem longest_any (f : Nat → Nat → Bool) (N : Nat) (hN : N ≤ 12) (gf : Nat) (lb : Array Value) (eg : ∀ args w, (callFunc gf args).run Try.prog w = .ok (.enter gf args) w) (w : World)
    (hacc : ∀ (W : World) (A : Option Addr) (c s : Nat), (ownN N s).length ≤ c → Below w.heap.size w W → Sl .i64 W A (ni (ownN N s)) → Calls Try.prog gf (#[.slice A (ni (ownN N s)).length c] ++ lb) W fun e w' => e = .returned (.bool (accN f [] (ownN N s))) ∧ Below W.heap.size W w') :
    Calls Try.prog 54 #[.int .i64 (N : Int), .func (.func gf) #[] lb] w fun e w' => (∃ v, e = .returned v ∧ Own w' w.heap.size 2 v (i64s (ni (bestN f N (2 ^ N))))) ∧ Below w.heap.size w w' := by
  have hpw := shl_wrap N hN
  obtain ⟨hp1, hp2⟩ := two_pow_le N hN
  generalize 2 ^ N = p at *
  have hacc' := As.mk hacc
  clear hacc
  go_enter Try.func54, Try.ntmps54
  go_wp2_with (fail)
  simp only [hpw]
  clear hpw
  go_loopw [5, 12] (fun v i wr => ∃ s : Nat, s ≤ p ∧ i = .int .i64 s ∧ Own wr w.heap.size 2 v (i64s (ni (bestN f N s))) ∧ Below w.heap.size w wr) (fun _ i _ => p - (intOf i).toNat)
  case atStart => exact ⟨0, by omega, rfl, Own.lit w w.heap.size 2 [] (Nat.le_refl _) (by simp), bl_new (Below.refl _ _) _⟩
  case round =>
    obtain ⟨s, hs, rfl, hO, hb⟩ := hrel
    by_cases hlt : s < p
    · have hlt' : (s : Int) < (p : Int) := by omega
      have hws := hb.size
      obtain ⟨wo, rfl⟩ : ∃ x, x = wr := ⟨_, rfl⟩
      go_wp2_with (fail)
      go_loopw [7, 17] (fun v i wi => ∃ k : Nat, k ≤ N ∧ i = .int .i64 k ∧ Own wi wo.heap.size 2 v (i64s (ni (ownN k s))) ∧ Below wo.heap.size wo wi) (fun _ i _ => N - (intOf i).toNat)
      case atStart => exact ⟨0, by omega, rfl, Own.lit wo wo.heap.size 2 [] (Nat.le_refl _) (by simp), bl_new (Below.refl _ _) _⟩
      case round =>
        obtain ⟨k, hk, rfl, hO7, hb7⟩ := hrel
        by_cases hkN : k < N
        · have hkN' : (k : Int) < (N : Int) := by omega
          have had := bit_run s k (by omega) (by omega)
          have hk0 : (0 : Int) ≤ (k : Int) := by omega
          have hol := ownN_length k s
          cases hbit : s.testBit k with
          | true =>
            have hst := As.mk (ownN_hit hbit)
            rw [hbit, if_pos rfl] at had
            clear hbit
            go_wp2_with (at_builtin; refine app1 (w0 := wo) (wo.heap.size) rfl (.tmp 25) (.tmp 27) 24 2 (.int .i64 0) 8 rfl Try.underlying24 info_i64 rfl (by omega) (u7) (i64s (ni (ownN k s))) (.int .i64 (k : Int)) rfl rfl rfl hO7 hb7 hb7.size (by rw [i64s_length, ni_length]; omega) ?_)
            intro v4 w4 hO4 hb4 _ _
            rw [i64_snoc, ni_snoc] at hO4
            go_wp2_with (fail)
            clear had
            go_roundw
            case rel => exact ⟨k + 1, by omega, by go_num, by rw [hst.out]; exact hO4, hb4⟩
            case measure => simp [intOf]; omega
          | false =>
            have hst := As.mk (ownN_miss hbit)
            rw [hbit, if_neg (by simp)] at had
            clear hbit
            go_wp2_with (fail)
            clear had
            go_roundw
            case rel => exact ⟨k + 1, by omega, by go_num, by rw [hst.out]; exact hO7, hb7⟩
            case measure => simp [intOf]; omega
        · obtain rfl : k = N := by omega
          have hOb := hO.kept hb7
          have hba := bl_call hb hb7
          have hOw := hO7.lower hws
          obtain ⟨A1, c1, rfl, S1⟩ := hO7.sl
          obtain ⟨A2, c2, rfl, S2⟩ := hOb.sl
          have hc1 := hO7.cap'
          rw [i64s_length, ni_length] at hc1
          have kacc := hacc'.out wr A1 c1 s hc1 hba S1
          have kcmp := fun hl => Compare_any (ni (ownN k s)) (ni (bestN f k s)) hl A1 A2 c1 c2 wr S1 S2
          have l1 := ownN_length k s
          have l2 := bestN_length f k s
          have HB := As.mk (show betterN (ownN k s) (bestN f k s) = (decide ((bestN f k s).length < (ownN k s).length) || (decide ((ownN k s).length = (bestN f k s).length) && lexb (ownN k s) (bestN f k s))) from rfl)
          have HL := As.mk (cmpL_lexb (ownN k s) (bestN f k s))
          have T1 := fun h1 h2 => As.mk (best_take (f := f) (n := k) (s := s) h1 h2)
          have T2 := fun h1 => As.mk (best_leave1 (f := f) (n := k) (s := s) h1)
          have T3 := fun h1 => As.mk (best_leave2 (f := f) (n := k) (s := s) h1)
          have T1 := As.mk T1
          have T2 := As.mk T2
          have T3 := As.mk T3
          have hl1 := As.mk (ni_length (ownN k s))
          have hl2 := As.mk (ni_length (bestN f k s))
          obtain ⟨L1, hL1⟩ : ∃ L, (ni (ownN k s)).length = L := ⟨_, rfl⟩
          obtain ⟨L2, hL2⟩ : ∃ L, (ni (bestN f k s)).length = L := ⟨_, rfl⟩
          rw [hL1] at kacc kcmp hOw hl1 ⊢
          rw [hL2] at kcmp hOb hl2 ⊢
          have hO7 := As.mk hO7
          have hO := As.mk hO
          have S1' := As.mk S1
          have HC1 := As.mk hc1
          have HL1 := As.mk hL1
          clear hL1 hL2 S1 S2 hc1
          rw [← hl1.out] at l1
          rw [← hl2.out] at l2
          by_cases hgt : L2 < L1
          · have hgt' : (L2 : Int) < (L1 : Int) := by omega
            have hbt := As.mk (show betterN (ownN k s) (bestN f k s) = true by rw [HB.out, ← hl1.out, ← hl2.out]; simp [hgt])
            cases hacb : accN f [] (ownN k s) with
            | true =>
              rw [hacb] at kacc
              have hT := As.mk (T1.out hbt.out hacb).out
              clear hacb
              go_wp2_with (fail)
              refine kacc.mono ?_; rintro e w' ⟨rfl, hb'⟩
              go_wp2_with (fail)
              go_roundw
              case rel => exact ⟨s + 1, by omega, by go_num, by rw [hT.out]; exact hOw.kept hb', bl_call hba hb'⟩
              case measure => simp [intOf]; omega
            | false =>
              rw [hacb] at kacc
              have hT := As.mk (T3.out hacb).out
              clear hacb
              go_wp2_with (fail)
              refine kacc.mono ?_; rintro e w' ⟨rfl, hb'⟩
              go_wp2_with (fail)
              go_roundw
              case rel => exact ⟨s + 1, by omega, by go_num, by rw [hT.out]; exact hOb.kept hb', bl_call hba hb'⟩
              case measure => simp [intOf]; omega
          · by_cases heq : L1 = L2
            · have hng : ¬ ((L2 : Int) < (L1 : Int)) := by omega
              subst heq
              have kc := kcmp rfl
              have hlx := As.mk (HL.out (by rw [← hl1.out, ← hl2.out]))
              generalize cmpL (ni (ownN k s)) (ni (bestN f k s)) = cv at *
              by_cases hcv : cv < 0
              · have hbt := As.mk (show betterN (ownN k s) (bestN f k s) = true by rw [HB.out, ← hlx.out, ← hl1.out, ← hl2.out]; simp [hcv])
                have hcv' : decide (cv < 0) = true := by simp [hcv]
                clear kacc
                go_wp2_with (fail)
                refine kc.mono ?_; rintro e w' ⟨rfl, hb'⟩
                have kacc := hacc'.out w' A1 c1 s HC1.out (bl_call hba hb') (S1'.out.kept hb')
                rw [HL1.out] at kacc
                cases hacb : accN f [] (ownN k s) with
                | true =>
                  rw [hacb] at kacc
                  have hT := As.mk (T1.out hbt.out hacb).out
                  clear hacb
                  go_wp2_with (fail)
                  refine kacc.mono ?_; rintro e w2 ⟨rfl, hb2⟩
                  go_wp2_with (fail)
                  go_roundw
                  case rel => exact ⟨s + 1, by omega, by go_num, by rw [hT.out]; exact (hOw.kept hb').kept hb2, bl_call (bl_call hba hb') hb2⟩
                  case measure => simp [intOf]; omega
                | false =>
                  rw [hacb] at kacc
                  have hT := As.mk (T3.out hacb).out
                  clear hacb
                  go_wp2_with (fail)
                  refine kacc.mono ?_; rintro e w2 ⟨rfl, hb2⟩
                  go_wp2_with (fail)
                  go_roundw
                  case rel => exact ⟨s + 1, by omega, by go_num, by rw [hT.out]; exact (hOb.kept hb').kept hb2, bl_call (bl_call hba hb') hb2⟩
                  case measure => simp [intOf]; omega
              · have hbt := As.mk (show betterN (ownN k s) (bestN f k s) = false by rw [HB.out, ← hlx.out, ← hl1.out, ← hl2.out]; simp [hcv])
                have hT := As.mk (T2.out hbt.out).out
                clear kacc
                go_wp2_with (fail)
                refine kc.mono ?_; rintro e w' ⟨rfl, hb'⟩
                go_wp2_with (fail)
                go_roundw
                case rel => exact ⟨s + 1, by omega, by go_num, by rw [hT.out]; exact hOb.kept hb', bl_call hba hb'⟩
                case measure => simp [intOf]; omega
            · have hng : ¬ ((L2 : Int) < (L1 : Int)) := by omega
              have hne : ¬ ((L1 : Int) = (L2 : Int)) := by omega
              have hbt := As.mk (show betterN (ownN k s) (bestN f k s) = false by rw [HB.out, ← hl1.out, ← hl2.out]; simp [hgt, heq])
              have hT := As.mk (T2.out hbt.out).out
              go_wp2_with (fail)
              go_roundw
              case rel => exact ⟨s + 1, by omega, by go_num, by rw [hT.out]; exact hOb, hba⟩
              case measure => simp [intOf]; omega
    · obtain rfl : s = p := by omega
      go_wp2_with (fail)
      go_ret
      exact ⟨⟨_, rfl, hO⟩, hb⟩
end Go.Proofs.Ytjppoejkfpeicaa
