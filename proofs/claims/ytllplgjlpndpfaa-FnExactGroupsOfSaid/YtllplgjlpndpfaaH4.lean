/- Contracts: what a hoist means: both sides. -/
import Derived.Test.YtllplgjlpndpfaaHm
import Derived.Test.YtllplgjlpndpfaaH3
set_option linter.unusedVariables false
namespace Go.Proofs.Ytllplgjlpndpfaa
open Go.RowKit

theorem i8s_snoc (xs : List Int) (x : Int) : i8s xs ++ [.int .i8 x] = i8s (xs ++ [x]) := by simp [i8s]
theorem size8_any (A : Option Addr) (n c : Nat) (w : World) : Calls Try.prog 68 #[.slice A n c] w fun e w' => e = .returned (.int .i64 n) ∧ w = w' := by
  go_enter Try.func68, Try.ntmps68
  go_wp2
  go_ret
  exact ⟨rfl, rfl⟩
theorem isKind_any (n : Int) (hn : -128 ≤ n ∧ n ≤ 127) (w : World) : Calls Try.prog 67 #[.int .i8 n] w fun e w' => e = .returned (.bool (inR n 0 39)) ∧ w = w' := by
  obtain ⟨h1, h2⟩ := hn
  go_enter Try.func67, Try.ntmps67
  go_wp2_with (go_at_call 66; refine (within_any _ _ _ _).mono ?_; rintro e w' ⟨rfl, rfl⟩)
  go_ret
  exact ⟨rfl, rfl⟩

/-- What the one side hands back: its second answer is 'hOk'; if so, its first one is 'hMean', in memory of its own. -/
def Meant (xs : List Int) (base : Nat) (e : Ending) (w' : World) : Prop := ∃ v, e = .returned (.tuple #[v, .bool (hOk xs)]) ∧ (hOk xs = true → Own w' base 62 v (i8s (hMean xs)))

theorem meant_bad {xs : List Int} {v : Value} {b : Bool} {base : Nat} {w : World} (hb : b = false) (h : hOk xs = false) : Meant xs base (.returned (.tuple #[v, .bool b])) w := by
  subst hb; exact ⟨v, by rw [h], fun h' => by rw [h] at h'; cases h'⟩

set_option maxHeartbeats 2000000 in
theorem meaning_any (xs : List Int) (A : Option Addr) (c : Nat) (w : World) (h : Sl .i8 w A xs) (rx : ∀ n ∈ xs, -128 ≤ n ∧ n ≤ 127) (hn : xs.length ≤ 1048576) :
    Calls Try.prog 51 #[.slice A xs.length c] w fun e w' => Meant xs w.heap.size e w' ∧ Below w.heap.size w w' := by
  obtain ⟨n, hm⟩ : ∃ n, xs.length = n := ⟨_, rfl⟩
  have HM := As.mk hm
  have HX := As.mk rx
  rw [hm] at hn ⊢
  clear hm rx
  go_enter Try.func51, Try.ntmps51
  go_wp2
  go_loopw [4, 5, 12] (fun v gg i wr => ∃ (k g : Nat) (o : List Int), k ≤ n ∧ i = .int .i64 k ∧ gg = .int .i64 g ∧ As (hRead xs k = some (o, g)) ∧ Own wr w.heap.size 62 v (i8s o) ∧ Below w.heap.size w wr) (fun _ _ i _ => n - (intOf i).toNat)
  case atStart => exact ⟨0, 0, [], by omega, rfl, rfl, ⟨rfl⟩, Own.lit w w.heap.size 62 [] (Nat.le_refl _) (by simp), bl_new (Below.refl _ _) _⟩
  case round =>
    obtain ⟨k, g, o, hk, rfl, rfl, R, hO, hb⟩ := hrel
    have inv := As.mk (hRead_inv _ _ _ _ R.out)
    have hlen : o.length = k := inv.out.len
    have hgk : g ≤ k := inv.out.le
    obtain ⟨A1, c1', rfl, S1⟩ := hO.sl
    rw [hlen] at hO ⊢
    by_cases hlt : k < n
    · have hlt' : (k : Int) < (n : Int) := by omega
      obtain ⟨b, off, rfl, hr⟩ := h.2 (by rw [HM.out]; omega)
      have c0 : wr.cell? ⟨b, off + k, none⟩ = some (.int .i8 (nth xs k)) := by
        have h0 := hr k _ (i8s_get xs k (by rw [HM.out]; exact hlt))
        rw [hb.cell (World.block_lt_of_cell? w _ h0)]; exact h0
      have hx := HX.out _ (nth_mem xs k (by rw [HM.out]; exact hlt))
      have hs := As.mk (hRead_succ R.out)
      generalize nth xs k = x at *
      by_cases hx10 : x = -10
      · subst hx10
        by_cases hg : g = k
        · subst hg
          go_wp2_with (fail)
          go_ret2
          exact ⟨meant_bad rfl (hOk_none (k := g + 1) (by rw [hs.out, hStep_brk_none hlen.symm]) (by rw [HM.out]; omega)), hb⟩
        · have hg' : ((g : Int) == (k : Int)) = false := by rw [beq_eq_false_iff_ne]; omega
          have hs' := As.mk (hs.out.trans (hStep_brk (o := o) (g := g) (by omega)))
          have hl2 : (o ++ [(-10 : Int)]).length = k + 1 := by simp [hlen]
          clear hs hg
          go_wp2_with (at_builtin; refine app1 (w0 := w) (w.heap.size) rfl (.tmp 22) (.tmp 24) 29 62 (.int .i8 0) 1 rfl Try.underlying29 info_i8 rfl (by omega) (.slice A1 k c1') (i8s o) (.int .i8 (-10)) rfl rfl rfl hO hb hb.size (by rw [i8s_length]; omega) ?_)
          intro v2 w2 hO2 hb2 _ _
          rw [i8s_snoc] at hO2
          obtain ⟨A2, c2, rfl, S2⟩ := hO2.sl
          rw [hl2] at hO2 ⊢
          go_wp2_with (fail)
          go_roundw
          case rel => exact ⟨k + 1, k + 1, o ++ [-10], by omega, by go_num, by go_num, ⟨by rw [hs'.out, hlen]⟩, hO2, hb2⟩
          case measure => simp [intOf]; omega
      · have hx10' : (x == -10) = false := by rw [beq_eq_false_iff_ne]; exact hx10
        have n1 := hx.1
        have n2 := hx.2
        by_cases hk1 : 0 ≤ x ∧ x ≤ 39
        · have m1 := hk1.1
          have m2 := hk1.2
          have hw1 : inR x (-4) (-1) = false := by rw [inR_not]; omega
          have hw2 : inR x 0 39 = true := by rw [inR_iff]; exact hk1
          have hs' := As.mk (hs.out.trans (hStep_kind (o := o) (g := g) m1 m2))
          have hl2 : (o ++ [x]).length = k + 1 := by simp [hlen]
          clear hs hx hk1
          go_wp2_with (first | first | (go_at_call 66; refine (within_any _ _ _ _).mono ?_; rintro e w' ⟨rfl, rfl⟩) | (go_at_call 67; refine (isKind_any _ ⟨n1, n2⟩ _).mono ?_; rintro e w' ⟨rfl, rfl⟩) | (at_builtin; refine app1 (w0 := w) (w.heap.size) rfl (.tmp 49) (.tmp 51) 29 62 (.int .i8 0) 1 rfl Try.underlying29 info_i8 rfl (by omega) (.slice A1 k c1') (i8s o) (.int .i8 x) rfl rfl rfl hO hb hb.size (by rw [i8s_length]; omega) ?_))
          intro v2 w2 hO2 hb2 _ _
          rw [i8s_snoc] at hO2
          go_wp2_with (fail)
          go_roundw
          case rel => exact ⟨k + 1, g, o ++ [x], by omega, by go_num, rfl, hs', hO2, hb2⟩
          case measure => simp [intOf]; omega
        · by_cases hk2 : -4 ≤ x ∧ x ≤ -1 ∧ g + ((-x).toNat - 1) < k
          · have m1 := hk2.1
            have m2 := hk2.2.1
            have m3 : 0 ≤ (g : Int) - x - 1 := by omega
            have m4 : (g : Int) - x - 1 < k := by omega
            have m5 : ((g : Int) - x).toNat - 1 = g + ((-x).toNat - 1) := by omega
            have hw1 : inR x (-4) (-1) = true := by rw [inR_iff]; omega
            have hs' := As.mk (hs.out.trans (hStep_sub (o := o) (g := g) m1 m2 (by rw [hlen]; exact hk2.2.2)))
            have hkd := inv.out.kinds (g + ((-x).toNat - 1)) (by omega) hk2.2.2
            obtain ⟨g1, rfl⟩ := hO.addr (by rw [i8s_length]; omega)
            have c1 := hO.cellAt (((g : Int) - x).toNat - 1) (by rw [i8s_length, hlen]; omega)
            rw [i8s_get o _ (by omega), m5] at c1
            rw [← m5] at hs' hkd c1
            generalize nth o (((g : Int) - x).toNat - 1) = y at *
            have y1 := hkd.1
            have y2 := hkd.2
            have hw2 : inR y 0 39 = true := by rw [inR_iff]; exact hkd
            have hl2 : (o ++ [y]).length = k + 1 := by simp [hlen]
            clear hs hx hk1 hk2 hkd m5
            go_wp2_with (first | first | (go_at_call 66; refine (within_any _ _ _ _).mono ?_; rintro e w' ⟨rfl, rfl⟩) | (go_at_call 67; refine (isKind_any _ ⟨by omega, by omega⟩ _).mono ?_; rintro e w' ⟨rfl, rfl⟩) | (at_builtin; refine app1 (w0 := w) (w.heap.size) rfl (.tmp 49) (.tmp 51) 29 62 (.int .i8 0) 1 rfl Try.underlying29 info_i8 rfl (by omega) (.slice (some ⟨g1, 0, none⟩) k c1') (i8s o) (.int .i8 y) rfl rfl rfl hO hb hb.size (by rw [i8s_length]; omega) ?_))
            intro v2 w2 hO2 hb2 _ _
            rw [i8s_snoc] at hO2
            go_wp2_with (fail)
            go_roundw
            case rel => exact ⟨k + 1, g, o ++ [y], by omega, by go_num, rfl, hs', hO2, hb2⟩
            case measure => simp [intOf]; omega
          · have hn' := hs.out.trans (hStep_none (o := o) (g := g) hx10 hk1 (by rw [hlen]; exact hk2))
            have hw2 : inR x 0 39 = false := by rw [inR_not]; exact hk1
            by_cases hk3 : -4 ≤ x ∧ x ≤ -1
            · have hw1 : inR x (-4) (-1) = true := by rw [inR_iff]; exact hk3
              have m4 : ¬ ((g : Int) - x - 1 < k) := by omega
              clear hs hx hk1 hk2 hk3
              go_wp2_with (first | (go_at_call 66; refine (within_any _ _ _ _).mono ?_; rintro e w' ⟨rfl, rfl⟩) | (go_at_call 67; refine (isKind_any _ ⟨n1, n2⟩ _).mono ?_; rintro e w' ⟨rfl, rfl⟩))
              go_ret2
              exact ⟨meant_bad rfl (hOk_none hn' (by rw [HM.out]; omega)), hb⟩
            · have hw1 : inR x (-4) (-1) = false := by rw [inR_not]; exact hk3
              clear hs hx hk1 hk2 hk3
              go_wp2_with (first | (go_at_call 66; refine (within_any _ _ _ _).mono ?_; rintro e w' ⟨rfl, rfl⟩) | (go_at_call 67; refine (isKind_any _ ⟨n1, n2⟩ _).mono ?_; rintro e w' ⟨rfl, rfl⟩))
              go_ret2
              exact ⟨meant_bad rfl (hOk_none hn' (by rw [HM.out]; omega)), hb⟩
    · obtain rfl : k = n := by omega
      have hR := R.out
      rw [← HM.out] at hR
      have ho := As.mk (hOk_some hR)
      rw [HM.out] at ho
      have hfin : hOk xs = true → Own wr w.heap.size 62 (.slice A1 k c1') (i8s (hMean xs)) := fun h' => by rw [hMean_some hR h']; exact hO
      cases h1 : inR (k : Int) 1 8
      · rw [h1, Bool.false_and] at ho
        go_wp2_with (first | (go_at_call 66; refine (within_any _ _ _ _).mono ?_; rintro e w' ⟨rfl, rfl⟩) | (go_at_call 68; refine (size8_any _ _ _ _).mono ?_; rintro e w' ⟨rfl, rfl⟩))
        go_ret2
        exact ⟨meant_bad rfl ho.out, hb⟩
      · rw [h1, Bool.true_and] at ho
        by_cases h2 : g < k
        · have h2' : (g : Int) < (k : Int) := by omega
          go_wp2_with (first | (go_at_call 66; refine (within_any _ _ _ _).mono ?_; rintro e w' ⟨rfl, rfl⟩) | (go_at_call 68; refine (size8_any _ _ _ _).mono ?_; rintro e w' ⟨rfl, rfl⟩))
          go_ret2
          exact ⟨⟨_, by rw [ho.out]; simp [h2], hfin⟩, hb⟩
        · have h2' : ¬ ((g : Int) < (k : Int)) := by omega
          go_wp2_with (first | (go_at_call 66; refine (within_any _ _ _ _).mono ?_; rintro e w' ⟨rfl, rfl⟩) | (go_at_call 68; refine (size8_any _ _ _ _).mono ?_; rintro e w' ⟨rfl, rfl⟩))
          go_ret2
          exact ⟨meant_bad rfl (by rw [ho.out]; simp [h2]), hb⟩

set_option maxHeartbeats 2000000 in
theorem l02Read_any (xs : List Int) (A : Option Addr) (c : Nat) (w : World) (h : Sl .i8 w A xs) (rx : ∀ n ∈ xs, -128 ≤ n ∧ n ≤ 127) :
    Calls Try.prog 55 #[.slice A xs.length c] w fun e w' => Meant xs w.heap.size e w' ∧ Below w.heap.size w w' := by
  obtain ⟨n, hm⟩ : ∃ n, xs.length = n := ⟨_, rfl⟩
  have HM := As.mk hm
  have HX := As.mk rx
  have hbig := h.1
  rw [hm] at hbig ⊢
  clear hm rx
  cases h18 : inR (n : Int) 1 8
  · go_enter Try.func55, Try.ntmps55
    go_wp2_with (go_at_call 70; refine (l00In_any _ _ _ _).mono ?_; rintro e w' ⟨rfl, rfl⟩)
    go_ret2
    exact ⟨meant_bad rfl (by
      cases e : hOk xs
      · rfl
      · have := hOk_len e
        rw [HM.out] at this
        rw [inR_not] at h18; omega), bl_new (Below.refl _ _) _⟩
  · have hn8 := (inR_iff _ _ _).1 h18
    have hn1 : 1 ≤ n := by omega
    have hn2 : n ≤ 8 := by omega
    go_enter Try.func55, Try.ntmps55
    go_wp2_with (go_at_call 70; refine (l00In_any _ _ _ _).mono ?_; rintro e w' ⟨rfl, rfl⟩)
    go_loopw [5, 6, 7] (fun v gg i wr => ∃ (k g : Nat) (o : List Int), k ≤ n ∧ i = .int .i64 k ∧ gg = .int .i64 g ∧ As (hRead xs k = some (o, g)) ∧ As (k = n → g < n) ∧ Own wr w.heap.size 62 v (i8s o) ∧ Below w.heap.size w wr) (fun _ _ i _ => n - (intOf i).toNat)
    case atStart => exact ⟨0, 0, [], by omega, rfl, rfl, ⟨rfl⟩, ⟨by omega⟩, Own.lit w w.heap.size 62 [] (Nat.le_refl _) (by simp), bl_new (Below.refl _ _) _⟩
    case round =>
      obtain ⟨k, g, o, hk, rfl, rfl, R, G, hO, hb⟩ := hrel
      have inv := As.mk (hRead_inv _ _ _ _ R.out)
      have hlen : o.length = k := inv.out.len
      have hgk : g ≤ k := inv.out.le
      obtain ⟨A1, c1', rfl, S1⟩ := hO.sl
      rw [hlen] at hO ⊢
      by_cases hlt : k < n
      · have hlt' : (k : Int) < (n : Int) := by omega
        obtain ⟨b, off, rfl, hr⟩ := h.2 (by rw [HM.out]; omega)
        have c0 : wr.cell? ⟨b, off + k, none⟩ = some (.int .i8 (nth xs k)) := by
          have h0 := hr k _ (i8s_get xs k (by rw [HM.out]; exact hlt))
          rw [hb.cell (World.block_lt_of_cell? w _ h0)]; exact h0
        have hx := HX.out _ (nth_mem xs k (by rw [HM.out]; exact hlt))
        have hs := As.mk (hRead_succ R.out)
        generalize nth xs k = x at *
        by_cases hx10 : x = -10
        · subst hx10
          by_cases hg : g = k
          · subst hg
            go_wp2_with (fail)
            go_ret2
            exact ⟨meant_bad rfl (hOk_none (k := g + 1) (by rw [hs.out, hStep_brk_none hlen.symm]) (by rw [HM.out]; omega)), bl_new hb _⟩
          · have hg' : ((k : Int) == (g : Int)) = false := by rw [beq_eq_false_iff_ne]; omega
            have hs' := As.mk (hs.out.trans (hStep_brk (o := o) (g := g) (by omega)))
            have hl2 : (o ++ [(-10 : Int)]).length = k + 1 := by simp [hlen]
            clear hs hg
            by_cases hl1 : k + 1 = n
            · have hq : ((k : Int) == (n : Int) - 1) = true := by rw [beq_iff_eq]; omega
              go_wp2_with (fail)
              go_ret2
              exact ⟨meant_bad rfl (by
                have h' := hs'.out
                rw [show k + 1 = xs.length by rw [HM.out]; exact hl1] at h'
                rw [hOk_some h', hlen, HM.out]; simp; omega), bl_new hb _⟩
            · have hq : ((k : Int) == (n : Int) - 1) = false := by rw [beq_eq_false_iff_ne]; omega
              go_wp2_with (at_builtin; refine app1 (w0 := w) (w.heap.size) rfl (.tmp 42) (.tmp 44) 29 62 (.int .i8 0) 1 rfl Try.underlying29 info_i8 rfl (by omega) (.slice A1 k c1') (i8s o) (.int .i8 (-10)) rfl rfl rfl hO hb hb.size (by rw [i8s_length]; omega) ?_)
              intro v2 w2 hO2 hb2 _ _
              rw [i8s_snoc] at hO2
              go_wp2_with (fail)
              go_roundw
              case rel => exact ⟨k + 1, k + 1, o ++ [-10], by omega, by go_num, by go_num, ⟨by rw [hs'.out, hlen]⟩, ⟨by omega⟩, hO2, hb2⟩
              case measure => simp [intOf]; omega
        · have hx10' : (x == -10) = false := by rw [beq_eq_false_iff_ne]; exact hx10
          have n1 := hx.1
          have n2 := hx.2
          by_cases hk1 : 0 ≤ x ∧ x ≤ 39
          · have m1 := hk1.1
            have m2 := hk1.2
            have m3 : x < 40 := by omega
            have hs' := As.mk (hs.out.trans (hStep_kind (o := o) (g := g) m1 m2))
            clear hs hx hk1
            go_wp2_with (at_builtin; refine app1 (w0 := w) (w.heap.size) rfl (.tmp 53) (.tmp 55) 29 62 (.int .i8 0) 1 rfl Try.underlying29 info_i8 rfl (by omega) (.slice A1 k c1') (i8s o) (.int .i8 x) rfl rfl rfl hO hb hb.size (by rw [i8s_length]; omega) ?_)
            intro v2 w2 hO2 hb2 _ _
            rw [i8s_snoc] at hO2
            go_wp2_with (fail)
            go_roundw
            case rel => exact ⟨k + 1, g, o ++ [x], by omega, by go_num, rfl, hs', ⟨by omega⟩, hO2, hb2⟩
            case measure => simp [intOf]; omega
          · by_cases hk3 : -4 ≤ x ∧ x ≤ -1
            · have m1 := hk3.1
              have m2 := hk3.2
              have m0 : x < 0 := by omega
              have m6 : ¬ (0 ≤ x) := by omega
              by_cases hk2 : g + ((-x).toNat - 1) < k
              · have m3 : 0 ≤ (g : Int) + -x - 1 := by omega
                have m4 : (g : Int) + -x - 1 < k := by omega
                have m4' : ¬ ((k : Int) ≤ (g : Int) + -x - 1) := by omega
                have hs' := As.mk (hs.out.trans (hStep_sub (o := o) (g := g) m1 m2 (by rw [hlen]; exact hk2)))
                obtain ⟨g1, rfl⟩ := hO.addr (by rw [i8s_length]; omega)
                have c1 := hO.cellAt (g + ((-x).toNat - 1)) (by rw [i8s_length, hlen]; omega)
                rw [i8s_get o _ (by omega)] at c1
                have m5 : ((g : Int) + -x).toNat - 1 = g + ((-x).toNat - 1) := by omega
                rw [← m5] at hs' c1
                generalize nth o (((g : Int) + -x).toNat - 1) = y at *
                clear hs hx hk1 hk2 hk3 m5
                go_wp2_with (at_builtin; refine app1 (w0 := w) (w.heap.size) rfl (.tmp 74) (.tmp 79) 29 62 (.int .i8 0) 1 rfl Try.underlying29 info_i8 rfl (by omega) (.slice (some ⟨g1, 0, none⟩) k c1') (i8s o) (.int .i8 y) rfl rfl rfl hO hb hb.size (by rw [i8s_length]; omega) ?_)
                intro v2 w2 hO2 hb2 _ _
                rw [i8s_snoc] at hO2
                go_wp2_with (fail)
                go_roundw
                case rel => exact ⟨k + 1, g, o ++ [y], by omega, by go_num, rfl, hs', ⟨by omega⟩, hO2, hb2⟩
                case measure => simp [intOf]; omega
              · have hn' := hs.out.trans (hStep_none (o := o) (g := g) hx10 hk1 (by rw [hlen]; omega))
                have m4 : (k : Int) ≤ (g : Int) + -x - 1 := by omega
                clear hs hx hk1 hk2 hk3
                go_wp2_with (fail)
                go_ret2
                exact ⟨meant_bad rfl (hOk_none hn' (by rw [HM.out]; omega)), bl_new hb _⟩
            · have hn' := hs.out.trans (hStep_none (o := o) (g := g) hx10 hk1 (by omega))
              by_cases h0 : 0 ≤ x
              · have m3 : ¬ (x < 40) := by omega
                have m4 : ¬ (x < 0) := by omega
                clear hs hx hk1 hk3
                go_wp2_with (fail)
                go_ret2
                exact ⟨meant_bad rfl (hOk_none hn' (by rw [HM.out]; omega)), bl_new hb _⟩
              · have m4 : x < 0 := by omega
                have m3 : ¬ (-4 ≤ x) := by omega
                clear hs hx hk1 hk3
                go_wp2_with (fail)
                go_ret2
                exact ⟨meant_bad rfl (hOk_none hn' (by rw [HM.out]; omega)), bl_new hb _⟩
      · obtain rfl : k = n := by omega
        have hR := R.out
        rw [← HM.out] at hR
        have ho : hOk xs = true := by rw [hOk_some hR, HM.out, h18]; simp [G.out rfl]
        rw [hMean_some hR ho |>.symm] at hO
        go_wp2_with (fail)
        go_ret2
        exact ⟨⟨_, by rw [ho]; rfl, fun _ => hO⟩, hb⟩
end Go.Proofs.Ytllplgjlpndpfaa
