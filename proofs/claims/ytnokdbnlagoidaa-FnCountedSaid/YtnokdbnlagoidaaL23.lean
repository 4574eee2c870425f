/- Walk: the law FnCounted. -/
import Derived.Test.YtnokdbnlagoidaaCi
import Derived.Test.YtnokdbnlagoidaaCp
set_option linter.unusedVariables false
namespace Go.Proofs.Ytnokdbnlagoidaa
open Go.RowKit

/-- A number below n out of some bytes. -/
def a2 (xs : List Int) (k n : Nat) : Nat := if k < xs.length then (nth xs k).toNat % n else 0
theorem a2_lt (xs : List Int) (k n : Nat) (hn : 0 < n) : a2 xs k n < n := by
  unfold a2
  split
  · exact Nat.mod_lt _ hn
  · exact hn
set_option maxHeartbeats 1000000 in
theorem a2At_any (xs : List Int) (k n : Nat) (hk : k ≤ 1) (hn : 1 ≤ n ∧ n ≤ 5) (A : Option Addr) (c : Nat) (w : World) (hs : Sl .u8 w A xs) (rx : ∀ x ∈ xs, 0 ≤ x ∧ x ≤ 255) (hl : xs.length ≤ 3000) :
    Calls Try.prog 30 #[.slice A xs.length c, .int .i64 k, .int .i64 n] w fun e w' => e = .returned (.int .i64 (a2 xs k n)) ∧ w = w' := by
  have hk' : (k : Int) ≤ 1 := by omega
  have hl' : (xs.length : Int) ≤ 3000 := by omega
  have hA := As.mk (show a2 xs k n = if k < xs.length then (nth xs k).toNat % n else 0 from rfl)
  by_cases h : k < xs.length
  · obtain ⟨b, o, rfl, hr⟩ := hs.2 (by omega)
    have c0 : w.cell? ⟨b, o + k, none⟩ = some (.int .u8 (nth xs k)) := hr k _ (u8s_get xs k h)
    have hx := rx _ (nth_mem xs k h)
    have h' : ¬ ((xs.length : Int) ≤ (k : Int)) := by omega
    have h'' : (k : Int) < (xs.length : Int) := by omega
    have n1 : ¬ ((n : Int) < 1) := by omega
    obtain ⟨q, hq⟩ : ∃ q : Nat, nth xs k = (q : Int) := ⟨(nth xs k).toNat, by omega⟩
    rw [hq] at c0
    have hq255 : (q : Int) ≤ 255 := by omega
    have hres := As.mk (show a2 xs k n = q % n by rw [hA.out, if_pos h, hq]; simp)
    have wm : Int.tmod (q : Int) (n : Int) = ((q % n : Nat) : Int) := by rw [Int.tmod_eq_emod_of_nonneg (by omega)]; rfl
    have hqn : ((q % n : Nat) : Int) ≤ 255 := by have := Nat.mod_le q n; omega
    have hn0 : ((n : Int) == 0) = false := by rw [beq_eq_false_iff_ne]; omega
    generalize hg : q % n = z at *
    clear hx hq hr h hg hA
    go_enter Try.func30, Try.ntmps30
    go_wp2_with (fail)
    go_ret
    exact ⟨ret_n (by rw [hres.out]), rfl⟩
  · have h' : (xs.length : Int) ≤ (k : Int) := by omega
    have hres := As.mk (show a2 xs k n = 0 by rw [hA.out, if_neg h])
    clear h hA
    go_enter Try.func30, Try.ntmps30
    go_wp2_with (fail)
    go_ret
    exact ⟨ret_n (by rw [hres.out]; rfl), rfl⟩
set_option maxHeartbeats 1000000 in
theorem a2Long_any (a b n m : Nat) (A B : Option Addr) (hn : n ≤ 9223372036854775807) (hm : m ≤ 9223372036854775807) (w : World) :
    Calls Try.prog 29 #[.slice A n a, .slice B m b] w fun e w' => e = .returned (.bool (decide (3000 < n) || decide (3000 < m))) ∧ w = w' := by
  by_cases h1 : 3000 < n
  · have h1' : (3000 : Int) < (n : Int) := by omega
    rw [decide_eq_true h1]
    clear h1
    go_enter Try.func29, Try.ntmps29
    go_wp2_with (fail)
    go_ret
    exact ⟨rfl, rfl⟩
  · have h1' : ¬ ((3000 : Int) < (n : Int)) := by omega
    rw [decide_eq_false h1]
    by_cases h2 : 3000 < m
    · have h2' : (3000 : Int) < (m : Int) := by omega
      rw [decide_eq_true h2]
      clear h1 h2
      go_enter Try.func29, Try.ntmps29
      go_wp2_with (fail)
      go_ret
      exact ⟨rfl, rfl⟩
    · have h2' : ¬ ((3000 : Int) < (m : Int)) := by omega
      rw [decide_eq_false h2]
      clear h1 h2
      go_enter Try.func29, Try.ntmps29
      go_wp2_with (fail)
      go_ret
      exact ⟨rfl, rfl⟩
theorem can_ways {m : List Int} (hm : mOk m = true) {s0 sb : Nat} (h1 : s0 ≤ 7) (h2 : sb ≤ 4) : waysN m (1 + (s0 : Int)) (sb : Int) = ((found m (1 + s0) sb).length : Int) ∧ askC m (1 + (s0 : Int)) (sb : Int) = 0 := by
  have ha : askC m (1 + (s0 : Int)) (sb : Int) = 0 := by
    have e1 : inR (1 + (s0 : Int)) 1 8 = true := by rw [inR_iff]; omega
    have e2 : inR (sb : Int) 0 4 = true := by rw [inR_iff]; omega
    unfold askC; rw [hm, e1, e2]; rfl
  refine ⟨?_, ha⟩
  unfold waysN
  rw [if_pos ha, show (1 + (s0 : Int)).toNat = 1 + s0 by omega, Int.toNat_natCast]
theorem cnt_val {k l s sb : Nat} (h1 : k ≤ 39) (h2 : l ≤ 5) (h3 : s ≤ 7) (h4 : sb ≤ 4) : cntN (1 + (k : Int)) (1 + (l : Int)) (1 + (s : Int)) (sb : Int) = (pat (1 + k) (1 + s) sb (1 + l) [] 0 : Int) ∧ cntC (1 + (k : Int)) (1 + (l : Int)) (1 + (s : Int)) (sb : Int) = 0 := by
  have hc : cntC (1 + (k : Int)) (1 + (l : Int)) (1 + (s : Int)) (sb : Int) = 0 := by
    have e1 : inR (1 + (k : Int)) 1 40 = true := by rw [inR_iff]; omega
    have e2 : inR (1 + (l : Int)) 1 6 = true := by rw [inR_iff]; omega
    have e3 : inR (1 + (s : Int)) 1 8 = true := by rw [inR_iff]; omega
    have e4 : inR (sb : Int) 0 4 = true := by rw [inR_iff]; omega
    unfold cntC; rw [e1, e2, e3, e4]; rfl
  refine ⟨?_, hc⟩
  unfold cntN
  rw [if_pos hc, show (1 + (k : Int)).toNat = 1 + k by omega, show (1 + (l : Int)).toNat = 1 + l by omega, show (1 + (s : Int)).toNat = 1 + s by omega, Int.toNat_natCast]

theorem digs_take {K d r : Nat} {cur : List Int} {all : List Int} (h : cur ++ digs K (d + 1) r = all) : (cur ++ [((r % K : Nat) : Int)]) ++ digs K d (r / K) = all := by
  rw [← h, List.append_assoc]; rfl
set_option maxRecDepth 100000 in
set_option maxHeartbeats 8000000 in
theorem walk_FnCounted (w : World) (A0 : Option Addr) (x0 : List Int) (c0 : Nat) (s0 : Sl .u8 w A0 x0) (r0 : ∀ n ∈ x0, 0 ≤ n ∧ n ≤ 255) (A1 : Option Addr) (x1 : List Int) (c1 : Nat) (s1 : Sl .u8 w A1 x1) (r1 : ∀ n ∈ x1, 0 ≤ n ∧ n ≤ 255) :
    Calls Try.prog 7 #[.slice A0 x0.length c0, .slice A1 x1.length c1] w fun e w' => e = .returned (.bool true) ∧ Below w.heap.size w w' := by
  have kL := a2Long_any c0 c1 x0.length x1.length A0 A1 s0.1 s1.1 w
  cases hlong : (decide (3000 < x0.length) || decide (3000 < x1.length))
  · rw [hlong] at kL
    rw [Bool.or_eq_false_iff, decide_eq_false_iff_not, decide_eq_false_iff_not] at hlong
    have a1 := a2At_any x0 0 3 (by omega) (by omega) A0 c0 w s0 r0 (by omega)
    have a3 := a2At_any x0 1 4 (by omega) (by omega) A0 c0 w s0 r0 (by omega)
    have a4 := a2At_any x1 0 2 (by omega) (by omega) A1 c1 w s1 r1 (by omega)
    have a5 := a2At_any x1 1 5 (by omega) (by omega) A1 c1 w s1 r1 (by omega)
    have b1 := a2_lt x0 0 3 (by omega)
    have b3 := a2_lt x0 1 4 (by omega)
    have b4 := a2_lt x1 0 2 (by omega)
    have b5 := a2_lt x1 1 5 (by omega)
    generalize a2 x0 0 3 = k at *
    generalize a2 x0 1 4 = l at *
    generalize a2 x1 0 2 = s at *
    generalize a2 x1 1 5 = sb at *
    have hk' : (k : Int) ≤ 2 := by omega
    have hl' : (l : Int) ≤ 3 := by omega
    have hs' : (s : Int) ≤ 1 := by omega
    have hsb' : (sb : Int) ≤ 4 := by omega
    have v1 := cnt_val (k := k) (l := l) (s := s) (sb := sb) (by omega) (by omega) (by omega) (by omega)
    have v2 := cnt_val (k := 1 + k) (l := l) (s := s) (sb := sb) (by omega) (by omega) (by omega) (by omega)
    rw [show (1 + ((1 + k : Nat) : Int)) = 1 + (k : Int) + 1 by omega, show 1 + (1 + k) = 1 + k + 1 by omega] at v2
    have i1 := fun W => CountMeanings_any (1 + (k : Int)) (1 + (l : Int)) (1 + (s : Int)) (sb : Int) W
    have i2 := fun W => sCountMeanings_any (1 + (k : Int)) (1 + (l : Int)) (1 + (s : Int)) (sb : Int) W
    have i3 := fun W => CountMeanings_any (1 + (k : Int) + 1) (1 + (l : Int)) (1 + (s : Int)) (sb : Int) W
    rw [v1.1, v1.2] at i1 i2
    rw [v2.1, v2.2] at i3
    have hcd := counted (K := 1 + k) (sets := 1 + s) (subs := sb) (len := 1 + l) (by omega)
    have hb1 : (1 + k) ^ (1 + l) ≤ 81 := Nat.le_trans (Nat.pow_le_pow_left (show 1 + k ≤ 3 by omega) _) (Nat.le_trans (Nat.pow_le_pow_right (by omega) (show 1 + l ≤ 4 by omega)) (by decide))
    have hpw : ∀ i, i ≤ 1 + l → (1 + k) ^ i ≤ 81 := fun i hi => Nat.le_trans (Nat.pow_le_pow_right (by omega) hi) hb1
    have hpb := pat_bound (K := 1 + k + 1) (sets := 1 + s) (subs := sb) (d := 1 + l) (m := []) (nx := 0) (by omega) (by omega) (by omega)
    have HC := As.mk hcd
    have HP := As.mk hpw
    have hd1 := As.mk (show ∀ x, (digs (1 + k) (1 + l) x).length = 1 + l from fun x => digs_length _ _ x)
    have hd2 := As.mk (show ∀ x, mOk (digs (1 + k) (1 + l) x) = true from fun x => kinds_mOk (digs_kinds (by omega) (by omega) _ x) (by rw [digs_length]; omega) (by rw [digs_length]; omega))
    have hd3 := As.mk (show ∀ x, ∀ y ∈ digs (1 + k) (1 + l) x, -128 ≤ y ∧ y ≤ 127 from fun x y hy => by have := digs_kinds (K := 1 + k) (by omega) (by omega) (1 + l) x y hy; omega)
    generalize hdue : pat (1 + k) (1 + s) sb (1 + l) [] 0 = due at *
    generalize pat (1 + k + 1) (1 + s) sb (1 + l) [] 0 = due2 at *
    generalize hall : (1 + k) ^ (1 + l) = all at *
    have hA := As.mk hall
    clear hdue hall v1 v2 hcd hpw s0 s1 r0 r1 hlong
    generalize x0.length = n0 at *
    generalize x1.length = n1 at *
    rw [show ((0 : Nat) : Int) = 0 from rfl, show ((3 : Nat) : Int) = 3 from rfl] at a1
    rw [show ((1 : Nat) : Int) = 1 from rfl, show ((4 : Nat) : Int) = 4 from rfl] at a3
    rw [show ((0 : Nat) : Int) = 0 from rfl, show ((2 : Nat) : Int) = 2 from rfl] at a4
    rw [show ((1 : Nat) : Int) = 1 from rfl, show ((5 : Nat) : Int) = 5 from rfl] at a5
    go_enter Try.func7, Try.ntmps7
    go_wp2_with (fail)
    refine kL.mono ?_; rintro e w' ⟨rfl, rfl⟩
    go_wp2_with (fail)
    refine a1.mono ?_; rintro e w' ⟨rfl, rfl⟩
    go_wp2_with (fail)
    refine a3.mono ?_; rintro e w' ⟨rfl, rfl⟩
    go_wp2_with (fail)
    refine a4.mono ?_; rintro e w' ⟨rfl, rfl⟩
    go_wp2_with (fail)
    refine a5.mono ?_; rintro e w' ⟨rfl, rfl⟩
    go_wp2_with (fail)
    refine (i1 _).mono ?_; rintro e w1 ⟨rfl, hw1⟩
    go_wp2_with (fail)
    refine (i2 _).mono ?_; rintro e w2 ⟨rfl, hw2⟩
    have hw := bl_call hw1 hw2
    clear kL a1 a3 a4 a5 i1 i2 hw1 hw2
    go_wp2_with (fail)
    go_loopw [13, 14] (fun p i wr => ∃ j : Nat, j ≤ 1 + l ∧ i = .int .i64 j ∧ p = .int .i64 (((1 + k) ^ j : Nat) : Int) ∧ wr = w2) (fun _ i _ => 1 + l - (intOf i).toNat)
    case atStart => exact ⟨0, by omega, rfl, rfl, rfl⟩
    case round =>
      obtain ⟨j, hj, rfl, rfl, rfl⟩ := hrel
      by_cases hlt : j < 1 + l
      · have hlt' : (j : Int) < 1 + (l : Int) := by omega
        have hp2 := HP.out (j + 1) hlt
        have hj4 : (j : Int) ≤ 3 := by omega
        have hmul : (((1 + k) ^ j : Nat) : Int) * (1 + (k : Int)) = (((1 + k) ^ (j + 1) : Nat) : Int) := by rw [Nat.pow_succ, Int.natCast_mul]; rfl
        have hww : IntKind.i64.wrap ((((1 + k) ^ j : Nat) : Int) * (1 + (k : Int))) = (((1 + k) ^ (j + 1) : Nat) : Int) := by
          rw [hmul]; clear hmul; generalize (1 + k) ^ (j + 1) = q at *; simp [IntKind.wrap, IntKind.bits, IntKind.signed]; omega
        generalize hq1 : (1 + k) ^ (j + 1) = q1 at *
        generalize (1 + k) ^ j = q0 at *
        have hq1 := As.mk hq1
        clear hmul hlt
        go_wp2_with (fail)
        go_roundw
        case rel => exact ⟨j + 1, by omega, by go_num, by rw [hq1.out], by trivial⟩
        case measure => simp [intOf]; omega
      · obtain rfl : j = 1 + l := by omega
        rw [hA.out, show ((1 + l : Nat) : Int) = 1 + (l : Int) by omega]
        clear hlt hj
        have hK0 : 0 < 1 + k := by omega
        go_wp2_with (fail)
        go_loopw [15, 16] (fun own x wr' => ∃ y : Nat, y ≤ all ∧ x = .int .i64 y ∧ own = .int .i64 (sumTo (fun z => can (1 + s) sb (digs (1 + k) (1 + l) z)) y) ∧ Below w.heap.size w wr') (fun _ x _ => all - (intOf x).toNat)
        case atStart => exact ⟨0, by omega, rfl, rfl, hw⟩
        case round =>
          obtain ⟨y, hy, rfl, rfl, hb⟩ := hrel
          by_cases hlt : y < all
          · have hlt' : (y : Int) < (all : Int) := by omega
            have hy81 : (y : Int) ≤ 80 := by omega
            have hlt := As.mk hlt
            go_wp2_with (fail)
            go_loopw [17, 18, 19] (fun v rest i wq => ∃ (j r : Nat) (cur : List Int), j ≤ 1 + l ∧ r ≤ 80 ∧ i = .int .i64 j ∧ rest = .int .i64 r ∧ Own wq w.heap.size 42 v (i8s cur) ∧ Below w.heap.size w wq ∧ As (cur.length = j ∧ cur ++ digs (1 + k) (1 + l - j) r = digs (1 + k) (1 + l) y)) (fun _ _ i _ => 1 + l - (intOf i).toNat)
            case atStart => exact ⟨0, y, [], by omega, by omega, rfl, rfl, Own.lit _ w.heap.size 42 [] hb.size (by simp), bl_new hb _, ⟨rfl, rfl⟩⟩
            case round =>
              obtain ⟨j, r, cur, hj, hr, rfl, rfl, hO, hbq, hcur⟩ := hrel
              by_cases hlj : j < 1 + l
              · have hlj' : (j : Int) < 1 + (l : Int) := by omega
                have hj4 : (j : Int) ≤ 3 := by omega
                have hr80 : (r : Int) ≤ 80 := by omega
                have wm : Int.tmod (r : Int) (1 + (k : Int)) = ((r % (1 + k) : Nat) : Int) := by rw [Int.tmod_eq_emod_of_nonneg (by omega)]; rfl
                have wd : Int.tdiv (r : Int) (1 + (k : Int)) = ((r / (1 + k) : Nat) : Int) := by rw [Int.tdiv_eq_ediv_of_nonneg (by omega)]; rfl
                have hm3 : r % (1 + k) < 3 := Nat.lt_of_lt_of_le (Nat.mod_lt r hK0) (by omega)
                have hd80 : r / (1 + k) ≤ 80 := Nat.le_trans (Nat.div_le_self _ _) hr
                have hst := As.mk (digs_take (K := 1 + k) (d := 1 + l - (j + 1)) (r := r) (cur := cur) (all := digs (1 + k) (1 + l) y) (by rw [show 1 + l - (j + 1) + 1 = 1 + l - j by omega]; exact hcur.out.2))
                have hk0 : (1 + (k : Int) == 0) = false := by rw [beq_eq_false_iff_ne]; omega
                generalize hdig : r % (1 + k) = dig at *
                generalize hquo : r / (1 + k) = quo at *
                have hm3' : (dig : Int) < 3 := by omega
                have hd80' : (quo : Int) ≤ 80 := by omega
                have hcl := hcur.out.1
                have hd80 := As.mk hd80
                clear hdig hquo hm3
                go_wp2_with (at_builtin; refine app1 (w0 := w) (w.heap.size) rfl (.tmp 86) (.tmp 91) 26 42 (.int .i8 0) 1 rfl Try.underlying26 info_i8 rfl (by omega) (u17) (i8s cur) (.int .i8 (dig : Int)) rfl rfl rfl hO hbq hbq.size (by rw [i8s_length]; omega) ?_)
                intro v2 w4 hO2 hb4 _ _
                rw [i8s_snoc] at hO2
                go_wp2_with (fail)
                go_roundw
                case rel => exact ⟨j + 1, quo, cur ++ [(dig : Int)], by omega, hd80.out, by go_num, rfl, hO2, hb4, ⟨by simp [hcur.out.1], hst.out⟩⟩
                case measure => simp [intOf]; omega
              · obtain rfl : j = 1 + l := by omega
                rw [show ((1 + l : Nat) : Int) = 1 + (l : Int) by omega]
                have hcu : cur = digs (1 + k) (1 + l) y := by have := hcur.out.2; rwa [Nat.sub_self, show digs (1 + k) 0 r = [] from rfl, List.append_nil] at this
                rw [hcu] at hO
                have hwy := can_ways (hd2.out y) (s0 := s) (sb := sb) (by omega) (by omega)
                have hcn := As.mk (show can (1 + s) sb (digs (1 + k) (1 + l) y) = if (found (digs (1 + k) (1 + l) y) (1 + s) sb).isEmpty then 0 else 1 from rfl)
                have hsum := As.mk (show sumTo (fun z => can (1 + s) sb (digs (1 + k) (1 + l) z)) (y + 1) = sumTo (fun z => can (1 + s) sb (digs (1 + k) (1 + l) z)) y + can (1 + s) sb (digs (1 + k) (1 + l) y) from rfl)
                have hsb2 : sumTo (fun z => can (1 + s) sb (digs (1 + k) (1 + l) z)) y ≤ y := by
                  refine Nat.le_trans (sumTo_le (g := fun _ => 1) (fun z _ => ?_)) (by rw [sumTo_const]; omega)
                  unfold can; split <;> omega
                have hfc := found_count (digs (1 + k) (1 + l) y) (1 + s) sb (by omega) (by rw [hd1.out]; omega)
                obtain ⟨A2, c2, rfl, Sl2⟩ := hO.sl
                have key := WaysToHoist_any (digs (1 + k) (1 + l) y) (hd3.out y) (by rw [hd1.out]; omega) A2 c2 (1 + (s : Int)) (sb : Int) wr Sl2
                rw [hwy.1, hwy.2] at key
                generalize found (digs (1 + k) (1 + l) y) (1 + s) sb = T at *
                generalize (digs (1 + k) (1 + l) y).length = dl at *
                generalize hso : sumTo (fun z => can (1 + s) sb (digs (1 + k) (1 + l) z)) y = so at *
                have hso80 : (so : Int) ≤ 80 := by omega
                clear hwy hsb2 hO Sl2 hcur hcu hso
                cases T with
                | nil =>
                  rw [show (([] : List (List Int)).length : Int) = 0 from rfl] at key
                  go_wp2_with (fail)
                  refine key.mono ?_; rintro e w5 ⟨rfl, hb5⟩
                  have hb6 := bl_call hbq hb5
                  go_wp2_with (fail)
                  go_roundw
                  case rel => exact ⟨y + 1, by have := hlt.out; omega, by go_num, by rw [hsum.out, hcn.out]; rfl, hb6⟩
                  case measure => have := hlt.out; simp [intOf]; omega
                | cons t ts =>
                  have hp : (0 : Int) < ((t :: ts).length : Int) := by rw [List.length_cons]; omega
                  have hcn' := As.mk (show can (1 + s) sb (digs (1 + k) (1 + l) y) = 1 from hcn.out)
                  generalize ((t :: ts).length : Int) = tl at *
                  clear hfc hcn
                  go_wp2_with (fail)
                  refine key.mono ?_; rintro e w5 ⟨rfl, hb5⟩
                  have hb6 := bl_call hbq hb5
                  go_wp2_with (fail)
                  go_roundw
                  case rel => exact ⟨y + 1, by have := hlt.out; omega, by go_num, by rw [hsum.out, hcn'.out]; rfl, hb6⟩
                  case measure => have := hlt.out; simp [intOf]; omega
          · obtain rfl : y = all := by omega
            have h1 := As.mk HC.out.1
            have h2 := HC.out.2.1
            have h3 := HC.out.2.2
            have h2' : (due : Int) ≤ (due2 : Int) := by omega
            have h3' : (due : Int) ≤ (y : Int) := by omega
            rw [← h1.out]
            have hd2' : (due2 : Int) ≤ 4096000000 := by omega
            clear hlt hy
            go_wp2_with (fail)
            refine (i3 _).mono ?_; rintro e w5 ⟨rfl, hb5⟩
            go_wp2_with (fail)
            go_ret
            exact ⟨rfl, bl_call hb hb5⟩
  · rw [hlong] at kL
    clear hlong
    generalize x0.length = n0 at *
    generalize x1.length = n1 at *
    go_enter Try.func7, Try.ntmps7
    go_wp2_with (fail)
    refine kL.mono ?_; rintro e w' ⟨rfl, rfl⟩
    go_wp2_with (fail)
    go_ret
    exact ⟨rfl, Below.refl _ _⟩
end Go.Proofs.Ytnokdbnlagoidaa
