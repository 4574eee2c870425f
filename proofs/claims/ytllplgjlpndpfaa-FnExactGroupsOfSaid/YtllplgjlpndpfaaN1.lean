/- Slices of hoists: what they hold; copied, compared, measured. (The contracts of 'eqHoist', 'eqMeaning' are printed by genh.py.) -/
import Derived.Test.YtllplgjlpndpfaaH5
import Derived.Test.YtllplgjlpndpfaaLs
set_option linter.unusedVariables false
namespace Go.Proofs.Ytllplgjlpndpfaa
open Go.RowKit

def nthH (hs : List (List Int)) (i : Nat) : List Int := hs.getD i []
theorem nthH_get (hs : List (List Int)) (i : Nat) (h : i < hs.length) : hs[i] = nthH hs i := by simp [nthH, List.getElem?_eq_getElem h]
theorem nthH_mem (hs : List (List Int)) (i : Nat) (h : i < hs.length) : nthH hs i ∈ hs := by rw [← nthH_get hs i h]; exact List.getElem_mem h
/-- v is a slice that holds the numbers xs. -/
def SlV (w : World) (v : Value) (xs : List Int) : Prop := ∃ A c, v = .slice A xs.length c ∧ Sl .i8 w A xs
theorem SlV.kept {w w' : World} {v : Value} {xs : List Int} (h : SlV w v xs) (hb : Below w.heap.size w w') : SlV w' v xs := by
  obtain ⟨A, c, rfl, S⟩ := h; exact ⟨A, c, rfl, S.kept hb⟩
/-- '.slice A hs.length c' is a slice that holds the hoists hs. -/
def SlH (w : World) (A : Option Addr) (hs : List (List Int)) : Prop :=
  hs.length ≤ 9223372036854775807 ∧ (0 < hs.length → ∃ b o, A = some ⟨b, o, none⟩ ∧ ∀ j, j < hs.length → ∃ v, w.cell? ⟨b, o + j, none⟩ = some v ∧ SlV w v (nthH hs j))
theorem SlH.kept {w w' : World} {A : Option Addr} {hs : List (List Int)} (h : SlH w A hs) (hb : Below w.heap.size w w') : SlH w' A hs :=
  And.intro h.1 fun hp => by
    obtain ⟨b, o, e, hr⟩ := h.2 hp
    refine ⟨b, o, e, fun j hj => ?_⟩
    obtain ⟨v, hc, hv⟩ := hr j hj
    exact ⟨v, by rw [hb.cell (World.block_lt_of_cell? w _ hc)]; exact hc, hv.kept hb⟩
theorem info_h : (Try.prog.info? 24).map (fun i => (i.zero, i.size, i.bytes)) = some (some (.slice none 0 0), 1, 24) := by kernel_rfl

set_option maxHeartbeats 400000 in
theorem eqHoist_drew (xs ys : List Int) (A A' : Option Addr) (c c' : Nat) (w : World) (h1 : Sl .i8 w A xs) (h2 : Sl .i8 w A' ys) :
    Calls Try.prog 16 #[.slice A xs.length c, .slice A' ys.length c'] w fun e w' => e = .returned (.bool (decide (xs = ys))) ∧ ∃ q, w' = w.drewN q := by
  have hbig := h1.1
  have hbig2 := h2.1
  by_cases hl : xs.length = ys.length
  · have HL := As.mk hl
    generalize hn : ys.length = n at *
    have hne : ((n : Int) != (n : Int)) = false := by simp
    rw [hl] at hbig ⊢
    have HN := As.mk hn
    clear hl hn
    go_enter Try.func16, Try.ntmps16
    go_wp2
    go_loopw [5] (fun i wr => ∃ k q : Nat, k ≤ n ∧ i = .int .i64 k ∧ wr = w.drewN q ∧ As (∀ j, j < k → nth xs j = nth ys j)) (fun i _ => n - (intOf i).toNat)
    case atStart => exact ⟨0, 0, by omega, rfl, rfl, ⟨fun j hj => by omega⟩⟩
    case round =>
      obtain ⟨k, q, hk, rfl, rfl, H⟩ := hrel
      by_cases hlt : k < n
      · have hlt' : (k : Int) < (n : Int) := by omega
        obtain ⟨b, o, rfl, hr⟩ := h1.2 (by rw [HL.out]; omega)
        obtain ⟨b', o', rfl, hr'⟩ := h2.2 (by rw [HN.out]; omega)
        have c0 : w.cell? ⟨b, o + k, none⟩ = some (.int .i8 (nth xs k)) := hr k _ (i8s_get xs k (by rw [HL.out]; omega))
        have c1 : w.cell? ⟨b', o' + k, none⟩ = some (.int .i8 (nth ys k)) := hr' k _ (i8s_get ys k (by rw [HN.out]; omega))
        go_wp2
        go_quiet (fail)
        go_wp2
        · have ht : (nth xs k != nth ys k) = true := by assumption
          go_ret
          exact ⟨ret_b (nth_ne ht).symm, _, World.drewN_drewN _ _ _⟩
        · have ht : (nth xs k != nth ys k) = false := by assumption
          go_roundw
          case rel => exact ⟨k + 1, _, by omega, by go_num, rfl, ⟨all_succ H.out (by simpa using ht)⟩⟩
          case measure => simp [intOf]; omega
      · obtain rfl : k = n := by omega
        go_wp2
        go_ret
        exact ⟨ret_b (by symm; rw [decide_eq_true_eq]; exact nth_ext xs ys (by rw [HL.out, HN.out]) (by rw [HL.out]; exact H.out)), _, rfl⟩
  · have hne : (((xs.length : Nat) : Int) != ((ys.length : Nat) : Int)) = true := by rw [bne_iff_ne]; omega
    have hd : decide (xs = ys) = false := by rw [decide_eq_false_iff_not]; rintro rfl; exact hl rfl
    rw [hd]
    clear hl hd
    go_enter Try.func16, Try.ntmps16
    go_wp2
    go_ret
    exact ⟨rfl, 0, rfl⟩
set_option maxHeartbeats 400000 in
theorem eqMeaning_drew (xs ys : List Int) (A A' : Option Addr) (c c' : Nat) (w : World) (h1 : Sl .i8 w A xs) (h2 : Sl .i8 w A' ys) :
    Calls Try.prog 20 #[.slice A xs.length c, .slice A' ys.length c'] w fun e w' => e = .returned (.bool (decide (xs = ys))) ∧ ∃ q, w' = w.drewN q := by
  have hbig := h1.1
  have hbig2 := h2.1
  by_cases hl : xs.length = ys.length
  · have HL := As.mk hl
    generalize hn : ys.length = n at *
    have hne : ((n : Int) != (n : Int)) = false := by simp
    rw [hl] at hbig ⊢
    have HN := As.mk hn
    clear hl hn
    go_enter Try.func20, Try.ntmps20
    go_wp2
    go_loopw [5] (fun i wr => ∃ k q : Nat, k ≤ n ∧ i = .int .i64 k ∧ wr = w.drewN q ∧ As (∀ j, j < k → nth xs j = nth ys j)) (fun i _ => n - (intOf i).toNat)
    case atStart => exact ⟨0, 0, by omega, rfl, rfl, ⟨fun j hj => by omega⟩⟩
    case round =>
      obtain ⟨k, q, hk, rfl, rfl, H⟩ := hrel
      by_cases hlt : k < n
      · have hlt' : (k : Int) < (n : Int) := by omega
        obtain ⟨b, o, rfl, hr⟩ := h1.2 (by rw [HL.out]; omega)
        obtain ⟨b', o', rfl, hr'⟩ := h2.2 (by rw [HN.out]; omega)
        have c0 : w.cell? ⟨b, o + k, none⟩ = some (.int .i8 (nth xs k)) := hr k _ (i8s_get xs k (by rw [HL.out]; omega))
        have c1 : w.cell? ⟨b', o' + k, none⟩ = some (.int .i8 (nth ys k)) := hr' k _ (i8s_get ys k (by rw [HN.out]; omega))
        go_wp2
        go_quiet (fail)
        go_wp2
        · have ht : (nth xs k != nth ys k) = true := by assumption
          go_ret
          exact ⟨ret_b (nth_ne ht).symm, _, World.drewN_drewN _ _ _⟩
        · have ht : (nth xs k != nth ys k) = false := by assumption
          go_roundw
          case rel => exact ⟨k + 1, _, by omega, by go_num, rfl, ⟨all_succ H.out (by simpa using ht)⟩⟩
          case measure => simp [intOf]; omega
      · obtain rfl : k = n := by omega
        go_wp2
        go_ret
        exact ⟨ret_b (by symm; rw [decide_eq_true_eq]; exact nth_ext xs ys (by rw [HL.out, HN.out]) (by rw [HL.out]; exact H.out)), _, rfl⟩
  · have hne : (((xs.length : Nat) : Int) != ((ys.length : Nat) : Int)) = true := by rw [bne_iff_ne]; omega
    have hd : decide (xs = ys) = false := by rw [decide_eq_false_iff_not]; rintro rfl; exact hl rfl
    rw [hd]
    clear hl hd
    go_enter Try.func20, Try.ntmps20
    go_wp2
    go_ret
    exact ⟨rfl, 0, rfl⟩
set_option maxHeartbeats 1000000 in
theorem toHoistS_any (hs : List (List Int)) (A : Option Addr) (c : Nat) (w : World) (h : SlH w A hs) (hn : hs.length ≤ 1048576) (hi : ∀ xs ∈ hs, xs.length ≤ 1048576) :
    Calls Try.prog 47 #[.slice A hs.length c] w fun e w' => e = .returned (.slice (some ⟨w.heap.size, 0, none⟩) hs.length hs.length) ∧ SlH w' (some ⟨w.heap.size, 0, none⟩) hs ∧ Below w.heap.size w w' := by
  obtain ⟨zs, hzs⟩ : ∃ zs : List Value, List.replicate hs.length (Value.slice none 0 0) = zs := ⟨_, rfl⟩
  have hzl : zs.length = hs.length := by rw [← hzs]; simp
  have hmk := make_of (P := Try.prog) 58 24 (.slice none 0 0) 24 Try.underlying58 info_h rfl (by omega) hs.length (by omega)
  rw [hzs] at hmk
  have h0 : Blk (w.alloc (.cells zs.toArray 24)) w.heap.size zs 24 := Blk.new _ _ _
  have b0 := bl_new (Below.refl _ w) (.cells zs.toArray 24)
  clear hzs
  generalize hm : hs.length = n at *
  have HM := As.mk hm
  clear hm
  go_enter Try.func47, Try.ntmps47
  go_wp2
  generalize w.alloc (.cells zs.toArray 24) = W at *
  clear hmk
  go_loopw [4] (fun i wr => ∃ (k : Nat) (vs : List Value), k ≤ n ∧ i = .int .i64 k ∧ vs.length = n ∧ Blk wr w.heap.size vs 24 ∧ As (∀ j, j < k → ∃ b, vs[j]? = some (.slice (some ⟨b, 0, none⟩) (nthH hs j).length (nthH hs j).length) ∧ w.heap.size < b ∧ Blk wr b (i8s (nthH hs j)) 62) ∧ Below w.heap.size w wr) (fun i _ => n - (intOf i).toNat)
  case atStart => exact ⟨0, zs, by omega, rfl, hzl, h0, ⟨fun j hj => by omega⟩, b0⟩
  case round =>
    obtain ⟨k, vs, hk, rfl, hvl, h1, H, hb⟩ := hrel
    by_cases hlt : k < n
    · have hlt' : (k : Int) < (n : Int) := by omega
      obtain ⟨b, o, rfl, hr⟩ := h.2 (by rw [HM.out]; omega)
      obtain ⟨v, hc, hv⟩ := hr k (by rw [HM.out]; exact hlt)
      have c0 : wr.cell? ⟨b, o + k, none⟩ = some v := by rw [hb.cell (World.block_lt_of_cell? w _ hc)]; exact hc
      have hv' : SlV wr v (nthH hs k) := by
        obtain ⟨A1, c1, e1, S1⟩ := hv
        refine ⟨A1, c1, e1, S1.1, fun hp => ?_⟩
        obtain ⟨b1, o1, e2, hr1⟩ := S1.2 hp
        exact ⟨b1, o1, e2, fun j u hu => by have h9 := hr1 j u hu; rw [hb.cell (World.block_lt_of_cell? w _ h9)]; exact h9⟩
      obtain ⟨A1, c1, rfl, S1⟩ := hv'
      have hik := hi _ (nthH_mem hs k (by rw [HM.out]; exact hlt))
      have key := toHoist_any (nthH hs k) A1 c1 wr S1 hik
      have hlw := h1.lt
      have HK := As.mk (show nthH hs k = nthH hs k from rfl)
      obtain ⟨x, hx⟩ : ∃ x, nthH hs k = x := ⟨_, rfl⟩
      have HX := As.mk hx
      rw [hx] at key c0
      clear hr hc hv hik hx HK S1
      go_wp2_with (fail)
      refine key.mono ?_; rintro e w2 ⟨rfl, X2, hb2⟩
      have h2 := h1.kept hb2
      obtain ⟨u0, cu⟩ := h2.some k (by rw [hvl]; exact hlt)
      have fu := h2.frozen k
      go_wp2_with (fail)
      go_roundw
      case rel =>
        refine ⟨k + 1, vs.set k (.slice (some ⟨wr.heap.size, 0, none⟩) x.length x.length), by omega, by go_num, by simp [hvl], h2.set k _, ⟨fun j hj => ?_⟩, (bl_call hb hb2).setCell (by simp) _⟩
        rcases Nat.lt_or_eq_of_le (Nat.le_of_lt_succ hj) with hj' | rfl
        · obtain ⟨bj, e1, e2, e3⟩ := H.out j hj'
          exact ⟨bj, by rw [List.getElem?_set_ne (by omega)]; exact e1, e2, (e3.kept hb2).far (by simp; omega) _⟩
        · exact ⟨wr.heap.size, by rw [List.getElem?_set_self (by omega), HX.out], hlw, by rw [HX.out]; exact X2.far (by simp; omega) _⟩
      case measure => simp [intOf]; omega
    · obtain rfl : k = n := by omega
      go_wp2_with (fail)
      go_ret
      refine ⟨rfl, And.intro (by rw [HM.out]; omega) fun hp => ⟨w.heap.size, 0, rfl, fun j hj => ?_⟩, hb⟩
      obtain ⟨bj, e1, e2, e3⟩ := H.out j (by rw [← HM.out]; exact hj)
      have hlj : (nthH hs j).length ≤ 9223372036854775807 := by have := hi _ (nthH_mem hs j hj); omega
      exact ⟨_, by rw [Nat.zero_add, h1.at]; exact e1, _, _, rfl, e3.sl hlj⟩

theorem eqHoistS_same (hs : List (List Int)) (A A' : Option Addr) (c c' : Nat) (w : World) (h1 : SlH w A hs) (h2 : SlH w A' hs) :
    Calls Try.prog 49 #[.slice A hs.length c, .slice A' hs.length c'] w fun e w' => e = .returned (.bool true) ∧ Below w.heap.size w w' := by
  have hbig := h1.1
  generalize hm : hs.length = n at *
  have HM := As.mk hm
  have hne : ((n : Int) != (n : Int)) = false := by simp
  clear hm
  go_enter Try.func49, Try.ntmps49
  go_wp2
  go_loopw [5] (fun i wr => ∃ k q : Nat, k ≤ n ∧ i = .int .i64 k ∧ wr = w.drewN q) (fun i _ => n - (intOf i).toNat)
  case atStart => exact ⟨0, 0, by omega, rfl, rfl⟩
  case round =>
    obtain ⟨k, q, hk, rfl, hwr⟩ := hrel
    have h1' : SlH wr A hs := by rw [hwr]; exact h1
    have h2' : SlH wr A' hs := by rw [hwr]; exact h2
    have HW := As.mk hwr
    clear hwr
    by_cases hlt : k < n
    · have hlt' : (k : Int) < (n : Int) := by omega
      obtain ⟨b, o, rfl, hr⟩ := h1'.2 (by rw [HM.out]; omega)
      obtain ⟨b', o', rfl, hr'⟩ := h2'.2 (by rw [HM.out]; omega)
      obtain ⟨v, c0, A1, c1, rfl, S1⟩ := hr k (by rw [HM.out]; exact hlt)
      obtain ⟨v', c0', A2, c2, rfl, S2⟩ := hr' k (by rw [HM.out]; exact hlt)
      have key := fun m => eqHoist_drew (nthH hs k) (nthH hs k) A1 A2 c1 c2 (wr.drewN m) S1 S2
      clear hr hr'
      generalize nthH hs k = x at *
      rw [show decide (x = x) = true by simp] at key
      go_wp2_with (fail)
      go_quiet ((go_at_call 16; exact Calls.quiet_of (key _)))
      go_wp2_with (fail)
      go_roundw
      case rel => exact ⟨k + 1, _, by omega, by go_num, by rw [HW.out]; exact World.drewN_drewN _ _ _⟩
      case measure => simp [intOf]; omega
    · obtain rfl : k = n := by omega
      go_wp2_with (fail)
      go_ret
      exact ⟨rfl, by rw [HW.out]; exact bl_drewN (Below.refl _ _) _⟩

/-- How much is left of a measure. -/
theorem szHoist_any (A : Option Addr) (n c : Nat) (left : Int) (hl : 0 ≤ left ∧ left ≤ 1048576) (w : World) (hn : n ≤ 9223372036854775807) :
    Calls Try.prog 62 #[.slice A n c, .int .i64 left] w fun e w' => e = .returned (.int .i64 (if (n : Int) ≤ left then left - n else -1)) ∧ w = w' := by
  have h1 := hl.1
  have h2 := hl.2
  by_cases h : (n : Int) ≤ left
  · have h' : ¬ (left - (n : Int) < 0) := by omega
    rw [if_pos h]
    go_enter Try.func62, Try.ntmps62
    go_wp2
    go_ret
    exact ⟨rfl, rfl⟩
  · have h' : (left - (n : Int) < 0) := by omega
    rw [if_neg h]
    go_enter Try.func62, Try.ntmps62
    go_wp2
    go_ret
    exact ⟨rfl, rfl⟩
set_option maxHeartbeats 1000000 in
/-- A list of hoists is measured: where something is left, no length is beyond the bound. -/
theorem szHoistS_any (hs : List (List Int)) (A : Option Addr) (c : Nat) (w : World) (h : SlH w A hs) :
    Calls Try.prog 45 #[.slice A hs.length c, .int .i64 1048576] w fun e w' => (∃ r : Int, e = .returned (.int .i64 r) ∧ ((r = -1) ∨ (0 ≤ r ∧ hs.length ≤ 1048576 ∧ ∀ xs ∈ hs, xs.length ≤ 1048576))) ∧ w = w' := by
  have hbig := h.1
  generalize hm : hs.length = n at *
  have HM := As.mk hm
  clear hm
  by_cases h1 : n ≤ 1048576
  · have h1' : ¬ (1048576 - (n : Int) < 0) := by omega
    go_enter Try.func45, Try.ntmps45
    go_wp2
    go_loopw [5, 1] (fun i l wr => ∃ (k : Nat) (left : Int), k ≤ n ∧ i = .int .i64 k ∧ l = .int .i64 left ∧ 0 ≤ left ∧ left ≤ 1048576 ∧ As (∀ j, j < k → (nthH hs j).length ≤ 1048576) ∧ w = wr) (fun i _ _ => n - (intOf i).toNat)
    case atStart => exact ⟨0, _, by omega, rfl, rfl, by omega, by omega, ⟨fun j hj => by omega⟩, rfl⟩
    case round =>
      obtain ⟨k, left, hk, rfl, rfl, l1, l2, H, rfl⟩ := hrel
      by_cases hlt : k < n
      · have hlt' : (k : Int) < (n : Int) := by omega
        obtain ⟨b, o, rfl, hr⟩ := h.2 (by rw [HM.out]; omega)
        obtain ⟨v, c0, A1, c1, rfl, S1⟩ := hr k (by rw [HM.out]; exact hlt)
        have key := szHoist_any A1 (nthH hs k).length c1 left ⟨l1, l2⟩ w S1.1
        by_cases hle : ((nthH hs k).length : Int) ≤ left
        · rw [if_pos hle] at key
          have hz : ¬ (left - ((nthH hs k).length : Int) < 0) := by omega
          have hz1 := As.mk (show (nthH hs k).length ≤ 1048576 by omega)
          go_wp2_with (go_at_call 62; refine (key).mono ?_; rintro e w' ⟨rfl, rfl⟩)
          go_roundw
          case rel => exact ⟨k + 1, _, by omega, by go_num, rfl, by omega, by omega, ⟨all_succ H.out hz1.out⟩, by trivial⟩
          case measure => simp [intOf]; omega
        · rw [if_neg hle] at key
          go_wp2_with (go_at_call 62; refine (key).mono ?_; rintro e w' ⟨rfl, rfl⟩)
          go_ret
          exact ⟨⟨_, rfl, .inl rfl⟩, rfl⟩
      · obtain rfl : k = n := by omega
        go_wp2_with (fail)
        go_ret
        refine ⟨⟨_, rfl, .inr ⟨l1, h1, fun xs hx => ?_⟩⟩, rfl⟩
        obtain ⟨i, hi, rfl⟩ := List.mem_iff_getElem.1 hx
        rw [nthH_get hs i hi]
        exact H.out i (by rw [← HM.out]; exact hi)
  · have h1' : (1048576 - (n : Int) < 0) := by omega
    go_enter Try.func45, Try.ntmps45
    go_wp2
    go_ret
    exact ⟨⟨_, rfl, .inl rfl⟩, rfl⟩
end Go.Proofs.Ytllplgjlpndpfaa
