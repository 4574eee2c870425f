/- Contracts: marks of books; MeaningAt (both sides). -/
import Derived.Test.YtnokdbnlagoidaaVb
import Derived.Test.YtnokdbnlagoidaaGw
set_option linter.unusedVariables false
namespace Go.Proofs.Ytnokdbnlagoidaa
open Go.RowKit

set_option maxRecDepth 100000 in
set_option maxHeartbeats 2000000 in
theorem markText_any (k : Nat) (hk : k ≤ 4000000) (w : World) : Calls Try.prog 96 #[.int .i64 k] w fun e w' => (∃ s : ByteArray, e = .returned (.string s)) ∧ Below w.heap.size w w' := by
  have hk' : (k : Int) ≤ 4000000 := by omega
  rcases Nat.eq_zero_or_pos k with rfl | hp
  · go_enter Try.func96, Try.ntmps96
    go_wp2_with (fail)
    go_ret
    exact ⟨⟨_, rfl⟩, Below.refl _ _⟩
  have hp' : ¬ ((k : Int) ≤ 0) := by omega
  go_enter Try.func96, Try.ntmps96
  go_wp2_with (fail)
  go_loopw [0, 3] (fun a s0 wr => ∃ (j : Nat) (s : ByteArray), a = .int .i64 j ∧ s0 = .string s ∧ As (s.size + j ≤ k) ∧ Below w.heap.size w wr) (fun a _ _ => (intOf a).toNat)
  case atStart => exact ⟨k, ⟨#[]⟩, rfl, rfl, ⟨by show 0 + k ≤ k; omega⟩, Below.refl _ _⟩
  case round =>
    obtain ⟨j, s, rfl, rfl, H, hb⟩ := hrel
    have H1 := H.out
    rcases Nat.eq_zero_or_pos j with rfl | hjp
    · have hs9 : (s.size : Int) ≤ 4000000 := by omega
      go_wp2_with (fail)
      go_ret
      exact ⟨⟨_, rfl⟩, hb⟩
    · have hjp' : (0 : Int) < (j : Int) := by omega
      obtain ⟨q, hq⟩ : ∃ q : Nat, j / 10 = q := ⟨_, rfl⟩
      obtain ⟨r, hr⟩ : ∃ r : Nat, j % 10 = r := ⟨_, rfl⟩
      have r10 : r < 10 := by omega
      have hq9 : q < j := by omega
      have wm : Int.tmod (j : Int) 10 = r := by rw [Int.tmod_eq_emod_of_nonneg (by omega)]; omega
      have wd : Int.tdiv (j : Int) 10 = q := by rw [Int.tdiv_eq_ediv_of_nonneg (by omega)]; omega
      have w48 : IntKind.i64.wrap (48 + (r : Int)) = 48 + r := by simp [IntKind.wrap, IntKind.bits, IntKind.signed]; omega
      have w8 : IntKind.u8.wrap (48 + (r : Int)) = 48 + r := by simp [IntKind.wrap, IntKind.bits, IntKind.signed]; omega
      have hcv := byte_string (48 + (r : Int)) (wr.alloc (.cells #[.int .u8 (48 + (r : Int))] 5)) wr.heap.size (Blk.mk _ [_] _ rfl)
      have hz2 : (strOfNums [48 + (r : Int)]).size = 1 := by rw [strOfNums_size]; rfl
      generalize strOfNums [48 + (r : Int)] = d at *
      have hds : (d ++ s).size = 1 + s.size := by rw [ByteArray.size_append, hz2]
      have hr10 : (r : Int) < 10 := by omega
      have hj9 : (j : Int) ≤ 4000000 := by omega
      have hs9 : s.size ≤ 4000000 := by omega
      have Hn := As.mk (show (d ++ s).size + q ≤ k by rw [hds]; omega)
      have hbn := bl_new hb (.cells #[.int .u8 (48 + (r : Int))] 5)
      clear hr hq
      go_wp2_with (fail)
      go_roundw
      case rel => exact ⟨q, d ++ s, by go_num, by first | rfl | trivial, Hn, hbn⟩
      case measure => simp [intOf]; omega

set_option maxRecDepth 100000 in
set_option maxHeartbeats 2000000 in
theorem markStringS_any (cs0 : List Value) (hn : cs0.length ≤ 1048576) (base : Nat) (v : Value) (w : World) (h : Own w base 9 v cs0) :
    Calls Try.prog 79 #[v, .int .i64 1] w fun e w' => e = .returned (.int .i64 (1 + (cs0.length : Int))) ∧ w.grownBy w' v.ownBlock := by
  obtain ⟨A, c, rfl⟩ := h.slice
  obtain ⟨n, hm⟩ : ∃ n, cs0.length = n := ⟨_, rfl⟩
  rw [hm] at h hn ⊢
  have HM := As.mk hm
  clear hm
  have hn' : (n : Int) ≤ 1048576 := by omega
  go_enter Try.func79, Try.ntmps79
  go_wp2_with (fail)
  go_loopw [5, 1] (fun i kk wr => ∃ (j : Nat) (cs : List Value), j ≤ n ∧ i = .int .i64 j ∧ kk = .int .i64 (1 + (j : Int)) ∧ Own wr base 9 (.slice A n c) cs ∧ As (cs.length = n) ∧ w.grownBy wr (Value.slice A n c).ownBlock) (fun i _ _ => n - (intOf i).toNat)
  case atStart => exact ⟨0, cs0, by omega, rfl, rfl, h, HM, World.grownBy.refl _ _⟩
  case round =>
    obtain ⟨j, cs, hj, rfl, rfl, hO, HC, hg⟩ := hrel
    by_cases hlt : j < n
    · have hlt' : (j : Int) < (n : Int) := by omega
      obtain ⟨g, rfl⟩ := hO.addr (by rw [HC.out]; omega)
      have key := markText_any (j + 1) (by omega) wr
      rw [show ((j + 1 : Nat) : Int) = 1 + (j : Int) by omega] at key
      go_wp2_with (fail)
      refine key.mono ?_; rintro e w1 ⟨⟨s, rfl⟩, hb⟩
      have hO1 := hO.kept hb
      obtain ⟨u, cu⟩ := hO1.someAt j (by rw [HC.out]; exact hlt)
      have fu := hO1.frozenAt j
      have hO2 := hO1.set (HC.out.symm) j (.string s)
      have hg2 : w.grownBy (w1.setCell ⟨g, j, none⟩ (.string s)) (Value.slice (some ⟨g, 0, none⟩) n c).ownBlock := hg.trans (grow_set (grown_of_below hb) j (.string s))
      have HC2 := As.mk (show (cs.set j (.string s)).length = n by rw [List.length_set]; exact HC.out)
      clear key hO hO1
      go_wp2_with (fail)
      go_roundw
      case rel => exact ⟨j + 1, _, by omega, by go_num, by go_num, hO2, HC2, hg2⟩
      case measure => simp [intOf]; omega
    · obtain rfl : j = n := by omega
      go_wp2_with (fail)
      go_ret
      exact ⟨rfl, hg⟩
set_option maxRecDepth 100000 in
set_option maxHeartbeats 2000000 in
theorem markBook_any (b : Bok) (A : Option Addr) (c : Nat) (hn : b.ps.length ≤ 1048576) (base : Nat) (w : World) (h : Own w base 9 (.slice A b.ps.length c) (strs b.ps)) :
    Calls Try.prog 44 #[bok b A c, .int .i64 1] w fun e w' => e = .returned (.int .i64 (1 + (b.ps.length : Int))) ∧ w.grownBy w' (Value.slice A b.ps.length c).ownBlock := by
  have bb := bl_new (Below.refl _ w) (.cells (bokC b A c).toArray 48)
  have key := markStringS_any (strs b.ps) (by rw [strs_length]; exact hn) base _ _ (h.kept bb)
  rw [strs_length] at key
  have hg0 : w.grownBy _ (Value.slice A b.ps.length c).ownBlock := grown_of_below bb
  unfold bok
  unfold bokC at *
  generalize b.ps.length = n at *
  go_enter Try.func44, Try.ntmps44
  go_wp2_with (fail)
  refine key.mono ?_; rintro e w1 ⟨rfl, hg⟩
  have hg1 := hg0.trans hg
  go_wp2_with (fail)
  go_ret
  exact ⟨rfl, hg1⟩

/-- The meaning of a rank, its code. -/
def maC (b : Bok) (r : Int) : Int := if okB b then (if inR r 0 (((outB b).length : Int) - 1) then 0 else 2) else 1
def maL (b : Bok) (r : Int) : List Int := if maC b r = 0 then nthL (outB b) r.toNat else []
theorem maL_le (b : Bok) (r : Int) : (maL b r).length ≤ 3 := by
  unfold maL
  split
  · rename_i h
    unfold maC at h
    split at h
    · rename_i h1
      split at h
      · rename_i h2
        rw [inR_iff] at h2
        exact (outB_mem (okB_parts h1).1 _ (nthL_mem _ _ (by omega))).2.1
      · omega
    · omega
  · simp
set_option maxRecDepth 100000 in
set_option maxHeartbeats 2000000 in
theorem sMeaningAt_any (b : Bok) (hr : bokR b) (A : Option Addr) (c : Nat) (r : Int) (rr : -9223372036854775808 ≤ r ∧ r ≤ 9223372036854775807) (w : World) (h : SlS w A b.ps) :
    Calls Try.prog 42 #[bok b A c, .int .i64 r] w fun e w' => Gave 42 (i8s (maL b r)) (maC b r) w.heap.size e w' ∧ Below w.heap.size w w' := by
  have bb := bl_new (Below.refl _ w) (.cells (bokC b A c).toArray 48)
  have B0 := Blk.mk w (bokC b A c) 48 rfl
  have key := l03Ok_any b hr A c _ _ B0 (h.kept bb)
  have hC := As.mk (show maC b r = if okB b then (if inR r 0 (((outB b).length : Int) - 1) then 0 else 2) else 1 from rfl)
  have hL := As.mk (show maL b r = if maC b r = 0 then nthL (outB b) r.toNat else [] from rfl)
  unfold bok
  cases hz : okB b
  · rw [hz] at key
    have c1 : maC b r = 1 := by rw [hC.out, hz]; rfl
    rw [hL.out, c1, if_neg (by omega)]
    clear hC hL c1
    generalize bokC b A c = cs at *
    go_enter Try.func42, Try.ntmps42
    go_wp2_with (fail)
    refine key.mono ?_; rintro e w1 ⟨rfl, hb⟩
    have hbf := bl_call bb hb
    go_wp2_with (fail)
    go_ret2
    exact ⟨⟨_, rfl, Own.lit w1 w.heap.size 42 [] hbf.size (by simp)⟩, bl_new hbf _⟩
  rw [hz] at key
  obtain ⟨hsz, _, _⟩ := okB_parts hz
  have mns := fun W hb => sMeanings_any b hsz A c w.heap.size W hb
  have hole := outB_le hsz
  clear hsz
  cases hi : inR r 0 (((outB b).length : Int) - 1)
  · have c1 : maC b r = 2 := by rw [hC.out, hz, hi]; rfl
    rw [hL.out, c1, if_neg (by omega)]
    clear hC hL c1 hz
    generalize bokC b A c = cs at *
    generalize outB b = ms at *
    go_enter Try.func42, Try.ntmps42
    go_wp2_with (fail)
    refine key.mono ?_; rintro e w1 ⟨rfl, hb⟩
    have m1 := mns w1 (B0.kept hb)
    clear mns
    go_wp2_with (fail)
    refine m1.mono ?_; rintro e w2 ⟨⟨v, rfl, hM⟩, hb2⟩
    obtain ⟨A2, c2, rfl⟩ := hM.slice
    have hbf := bl_call (bl_call bb hb) hb2
    generalize ms.length = ln at *
    have hole' : (ln : Int) ≤ 3000 := by omega
    clear hM m1 hb hb2
    go_wp2_with (go_at_call 59; refine (l00In_any _ _ _ _).mono ?_; rintro e w' ⟨rfl, rfl⟩)
    go_ret2
    exact ⟨⟨_, rfl, Own.lit w2 w.heap.size 42 [] hbf.size (by simp)⟩, bl_new hbf _⟩
  · have c1 : maC b r = 0 := by rw [hC.out, hz, hi]; rfl
    rw [hL.out, c1, if_pos rfl]
    have hr2 := (inR_iff _ _ _).1 hi
    obtain ⟨j, rfl⟩ : ∃ j : Nat, r = (j : Int) := ⟨r.toNat, by omega⟩
    rw [Int.toNat_natCast]
    have hj : j < (outB b).length := by omega
    clear hC hL c1 hz rr
    generalize bokC b A c = cs at *
    generalize outB b = ms at *
    go_enter Try.func42, Try.ntmps42
    go_wp2_with (fail)
    refine key.mono ?_; rintro e w1 ⟨rfl, hb⟩
    have m1 := mns w1 (B0.kept hb)
    clear mns
    go_wp2_with (fail)
    refine m1.mono ?_; rintro e w2 ⟨⟨v, rfl, hM⟩, hb2⟩
    obtain ⟨A2, c2, rfl⟩ := hM.slice
    obtain ⟨G, g, c', hA2, cm, hI⟩ := hM.at j hj
    subst hA2
    have hbf := bl_call (bl_call bb hb) hb2
    have hI2 := hI.lower (b' := w.heap.size) (bl_call bb hb).size
    generalize (nthL ms j).length = nm at *
    generalize hln : ms.length = ln at *
    have hole' : (ln : Int) ≤ 3000 := by omega
    have hj' : (j : Int) < (ln : Int) := by omega
    clear hM m1 hb hb2 hI hr2
    go_wp2_with (go_at_call 59; refine (l00In_any _ _ _ _).mono ?_; rintro e w' ⟨rfl, rfl⟩)
    go_ret2
    exact ⟨⟨_, rfl, hI2⟩, hbf⟩
set_option maxRecDepth 100000 in
set_option maxHeartbeats 2000000 in
theorem MeaningAt_any (b : Bok) (hr : bokR b) (A : Option Addr) (c : Nat) (r : Int) (rr : -9223372036854775808 ≤ r ∧ r ≤ 9223372036854775807) (w : World) (h : SlS w A b.ps) (hc : b.ps.length ≤ c) :
    Calls Try.prog 43 #[bok b A c, .int .i64 r] w fun e w' => Gave 42 (i8s (maL b r)) (maC b r) w.heap.size e w' ∧ Below w.heap.size w w' := by
  have bb := bl_new (Below.refl _ w) (.cells (bokC b A c).toArray 48)
  have B0 := Blk.mk w (bokC b A c) 48 rfl
  have key := ValidBook_any b hr A c _ (h.kept bb) hc
  have hC := As.mk (show maC b r = if okB b then (if inR r 0 (((outB b).length : Int) - 1) then 0 else 2) else 1 from rfl)
  have hL := As.mk (show maL b r = if maC b r = 0 then nthL (outB b) r.toNat else [] from rfl)
  have lb := bokC_length b A c
  unfold bok
  unfold bok at key
  cases hz : okB b
  · rw [hz] at key
    have c1 : maC b r = 1 := by rw [hC.out, hz]; rfl
    rw [hL.out, c1, if_neg (by omega)]
    clear hC hL c1
    generalize bokC b A c = cs at *
    go_enter Try.func43, Try.ntmps43
    go_wp2_with (refine load_blk rfl 48 _ rfl _ rfl B0 Try.underlying48 rfl info_ib lb ?_)
    refine key.mono ?_; rintro e w1 ⟨rfl, hb⟩
    have hbf := bl_call bb hb
    go_wp2_with (fail)
    go_ret2
    exact ⟨⟨_, rfl, Own.nil _ _ _⟩, hbf⟩
  rw [hz] at key
  obtain ⟨hsz, _, _⟩ := okB_parts hz
  have mns := fun W => iMeanings_any b hsz A c W
  unfold bok at mns
  have hole := outB_le hsz
  clear hsz
  cases hi : inR r 0 (((outB b).length : Int) - 1)
  · have c1 : maC b r = 2 := by rw [hC.out, hz, hi]; rfl
    rw [hL.out, c1, if_neg (by omega)]
    clear hC hL c1 hz
    generalize bokC b A c = cs at *
    generalize outB b = ms at *
    go_enter Try.func43, Try.ntmps43
    go_wp2_with (refine load_blk rfl 48 _ rfl _ rfl B0 Try.underlying48 rfl info_ib lb ?_)
    refine key.mono ?_; rintro e w1 ⟨rfl, hb⟩
    have B1 := B0.kept hb
    go_wp2_with (refine load_blk rfl 48 _ rfl _ rfl B1 Try.underlying48 rfl info_ib lb ?_)
    refine (mns _).mono ?_; rintro e w2 ⟨⟨v, rfl, hM⟩, hb2⟩
    obtain ⟨A2, c2, rfl⟩ := hM.slice
    have hbf := bl_call (bl_call bb hb) hb2
    generalize ms.length = ln at *
    have hole' : (ln : Int) ≤ 3000 := by omega
    clear hM mns hb hb2
    go_wp2_with (first | (go_at_call 61; refine (within_any _ _ _ _).mono ?_; rintro e w' ⟨rfl, rfl⟩) | (go_at_call 72; refine (sizeM_any _ _ _ _).mono ?_; rintro e w' ⟨rfl, rfl⟩))
    go_ret2
    exact ⟨⟨_, rfl, Own.nil _ _ _⟩, hbf⟩
  · have c1 : maC b r = 0 := by rw [hC.out, hz, hi]; rfl
    rw [hL.out, c1, if_pos rfl]
    have hr2 := (inR_iff _ _ _).1 hi
    obtain ⟨j, rfl⟩ : ∃ j : Nat, r = (j : Int) := ⟨r.toNat, by omega⟩
    rw [Int.toNat_natCast]
    have hj : j < (outB b).length := by omega
    clear hC hL c1 hz rr
    generalize bokC b A c = cs at *
    generalize outB b = ms at *
    go_enter Try.func43, Try.ntmps43
    go_wp2_with (refine load_blk rfl 48 _ rfl _ rfl B0 Try.underlying48 rfl info_ib lb ?_)
    refine key.mono ?_; rintro e w1 ⟨rfl, hb⟩
    have B1 := B0.kept hb
    go_wp2_with (refine load_blk rfl 48 _ rfl _ rfl B1 Try.underlying48 rfl info_ib lb ?_)
    refine (mns _).mono ?_; rintro e w2 ⟨⟨v, rfl, hM⟩, hb2⟩
    obtain ⟨A2, c2, rfl⟩ := hM.slice
    obtain ⟨G, g, c', hA2, cm, hI⟩ := hM.at j hj
    subst hA2
    have hbf := bl_call (bl_call bb hb) hb2
    have hI2 := hI.lower (b' := w.heap.size) (bl_call bb hb).size
    generalize (nthL ms j).length = nm at *
    generalize hln : ms.length = ln at *
    have hole' : (ln : Int) ≤ 3000 := by omega
    have hj' : (j : Int) < (ln : Int) := by omega
    clear hM mns hb hb2 hI hr2
    go_wp2_with (first | (go_at_call 61; refine (within_any _ _ _ _).mono ?_; rintro e w' ⟨rfl, rfl⟩) | (go_at_call 72; refine (sizeM_any _ _ _ _).mono ?_; rintro e w' ⟨rfl, rfl⟩))
    go_ret2
    exact ⟨⟨_, rfl, hI2⟩, hbf⟩
end Go.Proofs.Ytnokdbnlagoidaa
