/- Walk: the law of SameBook. (Printed by l24.py.) -/
import Derived.Test.YtnokdbnlagoidaaBk
import Derived.Test.YtnokdbnlagoidaaGw
set_option linter.unusedVariables false
namespace Go.Proofs.Ytnokdbnlagoidaa
open Go.RowKit

theorem bokC_length (b : Bok) (A : Option Addr) (c : Nat) : (bokC b A c).length = 4 := rfl
theorem bokC_one (b : Bok) (A : Option Addr) (c : Nat) : ∀ v ∈ bokC b A c, v.oneCell' = true := by intro v hv; simp [bokC] at hv; rcases hv with rfl | rfl | rfl | rfl <;> rfl
def zbok : List Value := [.int .i8 0, .int .i8 0, .int .i8 0, .slice none 0 0]
theorem szb_ok {b : Bok} {left r : Int} (h : Sized b.ps left r) (hr : ¬ r < 0) : b.ps.length ≤ 1048576 ∧ ∀ s ∈ b.ps, s.size ≤ 1048576 := by
  rcases h.2 with h | h
  · omega
  · exact h.2
/-- What toBook hands back. -/
def Tob (b : Bok) (base : Nat) (v : Value) (w : World) : Prop := ∃ A' c', v = bok b A' c' ∧ Own w base 9 (.slice A' b.ps.length c') (strs b.ps)
theorem Own.slS' {w : World} {base : Nat} {e : TypeId} {A : Option Addr} {n c : Nat} {ss : List ByteArray} (h : Own w base e (.slice A n c) (strs ss)) (hz : ∀ s ∈ ss, s.size ≤ maxLen) : SlS w A ss := by
  obtain ⟨A', c', hv, S⟩ := h.slS hz
  simp only [Value.slice.injEq] at hv
  rw [hv.1]; exact S
theorem tob_any (b : Bok) (A : Option Addr) (c : Nat) (w : World) (h : SlS w A b.ps) (hn : b.ps.length ≤ 1048576) :
    Calls Try.prog 33 #[bok b A c] w fun e w' => ∃ v, e = .returned v ∧ Tob b w.heap.size v w' ∧ Below w.heap.size w w' :=
  (toBook_any b A c w h hn).mono fun e w' ⟨⟨A', c', e1, hO⟩, hb⟩ => ⟨_, e1, ⟨A', c', rfl, hO⟩, hb⟩

set_option maxRecDepth 100000 in
set_option maxHeartbeats 8000000 in
theorem walk_FnExactSameBook (w : World) (A0 : Option Addr) (b0 : Bok) (c0 : Nat) (s0 : SlS w A0 b0.ps) (r0 : bokR b0) (A1 : Option Addr) (b1 : Bok) (c1 : Nat) (s1 : SlS w A1 b1.ps) (r1 : bokR b1) :
    Calls Try.prog 8 #[bok b0 A0 c0, bok b1 A1 c1] w fun e w' => e = .returned (.bool true) ∧ Below w.heap.size w w' := by
  clear r0 r1
  have hb0 := bl_new (bl_new (Below.refl _ w) (.cells (bokC b0 A0 c0).toArray 45)) (.cells (bokC b1 A1 c1).toArray 45)
  have B0 := (Blk.mk w (bokC b0 A0 c0) 45 rfl).alloc (.cells (bokC b1 A1 c1).toArray 45)
  have B1 : Blk ((w.alloc (.cells (bokC b0 A0 c0).toArray 45)).alloc (.cells (bokC b1 A1 c1).toArray 45)) (w.heap.size + 1) (bokC b1 A1 c1) 45 := Blk.mk _ _ _ (by simp)
  have g0 := s0.kept hb0
  have g1 := s1.kept hb0
  generalize hbv0 : bok b0 A0 c0 = v0 at *
  generalize hbv1 : bok b1 A1 c1 = v1 at *
  have l0 := bokC_length b0 A0 c0
  have l1 := bokC_length b1 A1 c1
  go_enter Try.func8, Try.ntmps8
  rw [← hbv0, ← hbv1]
  unfold bok
  clear hbv0 hbv1
  go_wp2_with (first | (refine load_blk rfl 45 _ rfl _ rfl B0 Try.underlying45 rfl info_lb l0 ?_))

  refine (szBook_any b0 A0 c0 1048576 (by omega) _ g0).mono ?_; rintro e w1 ⟨⟨r0, rfl, hr0⟩, hw1⟩
  by_cases h0 : r0 < 0
  · have hr0' := As.mk hr0
    clear hr0
    go_wp2_with (fail)
    go_ret
    exact ⟨rfl, bl_call hb0 hw1⟩
  · have z0 := szb_ok hr0 h0
    have hl0 : 0 ≤ r0 ∧ r0 ≤ 1048576 := ⟨by omega, hr0.1⟩
    have hb1 := bl_call hb0 hw1
    replace B0 := B0.kept hw1
    replace B1 := B1.kept hw1
    replace g0 := g0.kept hw1
    replace g1 := g1.kept hw1
    clear hr0 hw1 hb0
    go_wp2_with (refine load_blk rfl 45 _ rfl _ rfl B1 Try.underlying45 rfl info_lb l1 ?_)
    refine (szBook_any b1 A1 c1 r0 hl0 _ g1).mono ?_; rintro e w2 ⟨⟨r1, rfl, hr1⟩, hw2⟩
    by_cases h1 : r1 < 0
    · have hr1' := As.mk hr1
      clear hr1
      go_wp2_with (fail)
      go_ret
      exact ⟨rfl, bl_call hb1 hw2⟩
    · have z1 := szb_ok hr1 h1
      have hb2 := bl_call hb1 hw2
      replace B0 := B0.kept hw2
      replace B1 := B1.kept hw2
      replace g0 := g0.kept hw2
      replace g1 := g1.kept hw2
      have m0 : ∀ s ∈ b0.ps, s.size ≤ maxLen := fun s hs => by have := z0.2 s hs; simp only [maxLen]; omega
      have m1 : ∀ s ∈ b1.ps, s.size ≤ maxLen := fun s hs => by have := z1.2 s hs; simp only [maxLen]; omega
      clear hr1 hw2 hb1 hl0
      go_wp2_with (fail)
      have B0d : Blk w2.drew w.heap.size (bokC b0 A0 c0) 45 := B0
      have B1d : Blk w2.drew (w.heap.size + 1) (bokC b1 A1 c1) 45 := B1
      have g0d : SlS w2.drew A0 b0.ps := g0
      have g1d : SlS w2.drew A1 b1.ps := g1
      have hbd : Below w.heap.size w w2.drew := hb2.drew
      clear B0 B1 g0 g1 hb2
      refine wp_region_held_drew (S := (Below w2.drew.heap.size w2.drew)) (by kernel_rfl) (Below.refl w2.drew.heap.size w2.drew) (fun hHeld => ?_)
      (refine hTake 0 20 rfl rfl (by kernel_rfl) (by kernel_rfl) (by kernel_rfl) (fun _ _ _ h => h) (yieldsIf_load_mid (by rfl) _ _ rfl _ _ rfl (bokC b0 A0 c0) _ (fun W h => (B0d.kept h).range) Try.underlying45 rfl (by rw [l0]; exact info_lb)) hHeld ?_; simp only [List.set_cons_zero, List.set_cons_succ])
      (refine hTake 2 22 rfl rfl (by kernel_rfl) (by kernel_rfl) (by kernel_rfl) (fun _ _ _ h => h) (yieldsIf_load_mid (by rfl) _ _ rfl _ _ rfl (bokC b1 A1 c1) _ (fun W h => (B1d.kept h).range) Try.underlying45 rfl (by rw [l1]; exact info_lb)) hHeld ?_; simp only [List.set_cons_zero, List.set_cons_succ])
      clear hHeld
      refine wpAnyH_ready (rs := [1]) (by kernel_rfl) (by simp) ?_
      refine kCallE 1 21 33 rfl rfl (args := #[.agg (bokC b0 A0 c0).toArray]) (by rfl) (by go_simp) (R := fun v w' => Tob b0 w2.drew.heap.size v w' ∧ Below w2.drew.heap.size w2.drew w') (tob_any b0 A0 c0 _ g0d z0.1) (fun v w3 hR => ⟨hR.2, ?_⟩) AllReadyH.nil
      obtain ⟨⟨Aa, ca, rfl, Oa⟩, hb3⟩ := hR
      simp only [List.set_cons_zero, List.set_cons_succ]
      refine wpAnyH_ready (rs := [3]) (by kernel_rfl) (by simp) ?_
      refine kCallE 3 23 33 rfl rfl (args := #[.agg (bokC b1 A1 c1).toArray]) (by rfl) (by go_simp) (R := fun v w' => Tob b1 w3.heap.size v w' ∧ Below w3.heap.size w3 w') (tob_any b1 A1 c1 _ (g1d.kept hb3) z1.1) (fun v w4 hR => ⟨bl_call hb3 hR.2, ?_⟩) AllReadyH.nil
      obtain ⟨⟨Ab, cb, rfl, Ob⟩, hb4⟩ := hR
      replace Oa := Oa.kept hb4
      have hb5 := bl_call hb3 hb4
      simp only [List.set_cons_zero, List.set_cons_succ]
      refine wpAnyH_ready (rs := [4]) (by kernel_rfl) (by simp) ?_
      refine kCallE 4 24 32 rfl rfl (args := #[.agg (bokC b0 Aa ca).toArray, .agg (bokC b1 Ab cb).toArray]) (by rfl) (by first | (go_simp; done) | (go_simp; rfl) | (go_simp; exact ⟨rfl, rfl⟩)) (R := fun v w' => v = .bool (decide (b0 = b1)) ∧ Below w4.heap.size w4 w') ((sSameBook_any b0 b1 Aa Ab ca cb _ (Oa.slS' m0) (Ob.slS' m1)).mono (fun e w' h => ⟨_, h.1, rfl, h.2⟩)) (fun v w5 hR => ⟨bl_call hb5 hR.2, ?_⟩) AllReadyH.nil
      obtain ⟨rfl, hb6⟩ := hR
      have hb7 := bl_call hb5 hb6
      simp only [List.set_cons_zero, List.set_cons_succ]
      refine wpAnyH_ready (rs := [5]) (by kernel_rfl) (by simp) ?_
      refine kVal 5 6 rfl rfl (by rfl) (v := .bool (decide (b0 = b1))) (by rfl) hb7 ?_ AllReadyH.nil
      simp only [List.set_cons_zero, List.set_cons_succ]
      refine wpAnyH_done (by kernel_rfl) ?_ _
      have hw3 := bl_call hbd hb7
      have B0 := B0d.kept hb7
      have B1 := B1d.kept hb7
      have g0 := g0d.kept hb7
      have g1 := g1d.kept hb7
      clear Oa Ob hb6 hb7 hb3 hb4 hb5 B0d B1d g0d g1d hbd
      generalize hdd : decide (b0 = b1) = dd at *
      have hdd := As.mk hdd
      go_wp2_with (refine load_blk rfl 45 _ rfl _ rfl B0 Try.underlying45 rfl info_lb l0 ?_)
      refine (tob_any b0 A0 c0 _ g0 z0.1).mono ?_; rintro e w6 ⟨v, rfl, ⟨Aa, ca, rfl, Oa⟩, hb⟩
      have hw4 := bl_call hw3 hb
      replace B0 := B0.kept hb
      replace B1 := B1.kept hb
      replace g0 := g0.kept hb
      replace g1 := g1.kept hb
      clear hb hw3
      have X0 : Blk (w6.alloc (.cells #[.int .i8 0, .int .i8 0, .int .i8 0, .slice none 0 0] 48)) w6.heap.size [.int .i8 0, .int .i8 0, .int .i8 0, .slice none 0 0] 48 := Blk.mk _ [_, _, _, _] _ rfl
      have la := bokC_length b0 Aa ca
      have Ba := X0.setRow (bokC b0 Aa ca)
      have hbq : Below w6.heap.size w6 (((w6).alloc (.cells #[.int .i8 0, .int .i8 0, .int .i8 0, .slice none 0 0] 48)).setRow (w6).heap.size (bokC b0 Aa ca).toArray) := bl_setRow (bl_new (Below.refl _ w6) _) (Nat.le_refl _) _
      replace hw4 := bl_call hw4 hbq
      replace B0 := B0.kept hbq
      replace B1 := B1.kept hbq
      replace g0 := g0.kept hbq
      replace g1 := g1.kept hbq
      replace Oa := (Oa.kept hbq).lower (Nat.zero_le _)
      unfold bok
      go_wp2_with (first | (refine store_blk rfl 48 _ _ rfl _ rfl (ds := bokC b0 Aa ca) rfl X0 info_ib la rfl (bokC_one _ _ _) ?_) | (refine load_blk rfl 45 _ rfl _ rfl B1 Try.underlying45 rfl info_lb l1 ?_))
      generalize (((w6).alloc (.cells #[.int .i8 0, .int .i8 0, .int .i8 0, .slice none 0 0] 48)).setRow (w6).heap.size (bokC b0 Aa ca).toArray) = w7 at *
      generalize w6.heap.size = L7 at *
      clear X0
      refine (tob_any b1 A1 c1 _ g1 z1.1).mono ?_; rintro e w8 ⟨v, rfl, ⟨Ab, cb, rfl, Ob⟩, hb⟩
      replace hw4 := bl_call hw4 hb
      replace B0 := B0.kept hb
      replace B1 := B1.kept hb
      replace g0 := g0.kept hb
      replace g1 := g1.kept hb
      replace Ba := Ba.kept hb
      replace Oa := Oa.kept hb
      clear hb hbq
      have X0 : Blk (w8.alloc (.cells #[.int .i8 0, .int .i8 0, .int .i8 0, .slice none 0 0] 48)) w8.heap.size [.int .i8 0, .int .i8 0, .int .i8 0, .slice none 0 0] 48 := Blk.mk _ [_, _, _, _] _ rfl
      have lb := bokC_length b1 Ab cb
      have Bb := X0.setRow (bokC b1 Ab cb)
      have hbq : Below w8.heap.size w8 (((w8).alloc (.cells #[.int .i8 0, .int .i8 0, .int .i8 0, .slice none 0 0] 48)).setRow (w8).heap.size (bokC b1 Ab cb).toArray) := bl_setRow (bl_new (Below.refl _ w8) _) (Nat.le_refl _) _
      replace hw4 := bl_call hw4 hbq
      replace B0 := B0.kept hbq
      replace B1 := B1.kept hbq
      replace g0 := g0.kept hbq
      replace g1 := g1.kept hbq
      replace Ba := Ba.kept hbq
      replace Oa := Oa.kept hbq
      replace Ob := (Ob.kept hbq).lower (Nat.zero_le _)
      unfold bok
      go_wp2_with (first | (refine store_blk rfl 48 _ _ rfl _ rfl (ds := bokC b1 Ab cb) rfl X0 info_ib lb rfl (bokC_one _ _ _) ?_) | (refine load_blk rfl 48 _ rfl _ rfl Ba Try.underlying48 rfl info_ib la ?_) | (refine load_blk rfl 48 _ rfl _ rfl Bb Try.underlying48 rfl info_ib lb ?_))
      generalize (((w8).alloc (.cells #[.int .i8 0, .int .i8 0, .int .i8 0, .slice none 0 0] 48)).setRow (w8).heap.size (bokC b1 Ab cb).toArray) = w9 at *
      generalize w8.heap.size = L9 at *
      clear X0 hbq
      have key := SameBook_any b0 b1 Aa Ab ca cb w9 (Oa.slS' m0) (Ob.slS' m1)
      rw [hdd.out] at key
      refine key.mono ?_; rintro e w10 ⟨rfl, hb⟩
      replace hw4 := bl_call hw4 hb
      replace B0 := B0.kept hb
      replace B1 := B1.kept hb
      replace g0 := g0.kept hb
      replace g1 := g1.kept hb
      replace Ba := Ba.kept hb
      replace Bb := Bb.kept hb
      replace Oa := Oa.kept hb
      replace Ob := Ob.kept hb
      clear hb key
      go_wp2_with (fail)
      have D1 : Blk w10.drew L7 (bokC b0 Aa ca) 48 := Ba
      have D2 : Blk w10.drew (w.heap.size) (bokC b0 A0 c0) 45 := B0
      have D3 : SlS w10.drew A0 b0.ps := g0
      have D4 : Own w10.drew 0 9 (.slice Aa b0.ps.length ca) (strs b0.ps) := Oa
      refine wp_region_held_drew (S := (Below w10.drew.heap.size w10.drew)) (by kernel_rfl) (Below.refl w10.drew.heap.size w10.drew) (fun hHeld => ?_)
      (refine hTake 0 35 rfl rfl (by kernel_rfl) (by kernel_rfl) (by kernel_rfl) (fun _ _ _ h => h) (yieldsIf_load_mid (by rfl) _ _ rfl _ _ rfl (bokC b0 Aa ca) _ (fun W h => (D1.kept h).range) Try.underlying48 rfl (by rw [la]; exact info_ib)) hHeld ?_; simp only [List.set_cons_zero, List.set_cons_succ])
      (refine hTake 1 36 rfl rfl (by kernel_rfl) (by kernel_rfl) (by kernel_rfl) (fun _ _ _ h => h) (yieldsIf_load_mid (by rfl) _ _ rfl _ _ rfl (bokC b0 A0 c0) _ (fun W h => (D2.kept h).range) Try.underlying45 rfl (by rw [l0]; exact info_lb)) hHeld ?_; simp only [List.set_cons_zero, List.set_cons_succ])
      clear hHeld
      refine wpAnyH_ready (rs := [2]) (by kernel_rfl) (by simp) ?_
      refine kCallE 2 37 33 rfl rfl (args := #[.agg (bokC b0 A0 c0).toArray]) (by rfl) (by go_simp) (R := fun v w' => Tob b0 w10.drew.heap.size v w' ∧ Below w10.drew.heap.size w10.drew w') (tob_any b0 A0 c0 _ D3 z0.1) (fun v y1 hR => ⟨hR.2, ?_⟩) AllReadyH.nil
      obtain ⟨⟨Ac, cc, rfl, Oc⟩, hz1⟩ := hR
      replace D4 := D4.kept hz1
      simp only [List.set_cons_zero, List.set_cons_succ]
      refine wpAnyH_ready (rs := [3]) (by kernel_rfl) (by simp) ?_
      refine kCallE 3 38 35 rfl rfl (args := #[.agg (bokC b0 Aa ca).toArray, .agg (bokC b0 Ac cc).toArray]) (by rfl) (by first | (go_simp; done) | (go_simp; rfl) | (go_simp; exact ⟨rfl, rfl⟩)) (R := fun v w' => v = .bool true ∧ Below y1.heap.size y1 w') ((eqBook_any b0 b0 Aa Ac ca cc _ (D4.slS' m0) (Oc.slS' m0)).mono (fun e w' h => ⟨_, h.1, by simp, h.2⟩)) (fun v y2 hR => ⟨bl_call hz1 hR.2, ?_⟩) AllReadyH.nil
      obtain ⟨rfl, hz6⟩ := hR
      have hz7 := bl_call hz1 hz6
      simp only [List.set_cons_zero, List.set_cons_succ]
      refine wpAnyH_ready (rs := [4]) (by kernel_rfl) (by simp) ?_
      refine kVal 4 39 rfl rfl (by rfl) (v := .bool false) (by rfl) hz7 ?_ AllReadyH.nil
      simp only [List.set_cons_zero, List.set_cons_succ]
      refine wpAnyH_done (by kernel_rfl) ?_ _
      replace hw4 := bl_call hw4.drew hz7
      have hz8 : Below w10.heap.size w10 y2 := bl_call (Below.refl _ w10).drew hz7
      replace B0 := B0.kept hz8
      replace B1 := B1.kept hz8
      replace g0 := g0.kept hz8
      replace g1 := g1.kept hz8
      replace Ba := Ba.kept hz8
      replace Bb := Bb.kept hz8
      replace Oa := Oa.kept hz8
      replace Ob := Ob.kept hz8
      clear D1 D2 D3 D4 Oc hz1 hz6 hz7 hz8

      generalize y2 = w11 at *
      go_wp2_with (fail)
      have D1 : Blk w11.drew L9 (bokC b1 Ab cb) 48 := Bb
      have D2 : Blk w11.drew (w.heap.size + 1) (bokC b1 A1 c1) 45 := B1
      have D3 : SlS w11.drew A1 b1.ps := g1
      have D4 : Own w11.drew 0 9 (.slice Ab b1.ps.length cb) (strs b1.ps) := Ob
      refine wp_region_held_drew (S := (Below w11.drew.heap.size w11.drew)) (by kernel_rfl) (Below.refl w11.drew.heap.size w11.drew) (fun hHeld => ?_)
      (refine hTake 0 40 rfl rfl (by kernel_rfl) (by kernel_rfl) (by kernel_rfl) (fun _ _ _ h => h) (yieldsIf_load_mid (by rfl) _ _ rfl _ _ rfl (bokC b1 Ab cb) _ (fun W h => (D1.kept h).range) Try.underlying48 rfl (by rw [lb]; exact info_ib)) hHeld ?_; simp only [List.set_cons_zero, List.set_cons_succ])
      (refine hTake 1 41 rfl rfl (by kernel_rfl) (by kernel_rfl) (by kernel_rfl) (fun _ _ _ h => h) (yieldsIf_load_mid (by rfl) _ _ rfl _ _ rfl (bokC b1 A1 c1) _ (fun W h => (D2.kept h).range) Try.underlying45 rfl (by rw [l1]; exact info_lb)) hHeld ?_; simp only [List.set_cons_zero, List.set_cons_succ])
      clear hHeld
      refine wpAnyH_ready (rs := [2]) (by kernel_rfl) (by simp) ?_
      refine kCallE 2 42 33 rfl rfl (args := #[.agg (bokC b1 A1 c1).toArray]) (by rfl) (by go_simp) (R := fun v w' => Tob b1 w11.drew.heap.size v w' ∧ Below w11.drew.heap.size w11.drew w') (tob_any b1 A1 c1 _ D3 z1.1) (fun v y1 hR => ⟨hR.2, ?_⟩) AllReadyH.nil
      obtain ⟨⟨Ac, cc, rfl, Oc⟩, hz1⟩ := hR
      replace D4 := D4.kept hz1
      simp only [List.set_cons_zero, List.set_cons_succ]
      refine wpAnyH_ready (rs := [3]) (by kernel_rfl) (by simp) ?_
      refine kCallE 3 43 35 rfl rfl (args := #[.agg (bokC b1 Ab cb).toArray, .agg (bokC b1 Ac cc).toArray]) (by rfl) (by first | (go_simp; done) | (go_simp; rfl) | (go_simp; exact ⟨rfl, rfl⟩)) (R := fun v w' => v = .bool true ∧ Below y1.heap.size y1 w') ((eqBook_any b1 b1 Ab Ac cb cc _ (D4.slS' m1) (Oc.slS' m1)).mono (fun e w' h => ⟨_, h.1, by simp, h.2⟩)) (fun v y2 hR => ⟨bl_call hz1 hR.2, ?_⟩) AllReadyH.nil
      obtain ⟨rfl, hz6⟩ := hR
      have hz7 := bl_call hz1 hz6
      simp only [List.set_cons_zero, List.set_cons_succ]
      refine wpAnyH_ready (rs := [4]) (by kernel_rfl) (by simp) ?_
      refine kVal 4 44 rfl rfl (by rfl) (v := .bool false) (by rfl) hz7 ?_ AllReadyH.nil
      simp only [List.set_cons_zero, List.set_cons_succ]
      refine wpAnyH_done (by kernel_rfl) ?_ _
      replace hw4 := bl_call hw4.drew hz7
      have hz8 : Below w11.heap.size w11 y2 := bl_call (Below.refl _ w11).drew hz7
      replace B0 := B0.kept hz8
      replace B1 := B1.kept hz8
      replace g0 := g0.kept hz8
      replace g1 := g1.kept hz8
      replace Ba := Ba.kept hz8
      replace Bb := Bb.kept hz8
      replace Oa := Oa.kept hz8
      replace Ob := Ob.kept hz8
      clear D1 D2 D3 D4 Oc hz1 hz6 hz7 hz8

      go_wp2_with (fail)
      go_ret
      exact ⟨rfl, hw4⟩
end Go.Proofs.Ytnokdbnlagoidaa
