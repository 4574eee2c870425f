/- Walk: the law of MeaningAt. -/
import Derived.Test.YtnokdbnlagoidaaMa
import Derived.Test.YtnokdbnlagoidaaL24
set_option linter.unusedVariables false
namespace Go.Proofs.Ytnokdbnlagoidaa
open Go.RowKit

set_option maxRecDepth 100000 in
set_option maxHeartbeats 8000000 in
theorem walk_FnExactMeaningAt (w : World) (A0 : Option Addr) (b0 : Bok) (c0 : Nat) (s0 : SlS w A0 b0.ps) (r0 : bokR b0) (x1 : Int) (r1 : -9223372036854775808 ≤ x1 ∧ x1 ≤ 9223372036854775807) :
    Calls Try.prog 12 #[bok b0 A0 c0, .int .i64 x1] w fun e w' => e = .returned (.bool true) ∧ Below w.heap.size w w' := by
  have hb0 := bl_new (Below.refl _ w) (.cells (bokC b0 A0 c0).toArray 45)
  have B0 := Blk.mk w (bokC b0 A0 c0) 45 rfl
  have g0 := s0.kept hb0
  have hsp := fun (A : Option Addr) (c : Nat) (W : World) (h : SlS W A b0.ps) => sMeaningAt_any b0 r0 A c x1 r1 W h
  have him := fun (A : Option Addr) (c : Nat) (W : World) (h : SlS W A b0.ps) (hc : b0.ps.length ≤ c) => MeaningAt_any b0 r0 A c x1 r1 W h hc
  have hM3 := maL_le b0 x1
  generalize maL b0 x1 = M at hsp him hM3
  generalize maC b0 x1 = q at hsp him
  generalize hbv0 : bok b0 A0 c0 = v0 at *
  have l0 := bokC_length b0 A0 c0
  clear r0
  go_enter Try.func12, Try.ntmps12
  rw [← hbv0]
  unfold bok
  clear hbv0
  go_wp2_with (first | (refine load_blk rfl 45 _ rfl _ rfl B0 Try.underlying45 rfl info_lb l0 ?_))
  refine (szBook_any b0 A0 c0 1048576 (by omega) _ g0).mono ?_; rintro e w1 ⟨⟨r0, rfl, hr0⟩, hw1⟩
  by_cases h0 : r0 < 0
  · have hr0' := As.mk hr0
    clear hr0
    go_wp2_with (fail)
    go_ret
    exact ⟨rfl, bl_call hb0 hw1⟩
  have z0 := szb_ok hr0 h0
  have hb1 := bl_call hb0 hw1
  replace B0 := B0.kept hw1
  replace g0 := g0.kept hw1
  have m0 : ∀ s ∈ b0.ps, s.size ≤ maxLen := fun s hs => by have := z0.2 s hs; simp only [maxLen]; omega
  clear hr0 hw1 hb0
  go_wp2_with (refine load_blk rfl 45 _ rfl _ rfl B0 Try.underlying45 rfl info_lb l0 ?_)
  refine (tob_any b0 A0 c0 _ g0 z0.1).mono ?_; rintro e w2 ⟨v, rfl, ⟨Aa, ca, rfl, Oa⟩, hb⟩
  have hb2 := bl_call hb1 hb
  replace B0 := B0.kept hb
  replace g0 := g0.kept hb
  clear hb hb1
  go_wp2_with (fail)
  refine (hsp Aa ca w2 (Oa.slS' m0)).mono ?_; rintro e w3 ⟨⟨v0, rfl, O0⟩, hb⟩
  obtain ⟨B2, d2, rfl, S0⟩ := O0.sl
  have hb3 := bl_call hb2 hb
  replace B0 := B0.kept hb
  replace g0 := g0.kept hb
  have q3 := Below.refl w3.heap.size w3
  have hsz3 := hb3.size
  clear hb hb2 hsp Oa O0
  go_wp2_with (refine load_blk rfl 45 _ rfl _ rfl B0 Try.underlying45 rfl info_lb l0 ?_)
  refine (tob_any b0 A0 c0 _ g0 z0.1).mono ?_; rintro e w6 ⟨v, rfl, ⟨Aa, ca, rfl, Oa⟩, hb⟩
  have q6 := bl_call q3 hb
  have X0 : Blk (w6.alloc (.cells #[.int .i8 0, .int .i8 0, .int .i8 0, .slice none 0 0] 48)) w6.heap.size [.int .i8 0, .int .i8 0, .int .i8 0, .slice none 0 0] 48 := Blk.mk _ [_, _, _, _] _ rfl
  have la := bokC_length b0 Aa ca
  have Ba := X0.setRow (bokC b0 Aa ca)
  have hbq : Below w6.heap.size w6 (((w6).alloc (.cells #[.int .i8 0, .int .i8 0, .int .i8 0, .slice none 0 0] 48)).setRow (w6).heap.size (bokC b0 Aa ca).toArray) := bl_setRow (bl_new (Below.refl _ w6) _) (Nat.le_refl _) _
  have q7 := bl_call q6 hbq
  replace Oa := Oa.kept hbq
  unfold bok
  go_wp2_with (first | (refine store_blk rfl 48 _ _ rfl _ rfl (ds := bokC b0 Aa ca) rfl X0 info_ib la rfl (bokC_one _ _ _) ?_) | (refine load_blk rfl 48 _ rfl _ rfl Ba Try.underlying48 rfl info_ib la ?_))
  generalize (((w6).alloc (.cells #[.int .i8 0, .int .i8 0, .int .i8 0, .slice none 0 0] 48)).setRow (w6).heap.size (bokC b0 Aa ca).toArray) = w7 at *
  generalize w6.heap.size = L7 at *
  clear X0 hbq hb q6
  refine (him Aa ca w7 (Oa.slS' m0) (by have := Oa.cap; rw [strs_length] at this; exact this)).mono ?_; rintro e w10 ⟨⟨v1, rfl, O1⟩, hb⟩
  have q10 := bl_call q7 hb
  replace Ba := Ba.kept hb
  replace Oa := Oa.kept hb
  have O1 := O1.lower q7.size
  obtain ⟨B3, d3, rfl, S1⟩ := O1.sl
  clear hb S1
  go_wp2_with (fail)
  refine (eqMeaning_any M M _ _ _ _ w10 O1.sl' (S0.kept q10)).mono ?_; rintro e w11 ⟨rfl, hb⟩
  have q11 := bl_call q10 hb
  replace Ba := Ba.kept hb
  replace Oa := Oa.kept hb
  replace O1 := O1.kept hb
  rw [decide_eq_true rfl]
  clear hb
  go_wp2_with (fail)
  have D1 : Blk w11.drew L7 (bokC b0 Aa ca) 48 := Ba
  have D2 : Blk w11.drew (w.heap.size) (bokC b0 A0 c0) 45 := B0.kept q11.drew
  have D3 : SlS w11.drew A0 b0.ps := g0.kept q11.drew
  have D4 : Own w11.drew w3.heap.size 9 (.slice Aa b0.ps.length ca) (strs b0.ps) := Oa
  refine wp_region_held_drew (S := (Below w11.drew.heap.size w11.drew)) (by kernel_rfl) (Below.refl w11.drew.heap.size w11.drew) (fun hHeld => ?_)
  (refine hTake 0 45 rfl rfl (by kernel_rfl) (by kernel_rfl) (by kernel_rfl) (fun _ _ _ h => h) (yieldsIf_load_mid (by rfl) _ _ rfl _ _ rfl (bokC b0 Aa ca) _ (fun W h => (D1.kept h).range) Try.underlying48 rfl (by rw [la]; exact info_ib)) hHeld ?_; simp only [List.set_cons_zero, List.set_cons_succ])
  (refine hTake 1 46 rfl rfl (by kernel_rfl) (by kernel_rfl) (by kernel_rfl) (fun _ _ _ h => h) (yieldsIf_load_mid (by rfl) _ _ rfl _ _ rfl (bokC b0 A0 c0) _ (fun W h => (D2.kept h).range) Try.underlying45 rfl (by rw [l0]; exact info_lb)) hHeld ?_; simp only [List.set_cons_zero, List.set_cons_succ])
  clear hHeld
  refine wpAnyH_ready (rs := [2]) (by kernel_rfl) (by simp) ?_
  refine kCallE 2 47 33 rfl rfl (args := #[.agg (bokC b0 A0 c0).toArray]) (by rfl) (by go_simp) (R := fun v w' => Tob b0 w11.drew.heap.size v w' ∧ Below w11.drew.heap.size w11.drew w') (tob_any b0 A0 c0 _ D3 z0.1) (fun v y1 hR => ⟨hR.2, ?_⟩) AllReadyH.nil
  obtain ⟨⟨Ac, cc, rfl, Oc⟩, hz1⟩ := hR
  replace D4 := D4.kept hz1
  simp only [List.set_cons_zero, List.set_cons_succ]
  refine wpAnyH_ready (rs := [3]) (by kernel_rfl) (by simp) ?_
  refine kCallE 3 48 35 rfl rfl (args := #[.agg (bokC b0 Aa ca).toArray, .agg (bokC b0 Ac cc).toArray]) (by rfl) (by first | (go_simp; done) | (go_simp; rfl) | (go_simp; exact ⟨rfl, rfl⟩)) (R := fun v w' => v = .bool true ∧ Below y1.heap.size y1 w') ((eqBook_any b0 b0 Aa Ac ca cc _ (D4.slS' m0) (Oc.slS' m0)).mono (fun e w' h => ⟨_, h.1, by simp, h.2⟩)) (fun v y2 hR => ⟨bl_call hz1 hR.2, ?_⟩) AllReadyH.nil
  obtain ⟨rfl, hz6⟩ := hR
  have hz7 := bl_call hz1 hz6
  simp only [List.set_cons_zero, List.set_cons_succ]
  refine wpAnyH_ready (rs := [4]) (by kernel_rfl) (by simp) ?_
  refine kVal 4 49 rfl rfl (by rfl) (v := .bool false) (by rfl) hz7 ?_ AllReadyH.nil
  simp only [List.set_cons_zero, List.set_cons_succ]
  refine wpAnyH_done (by kernel_rfl) ?_ _
  have q12 := bl_call q11.drew hz7
  have hz8 : Below w11.heap.size w11 y2 := bl_call (Below.refl _ w11).drew hz7
  replace Ba := Ba.kept hz8
  replace Oa := Oa.kept hz8
  replace O1 := O1.kept hz8
  clear D1 D2 D3 D4 Oc hz1 hz6 hz7 hz8 q11 q10 q7
  generalize y2 = w12 at *
  go_wp2_with (refine load_blk rfl 48 _ rfl _ rfl Ba Try.underlying48 rfl info_ib la ?_)
  refine (markBook_any b0 Aa ca z0.1 _ w12 Oa).mono ?_; rintro e w13 ⟨rfl, hg⟩
  have q13 := bl_grown q12 q12.size Oa hg (Nat.le_refl _)
  replace O1 := O1.grown hg (Ap.of_typ O1 Oa (by decide)).ne
  have hnn : ¬ ((1 : Int) + (b0.ps.length : Int) < 0) := by omega
  clear hg Oa Ba q12
  generalize b0.ps.length = N0 at hnn ⊢
  go_wp2_with (fail)
  refine (eqMeaning_any M M _ _ _ _ w13 O1.sl' (S0.kept q13)).mono ?_; rintro e w14 ⟨rfl, hb⟩
  have q14 := bl_call q13 hb
  replace O1 := O1.kept hb
  rw [decide_eq_true rfl]
  clear hb q13
  go_wp2_with (fail)
  refine (markMeaning_any M _ _ 1 (by omega) (by omega) w14 O1).mono ?_; rintro e w15 ⟨rfl, MM, hg⟩
  have q15 := bl_grown q14 q14.size O1 hg (Nat.le_refl _)
  clear hg O1 q14
  have hmm : ¬ ((1 : Int) + (M.length : Int) < 0) := by omega
  have hM3' : (M.length : Int) ≤ 3 := by omega
  go_wp2_with (fail)
  refine (heldMeaning_any _ _ _ 1 (by omega) (by omega) w15 MM.slN).mono ?_; rintro e w16 ⟨rfl, hb⟩
  have q16 := bl_call q15 hb
  replace MM := MM.kept hb
  have B0k := B0.kept q16
  clear hb q15
  go_wp2_with (refine load_blk rfl 45 _ rfl _ rfl B0k Try.underlying45 rfl info_lb l0 ?_)
  refine (tob_any b0 A0 c0 _ (g0.kept q16) z0.1).mono ?_; rintro e w17 ⟨v, rfl, ⟨Ad, cd, rfl, Od⟩, hb⟩
  have q17 := bl_call q16 hb
  replace MM := MM.kept hb
  clear hb q16 B0k
  go_wp2_with (fail)
  refine (him Ad cd w17 (Od.slS' m0) (by have := Od.cap; rw [strs_length] at this; exact this)).mono ?_; rintro e w18 ⟨⟨v2, rfl, O2⟩, hb⟩
  have q18 := bl_call q17 hb
  replace MM := MM.kept hb
  obtain ⟨B4, d4, rfl, S2⟩ := O2.sl
  clear hb q17 Od him
  go_wp2_with (fail)
  refine (eqMeaning_any M M _ _ _ _ w18 S2 (S0.kept q18)).mono ?_; rintro e w19 ⟨rfl, hb⟩
  have q19 := bl_call q18 hb
  replace MM := MM.kept hb
  rw [decide_eq_true rfl]
  clear hb q18
  go_wp2_with (fail)
  refine (heldMeaning_any _ _ _ 1 (by omega) (by omega) w19 MM.slN).mono ?_; rintro e w20 ⟨rfl, hb⟩
  have q20 := bl_call q19 hb
  go_wp2_with (fail)
  go_ret
  exact ⟨by simp, bl_call hb3 q20⟩
end Go.Proofs.Ytnokdbnlagoidaa
