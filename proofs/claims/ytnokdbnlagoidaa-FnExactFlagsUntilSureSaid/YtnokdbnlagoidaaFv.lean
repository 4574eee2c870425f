/- Contracts: FlagsUntilSure (both sides). -/
import Derived.Test.YtnokdbnlagoidaaFu
set_option linter.unusedVariables false
namespace Go.Proofs.Ytnokdbnlagoidaa
open Go.RowKit

/-- The code of a book and an index. -/
def thC (b : Bok) (i : Int) : Int := if okB b then (if inR i 0 ((b.ps.length : Int) - 1) then 0 else 2) else 1
theorem thC_zero {b : Bok} {i : Int} (h : thC b i = 0) : okB b = true ∧ ∃ j : Nat, i = (j : Int) ∧ j < b.ps.length := by
  unfold thC at h
  split at h
  · rename_i h1
    split at h
    · rename_i h2
      rw [inR_iff] at h2
      exact ⟨h1, i.toNat, by omega, by omega⟩
    · omega
  · omega
set_option maxRecDepth 100000 in
set_option maxHeartbeats 1000000 in
theorem l03There_any (b : Bok) (hr : bokR b) (A : Option Addr) (c P : Nat) (i : Int) (w : World) (hB : Blk w P (bokC b A c) 48) (h : SlS w A b.ps) :
    Calls Try.prog 82 #[.pointer (some ⟨P, 0, none⟩), .int .i64 i] w fun e w' => e = .returned (.int .i64 (thC b i)) ∧ Below w.heap.size w w' := by
  have key := l03Ok_any b hr A c P w hB h
  have hD := As.mk (show thC b i = if okB b then (if inR i 0 ((b.ps.length : Int) - 1) then 0 else 2) else 1 from rfl)
  have hbig := h.1
  have hcl : ∀ W, Below w.heap.size w W → W.cell? ⟨P, 3, none⟩ = some (.slice A b.ps.length c) := fun W hW => by rw [(hB.kept hW).at]; rfl
  cases hz : okB b
  · rw [hz] at key
    have hz := As.mk hz
    clear hcl
    go_enter Try.func82, Try.ntmps82
    go_wp2_with (fail)
    refine key.mono ?_; rintro e w1 ⟨rfl, hb⟩
    go_wp2_with (fail)
    go_ret
    exact ⟨ret_n (by rw [hD.out, hz.out]; rfl), hb⟩
  rw [hz] at key
  have hz := As.mk hz
  generalize b.ps.length = n at *
  cases hi : inR i 0 ((n : Int) - 1)
  all_goals
    have hi' := As.mk hi
    go_enter Try.func82, Try.ntmps82
    go_wp2_with (fail)
    refine key.mono ?_; rintro e w1 ⟨rfl, hb⟩
    have cc := hcl w1 hb
    clear hcl
    go_wp2_with (go_at_call 59; refine (l00In_any _ _ _ _).mono ?_; rintro e w' ⟨rfl, rfl⟩)
    go_ret
    exact ⟨ret_n (by rw [hD.out, hz.out, hi'.out]; rfl), hb⟩
theorem sizeS_any (A : Option Addr) (n c : Nat) (w : World) : Calls Try.prog 100 #[.slice A n c] w fun e w' => e = .returned (.int .i64 n) ∧ w = w' := by
  go_enter Try.func100, Try.ntmps100
  go_wp2
  go_ret
  exact ⟨rfl, rfl⟩
set_option maxRecDepth 100000 in
set_option maxHeartbeats 1000000 in
theorem phraseCode_any (b : Bok) (hr : bokR b) (A : Option Addr) (c : Nat) (i : Int) (w : World) (h : SlS w A b.ps) (hc : b.ps.length ≤ c) :
    Calls Try.prog 84 #[bok b A c, .int .i64 i] w fun e w' => e = .returned (.int .i64 (thC b i)) ∧ Below w.heap.size w w' := by
  have bb := bl_new (Below.refl _ w) (.cells (bokC b A c).toArray 48)
  have B0 := Blk.mk w (bokC b A c) 48 rfl
  have g0 := h.kept bb
  have key := ValidBook_any b hr A c _ g0 hc
  have hD := As.mk (show thC b i = if okB b then (if inR i 0 ((b.ps.length : Int) - 1) then 0 else 2) else 1 from rfl)
  have hbig := h.1
  have lb := bokC_length b A c
  have c3 : ∀ W, Blk W w.heap.size (bokC b A c) 48 → W.cell? ⟨w.heap.size, 3, none⟩ = some (.slice A b.ps.length c) := fun W hW => by rw [hW.at]; rfl
  unfold bok
  unfold bok at key
  generalize bokC b A c = cs at *
  cases hz : okB b
  · rw [hz] at key
    have hz := As.mk hz
    clear c3
    go_enter Try.func84, Try.ntmps84
    go_wp2_with (refine load_blk rfl 48 _ rfl _ rfl B0 Try.underlying48 rfl info_ib lb ?_)
    refine key.mono ?_; rintro e w1 ⟨rfl, hb⟩
    go_wp2_with (fail)
    go_ret
    exact ⟨ret_n (by rw [hD.out, hz.out]; rfl), bl_call bb hb⟩
  rw [hz] at key
  have hz := As.mk hz
  generalize b.ps.length = n at *
  cases hi : inR i 0 ((n : Int) - 1)
  all_goals
    have hi' := As.mk hi
    go_enter Try.func84, Try.ntmps84
    go_wp2_with (refine load_blk rfl 48 _ rfl _ rfl B0 Try.underlying48 rfl info_ib lb ?_)
    refine key.mono ?_; rintro e w1 ⟨rfl, hb⟩
    have cc := c3 w1 (B0.kept hb)
    clear c3
    go_wp2_with (first | (go_at_call 61; refine (within_any _ _ _ _).mono ?_; rintro e w' ⟨rfl, rfl⟩) | (go_at_call 100; refine (sizeS_any _ _ _ _).mono ?_; rintro e w' ⟨rfl, rfl⟩) | (go_at_call 89; refine (unless_any _ _ _).mono ?_; rintro e w' ⟨rfl, rfl⟩))
    go_ret
    exact ⟨ret_n (by rw [hD.out, hz.out, hi'.out]; rfl), bl_call bb hb⟩

/-- Whether j + 1 flags make the meaning sure. -/
def sure (ms : List (List Int)) (m : List Int) (N j : Nat) : Bool := (comps ms (m.take (j + 1)) N).length == 1
/-- After how many flags a meaning is sure. -/
def sureN (ms : List (List Int)) (m : List Int) (N : Nat) : Int := if firstIdx (sure ms m N) m.length 0 < 0 then (m.length : Int) + 1 else firstIdx (sure ms m N) m.length 0 + 1
theorem sureN_hit {ms : List (List Int)} {m : List Int} {N k : Nat} (hk : k < m.length) (h : ∀ j, j < k → sure ms m N j = false) (he : sure ms m N k = true) : sureN ms m N = (k : Int) + 1 := by
  unfold sureN
  rw [firstIdx_hit _ m.length 0 k hk (by simpa using h) (by simpa using he)]
  simp
  omega
theorem sureN_miss {ms : List (List Int)} {m : List Int} {N : Nat} (h : ∀ j, j < m.length → sure ms m N j = false) : sureN ms m N = (m.length : Int) + 1 := by
  unfold sureN
  rw [firstIdx_miss _ m.length 0 (by simpa using h)]
  simp
def fusN (b : Bok) (i : Int) : Int := if thC b i = 0 then sureN (outB b) (nthL (outB b) i.toNat) b.ps.length else 0

set_option maxRecDepth 100000 in
set_option maxHeartbeats 4000000 in
theorem sFlagsUntilSure_any (b : Bok) (hr : bokR b) (A : Option Addr) (c : Nat) (i : Int) (ri : -9223372036854775808 ≤ i ∧ i ≤ 9223372036854775807) (w : World) (h : SlS w A b.ps) :
    Calls Try.prog 50 #[bok b A c, .int .i64 i] w fun e w' => e = .returned (.tuple #[.int .i64 (fusN b i), .int .i64 (thC b i)]) ∧ Below w.heap.size w w' := by
  have bb := bl_new (Below.refl _ w) (.cells (bokC b A c).toArray 48)
  have B0 := Blk.mk w (bokC b A c) 48 rfl
  have g0 := h.kept bb
  have key := l03There_any b hr A c _ i _ B0 g0
  have hN := As.mk (show fusN b i = if thC b i = 0 then sureN (outB b) (nthL (outB b) i.toNat) b.ps.length else 0 from rfl)
  unfold bok
  by_cases hu : thC b i = 0
  case neg =>
    have hne : (thC b i != 0) = true := by rw [bne_iff_ne]; exact hu
    have hN2 := As.mk (show fusN b i = 0 by rw [hN.out, if_neg hu])
    clear hN hu
    generalize thC b i = q at *
    generalize bokC b A c = cs at *
    go_enter Try.func50, Try.ntmps50
    go_wp2_with (fail)
    refine key.mono ?_; rintro e w1 ⟨rfl, hb⟩
    go_wp2_with (fail)
    go_ret2
    exact ⟨ret_2 hN2.out.symm rfl, bl_call bb hb⟩
  obtain ⟨hok, j, rfl, hj⟩ := thC_zero hu
  obtain ⟨hz, hl100, hlm⟩ := okB_parts hok
  have mns := fun W hb => sMeanings_any b hz A c w.heap.size W hb
  have hmem := outB_mem hz
  have hm3 : ∀ k, k < (outB b).length → (nthL (outB b) k).length ≤ 3 := fun k hk => (hmem _ (nthL_mem _ k hk)).2.1
  have hm33 := hm3 j (by omega)
  have hN2 := As.mk (show fusN b (j : Int) = sureN (outB b) (nthL (outB b) j) b.ps.length by rw [hN.out, if_pos hu]; rfl)
  clear hN
  have hole := outB_le hz
  rw [hu] at key ⊢
  clear hu hok hz hmem hr
  have cmp := fun (A2 : Option Addr) (ln c2 base : Nat) hln hnl hm x nx hx (A1 : Option Addr) (c1 : Nat) W hB hM h1 => l03Completions_any b A c w.heap.size (outB b) A2 ln c2 base hln hl100 hnl hm x nx hx A1 c1 W hB hM h1
  generalize outB b = ms at *
  generalize bokC b A c = cs at *
  generalize b.ps.length = N at *
  have hjl : j < ms.length := by omega
  go_enter Try.func50, Try.ntmps50
  go_wp2_with (fail)
  refine key.mono ?_; rintro e w1 ⟨rfl, hb⟩
  have B1 := B0.kept hb
  have m1 := mns w1 B1
  clear mns
  go_wp2_with (fail)
  refine m1.mono ?_; rintro e w2 ⟨⟨v, rfl, hM⟩, hb2⟩
  obtain ⟨A2, c2, rfl⟩ := hM.slice
  obtain ⟨G, g, c', hA2, cm, hI⟩ := hM.at j hjl
  subst hA2
  have hbf := bl_call (bl_call bb hb) hb2
  have B2 := B1.kept hb2
  have hcap := hI.cap
  rw [i8s_length] at hcap
  have cmp1 := cmp (some ⟨G, 0, none⟩) ms.length c2 w1.heap.size rfl hlm hm3
  generalize hln : ms.length = ln at *
  have hln := As.mk hln
  have hole' : (ln : Int) ≤ 3000 := by omega
  have hjl' : (j : Int) < (ln : Int) := by omega
  have hm3 := As.mk hm3
  generalize hnm : nthL ms j = m at *
  have hnm := As.mk hnm
  generalize hml : m.length = nm at *
  have hml := As.mk hml
  have hm33' : (nm : Int) ≤ 3 := by omega
  clear cmp hb hb2 key g0 bb B0 B1 m1
  go_wp2_with (fail)
  go_loopw [9] (fun t wr => ∃ k : Nat, k ≤ nm ∧ t = .int .i64 ((k : Int) + 1) ∧ Below w2.heap.size w2 wr ∧ As (∀ j, j < k → sure ms m N j = false)) (fun t _ => 5 - (intOf t).toNat)
  case atStart => exact ⟨0, by omega, rfl, Below.refl _ _, ⟨fun j hj => by omega⟩⟩
  case round =>
    obtain ⟨k, hk, rfl, hbr, H⟩ := hrel
    by_cases hlt : k < nm
    · have hle : (k : Int) + 1 ≤ (nm : Int) := by omega
      have hkc : (k : Int) + 1 ≤ (c' : Int) := by omega
      have hIr := hI.kept hbr
      have hcp := cmp1 (m.take (k + 1)) (k + 1) (by rw [List.length_take, hml.out]; omega) (some ⟨g, 0, none⟩)
      have hcp := fun c1 => hcp c1 wr (B2.kept hbr) (hM.kept hbr) ((hIr.sl').take (k + 1))
      have hsr := As.mk (show sure ms m N k = ((comps ms (m.take (k + 1)) N).length == 1) from rfl)
      have hcl := comps_len ms (m.take (k + 1)) N
      generalize comps ms (m.take (k + 1)) N = zs at *
      have hzl := i64s_length zs
      clear hIr
      have hcl' : (zs.length : Int) ≤ 100 := by omega
      go_wp2_with (fail)
      refine (hcp _).mono ?_; rintro e w3 ⟨⟨u, rfl, hO⟩, hb3⟩
      obtain ⟨A3, c3, rfl⟩ := hO.slice
      rw [hzl]
      replace hbr := bl_call hbr hb3
      clear hcp hO hb3
      generalize zs.length = zl at *
      by_cases h1 : zl = 1
      · subst h1
        have hs := As.mk (sureN_hit (by rw [hml.out]; exact hlt) H.out (by rw [hsr.out]; rfl))
        go_wp2_with (fail)
        go_ret2
        exact ⟨ret_2 (by rw [hN2.out, hs.out]) rfl, bl_call hbf hbr⟩
      · have hne : ((zl : Int) == 1) = false := by rw [beq_eq_false_iff_ne]; omega
        have hf := As.mk (show sure ms m N k = false by rw [hsr.out, beq_eq_false_iff_ne]; exact h1)
        go_wp2_with (fail)
        go_roundw
        case rel => exact ⟨k + 1, by omega, by go_num, hbr, ⟨all_succ H.out hf.out⟩⟩
        case measure => simp [intOf]; omega
    · obtain rfl : k = nm := by omega
      have hs := As.mk (sureN_miss (ms := ms) (m := m) (N := N) (by rw [hml.out]; exact H.out))
      go_wp2_with (fail)
      go_ret2
      exact ⟨ret_2 (by rw [hN2.out, hs.out, hml.out]) rfl, bl_call hbf hbr⟩

set_option maxRecDepth 100000 in
set_option maxHeartbeats 4000000 in
theorem FlagsUntilSure_any (b : Bok) (hr : bokR b) (A : Option Addr) (c : Nat) (i : Int) (ri : -9223372036854775808 ≤ i ∧ i ≤ 9223372036854775807) (w : World) (h : SlS w A b.ps) (hc : b.ps.length ≤ c) :
    Calls Try.prog 51 #[bok b A c, .int .i64 i] w fun e w' => e = .returned (.tuple #[.int .i64 (fusN b i), .int .i64 (thC b i)]) ∧ Below w.heap.size w w' := by
  have bb := bl_new (Below.refl _ w) (.cells (bokC b A c).toArray 48)
  have B0 := Blk.mk w (bokC b A c) 48 rfl
  have g0 := h.kept bb
  have key := phraseCode_any b hr A c i _ g0 hc
  have hN := As.mk (show fusN b i = if thC b i = 0 then sureN (outB b) (nthL (outB b) i.toNat) b.ps.length else 0 from rfl)
  have lb := bokC_length b A c
  unfold bok
  unfold bok at key
  by_cases hu : thC b i = 0
  case neg =>
    have hne : (thC b i != 0) = true := by rw [bne_iff_ne]; exact hu
    have hN2 := As.mk (show fusN b i = 0 by rw [hN.out, if_neg hu])
    clear hN hu
    generalize thC b i = q at *
    generalize bokC b A c = cs at *
    go_enter Try.func51, Try.ntmps51
    go_wp2_with (refine load_blk rfl 48 _ rfl _ rfl B0 Try.underlying48 rfl info_ib lb ?_)
    refine key.mono ?_; rintro e w1 ⟨rfl, hb⟩
    go_wp2_with (fail)
    go_ret2
    exact ⟨ret_2 hN2.out.symm rfl, bl_call bb hb⟩
  obtain ⟨hok, j, rfl, hj⟩ := thC_zero hu
  obtain ⟨hz, hl100, hlm⟩ := okB_parts hok
  have mns := fun W => iMeanings_any b hz A c W
  have hmem := outB_mem hz
  have hm3 : ∀ k, k < (outB b).length → (nthL (outB b) k).length ≤ 3 := fun k hk => (hmem _ (nthL_mem _ k hk)).2.1
  have hm33 := hm3 j (by omega)
  have hN2 := As.mk (show fusN b (j : Int) = sureN (outB b) (nthL (outB b) j) b.ps.length by rw [hN.out, if_pos hu]; rfl)
  clear hN
  have hole := outB_le hz
  rw [hu] at key ⊢
  have cmp := fun x nx hx (A1 : Option Addr) (c1 : Nat) W h1 => completions_any b hz A c hl100 hlm x nx hx A1 c1 W h1
  unfold bok at mns cmp
  clear hu hok hz hmem hr
  generalize outB b = ms at *
  generalize bokC b A c = cs at *
  generalize b.ps.length = N at *
  have hjl : j < ms.length := by omega
  go_enter Try.func51, Try.ntmps51
  go_wp2_with (refine load_blk rfl 48 _ rfl _ rfl B0 Try.underlying48 rfl info_ib lb ?_)
  refine key.mono ?_; rintro e w1 ⟨rfl, hb⟩
  have B1 := B0.kept hb
  go_wp2_with (refine load_blk rfl 48 _ rfl _ rfl B1 Try.underlying48 rfl info_ib lb ?_)
  refine (mns _).mono ?_; rintro e w2 ⟨⟨v, rfl, hM⟩, hb2⟩
  obtain ⟨A2, c2, rfl⟩ := hM.slice
  obtain ⟨G, g, c', hA2, cm, hI⟩ := hM.at j hjl
  subst hA2
  have hbf := bl_call (bl_call bb hb) hb2
  have B2 := B1.kept hb2
  have hcap := hI.cap
  rw [i8s_length] at hcap
  generalize hln : ms.length = ln at *
  have hln := As.mk hln
  have hole' : (ln : Int) ≤ 3000 := by omega
  have hjl' : (j : Int) < (ln : Int) := by omega
  generalize hnm : nthL ms j = m at *
  have hnm := As.mk hnm
  generalize hml : m.length = nm at *
  have hml := As.mk hml
  have hm33' : (nm : Int) ≤ 3 := by omega
  clear hb hb2 key g0 bb B0 B1 mns hm3
  go_wp2_with (fail)
  go_loopw [8] (fun t wr => ∃ k : Nat, k ≤ nm ∧ t = .int .i64 ((k : Int) + 1) ∧ Below w2.heap.size w2 wr ∧ As (∀ j, j < k → sure ms m N j = false)) (fun t _ => 5 - (intOf t).toNat)
  case atStart => exact ⟨0, by omega, rfl, Below.refl _ _, ⟨fun j hj => by omega⟩⟩
  case round =>
    obtain ⟨k, hk, rfl, hbr, H⟩ := hrel
    by_cases hlt : k < nm
    · have hle : (k : Int) + 1 ≤ (nm : Int) := by omega
      have hkc : (k : Int) + 1 ≤ (c' : Int) := by omega
      have hIr := hI.kept hbr
      have hcp := cmp (m.take (k + 1)) (k + 1) (by rw [List.length_take, hml.out]; omega) (some ⟨g, 0, none⟩)
      have hslr := (hIr.sl').take (k + 1)
      have hsr := As.mk (show sure ms m N k = ((comps ms (m.take (k + 1)) N).length == 1) from rfl)
      have hcl := comps_len ms (m.take (k + 1)) N
      generalize comps ms (m.take (k + 1)) N = zs at *
      have hzl := i64s_length zs
      have Br := B2.kept hbr
      clear hIr
      have hcl' : (zs.length : Int) ≤ 100 := by omega
      go_wp2_with (fail)
      have Bd : Blk wr.drew w.heap.size cs 48 := Br
      have Sd : Sl .i8 wr.drew (some ⟨g, 0, none⟩) (m.take (k + 1)) := hslr
      refine wp_region_held_drew (S := (Below wr.drew.heap.size wr.drew)) (by kernel_rfl) (Below.refl wr.drew.heap.size wr.drew) (fun hHeld => ?_)
      (refine hTake 0 26 rfl rfl (by kernel_rfl) (by kernel_rfl) (by kernel_rfl) (fun _ _ _ h => h) (yieldsIf_load_mid (by rfl) _ _ rfl _ _ rfl cs _ (fun W h => (Bd.kept h).range) Try.underlying48 rfl (by rw [lb]; exact info_ib)) hHeld ?_; simp only [List.set_cons_zero, List.set_cons_succ])
      (refine hTake 1 27 (v := .slice (some ⟨g, 0, none⟩) nm c') rfl rfl (by kernel_rfl) (by kernel_rfl) (by kernel_rfl) (fun _ _ _ h => h) (Or.inl ⟨by rfl, fun W h => by go_simp⟩) hHeld ?_; simp only [List.set_cons_zero, List.set_cons_succ])
      (refine hTake 2 28 (v := .int .i64 ((k : Int) + 1)) rfl rfl (by kernel_rfl) (by kernel_rfl) (by kernel_rfl) (fun _ _ _ h => h) (Or.inl ⟨by rfl, fun W h => by go_simp⟩) hHeld ?_; simp only [List.set_cons_zero, List.set_cons_succ])
      have hk0 : ¬ ((k : Int) + 1 < 0) := by omega
      have hkn : ((k : Int) + 1).toNat = k + 1 := by omega
      (refine hTake 3 29 (v := .slice (some ⟨g, 0, none⟩) (k + 1) c') rfl rfl (by kernel_rfl) (by kernel_rfl) (by kernel_rfl) (fun _ _ _ h => h) (Or.inl ⟨by rfl, fun W h => by (go_simp; try simp [hk0, hkn]; try rfl)⟩) hHeld ?_; simp only [List.set_cons_zero, List.set_cons_succ])
      refine wpAnyH_ready (rs := [4]) (by kernel_rfl) (by simp) ?_
      refine kCallE 4 30 85 rfl rfl (args := #[.agg cs.toArray, .slice (some ⟨g, 0, none⟩) (k + 1) c']) (by rfl) (by go_simp) (R := fun v w' => Own w' wr.drew.heap.size 2 v (i64s zs) ∧ Below wr.drew.heap.size wr.drew w') ((hcp c' wr.drew Sd).mono (fun e w' h => by obtain ⟨⟨v, e1, hM⟩, hb⟩ := h; exact ⟨v, e1, hM, hb⟩)) (fun v w3 hR => ⟨bl_call hHeld hR.2, ?_⟩) AllReadyH.nil
      obtain ⟨hO, hb3⟩ := hR
      obtain ⟨A3, c3, rfl⟩ := hO.slice
      rw [hzl]
      simp only [List.set_cons_zero, List.set_cons_succ]
      replace hHeld := bl_call hHeld hb3
      have hbr3 : Below w2.heap.size w2 w3 := bl_call hbr.drew hb3
      clear hcp hO hb3 hbr Bd Sd Br hslr
      generalize zs.length = zl at *
      by_cases h1 : zl = 1
      · subst h1
        have hs := As.mk (sureN_hit (by rw [hml.out]; exact hlt) H.out (by rw [hsr.out]; rfl))
        (refine hTake 5 31 (v := .int .i64 1) rfl rfl (by kernel_rfl) (by kernel_rfl) (by kernel_rfl) (fun _ _ _ h => h) (Or.inl ⟨by rfl, fun W h => by go_simp⟩) hHeld ?_; simp only [List.set_cons_zero, List.set_cons_succ])
        (refine hTake 6 32 (v := .bool true) rfl rfl (by kernel_rfl) (by kernel_rfl) (by kernel_rfl) (fun _ _ _ h => h) (Or.inl ⟨by rfl, fun W h => by go_simp⟩) hHeld ?_; simp only [List.set_cons_zero, List.set_cons_succ])
        refine wpAnyH_done (by kernel_rfl) ?_ _
        go_wp2_with (fail)
        go_ret2
        exact ⟨ret_2 (by rw [hN2.out, hs.out]) rfl, bl_call hbf hbr3⟩
      · have hne : ((zl : Int) == 1) = false := by rw [beq_eq_false_iff_ne]; omega
        have hf := As.mk (show sure ms m N k = false by rw [hsr.out, beq_eq_false_iff_ne]; exact h1)
        (refine hTake 5 31 (v := .int .i64 zl) rfl rfl (by kernel_rfl) (by kernel_rfl) (by kernel_rfl) (fun _ _ _ h => h) (Or.inl ⟨by rfl, fun W h => by go_simp⟩) hHeld ?_; simp only [List.set_cons_zero, List.set_cons_succ])
        (refine hTake 6 32 (v := .bool false) rfl rfl (by kernel_rfl) (by kernel_rfl) (by kernel_rfl) (fun _ _ _ h => h) (Or.inl ⟨by rfl, fun W h => by go_simp⟩) hHeld ?_; simp only [List.set_cons_zero, List.set_cons_succ])
        refine wpAnyH_done (by kernel_rfl) ?_ _
        go_wp2_with (fail)
        go_roundw
        case rel => exact ⟨k + 1, by omega, by go_num, hbr3, ⟨all_succ H.out hf.out⟩⟩
        case measure => simp [intOf]; omega
    · obtain rfl : k = nm := by omega
      have hs := As.mk (sureN_miss (ms := ms) (m := m) (N := N) (by rw [hml.out]; exact H.out))
      go_wp2_with (go_at_call 63; refine (size8_any _ _ _ _).mono ?_; rintro e w' ⟨rfl, rfl⟩)
      go_ret2
      exact ⟨ret_2 (by rw [hN2.out, hs.out, hml.out]) rfl, bl_call hbf hbr⟩
end Go.Proofs.Ytnokdbnlagoidaa
