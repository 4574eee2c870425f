/- Contracts: ValidBook (impl). -/
import Derived.Test.YtnokdbnlagoidaaVa
set_option linter.unusedVariables false
namespace Go.Proofs.Ytnokdbnlagoidaa
open Go.RowKit

theorem Own.cap {w : World} {base : Nat} {e : TypeId} {A : Option Addr} {n c : Nat} {cs : List Value} (h : Own w base e (.slice A n c) cs) : cs.length ≤ c := by
  rcases h.form with ⟨hv, rfl⟩ | ⟨g, c', hv, _, _, _, _, _, hc⟩
  · simp
  · simp only [Value.slice.injEq] at hv; omega
set_option maxRecDepth 100000 in
set_option maxHeartbeats 4000000 in
theorem ValidBook_any (b : Bok) (hr : bokR b) (A : Option Addr) (c : Nat) (w : World) (h : SlS w A b.ps) (hc : b.ps.length ≤ c) :
    Calls Try.prog 39 #[bok b A c] w fun e w' => e = .returned (.bool (okB b)) ∧ Below w.heap.size w w' := by
  have bb := bl_new (Below.refl _ w) (.cells (bokC b A c).toArray 48)
  have B0 := Blk.mk w (bokC b A c) 48 rfl
  have g0 := h.kept bb
  have key := fun W => isFrame_any b hr A c W
  have hD := As.mk (show okB b = (szd b && (decide (b.ps.length ≤ 100) && ((List.range b.ps.length).all (okAt b.ps) && decide (b.ps.length ≤ (outB b).length)))) from rfl)
  have lb := bokC_length b A c
  have c3 : ∀ W, Blk W w.heap.size (bokC b A c) 48 → W.cell? ⟨w.heap.size, 3, none⟩ = some (.slice A b.ps.length c) := fun W hW => by rw [hW.at]; rfl
  have hbig := h.1
  have mns := fun hz => As.mk (fun W => iMeanings_any b hz A c W)
  have hle := fun hz => outB_le (b := b) hz
  unfold bok
  unfold bok at key mns
  have hat := As.mk (fun i hi => okB_at (b := b) i hi)
  have hall := As.mk (fun h0 h1 => okB_all (b := b) h0 h1)
  have hBO := As.mk (show ∀ cs', cs' = bokC b A c → True from fun _ _ => trivial)
  generalize hcs : bokC b A c = cs at *
  clear hBO
  generalize hm : b.ps.length = n at *
  have HM := As.mk hm
  clear hm
  have hcs := As.mk hcs
  go_enter Try.func39, Try.ntmps39
  go_wp2_with (fail)
  generalize hL0 : w.heap.size = L0 at c3 B0 ⊢
  generalize w.alloc (.cells cs.toArray 48) = W at *
  cases hz0 : szd b
  · rw [hz0] at key
    have hz := As.mk hz0
    clear mns hle hat hall hz0
    refine wp_region_held_drew (S := (Below W.heap.size W)) (by kernel_rfl) (Below.refl W.heap.size W).drew (fun hHeld => ?_)
    (refine hTake 0 5 rfl rfl (by kernel_rfl) (by kernel_rfl) (by kernel_rfl) (fun _ _ _ h => h) (yieldsIf_load_mid (by rfl) _ _ rfl _ _ rfl cs _ (fun W h => (B0.kept h).range) Try.underlying48 rfl (by rw [lb]; exact info_ib)) hHeld ?_; simp only [List.set_cons_zero, List.set_cons_succ])
    refine wpAnyH_ready (rs := [1]) (by kernel_rfl) (by simp) ?_
    refine kCallE 1 6 71 rfl rfl (args := #[.agg cs.toArray]) (by rfl) (by go_simp) (R := fun v w' => v = .bool false ∧ Below W.drew.heap.size W.drew w') ((key W.drew).mono (fun e w' h => ⟨_, h.1, rfl, h.2⟩)) (fun v w1 hR => ⟨bl_call hHeld hR.2, ?_⟩) AllReadyH.nil
    obtain ⟨rfl, hb1⟩ := hR
    replace hHeld := bl_call hHeld hb1
    simp only [List.set_cons_zero, List.set_cons_succ]
    (refine hTake 2 7 (v := .bool true) rfl rfl (by kernel_rfl) (by kernel_rfl) (by kernel_rfl) (fun _ _ _ h => h) (Or.inl ⟨by rfl, fun W h => by go_simp⟩) hHeld ?_; simp only [List.set_cons_zero, List.set_cons_succ])
    (refine hTake 3 8 (v := .bool true) rfl rfl (by kernel_rfl) (by kernel_rfl) (by kernel_rfl) (fun _ _ _ h => h) (Or.inl ⟨by rfl, fun W _ => rfl⟩) hHeld ?_; simp only [List.set_cons_zero, List.set_cons_succ])
    (refine hTake 4 9 (v := undef) rfl rfl (by kernel_rfl) (by kernel_rfl) (by kernel_rfl) (fun _ _ _ h => h) (Or.inr ⟨by rfl, rfl⟩) hHeld ?_; simp only [List.set_cons_zero, List.set_cons_succ])
    (refine hTake 5 10 (v := undef) rfl rfl (by kernel_rfl) (by kernel_rfl) (by kernel_rfl) (fun _ _ _ h => h) (Or.inr ⟨by rfl, rfl⟩) hHeld ?_; simp only [List.set_cons_zero, List.set_cons_succ])
    (refine hTake 6 11 (v := undef) rfl rfl (by kernel_rfl) (by kernel_rfl) (by kernel_rfl) (fun _ _ _ h => h) (Or.inr ⟨by rfl, rfl⟩) hHeld ?_; simp only [List.set_cons_zero, List.set_cons_succ])
    (refine hTake 7 12 (v := undef) rfl rfl (by kernel_rfl) (by kernel_rfl) (by kernel_rfl) (fun _ _ _ h => h) (Or.inr ⟨by rfl, rfl⟩) hHeld ?_; simp only [List.set_cons_zero, List.set_cons_succ])
    (refine hTake 8 13 (v := .bool true) rfl rfl (by kernel_rfl) (by kernel_rfl) (by kernel_rfl) (fun _ _ _ h => h) (Or.inl ⟨by rfl, fun W h => by go_simp⟩) hHeld ?_; simp only [List.set_cons_zero, List.set_cons_succ])
    (refine hTake 9 14 (v := .bool true) rfl rfl (by kernel_rfl) (by kernel_rfl) (by kernel_rfl) (fun _ _ _ h => h) (Or.inl ⟨by rfl, fun W _ => rfl⟩) hHeld ?_; simp only [List.set_cons_zero, List.set_cons_succ])
    (refine hTake 10 15 (v := undef) rfl rfl (by kernel_rfl) (by kernel_rfl) (by kernel_rfl) (fun _ _ _ h => h) (Or.inr ⟨by rfl, rfl⟩) hHeld ?_; simp only [List.set_cons_zero, List.set_cons_succ])
    (refine hTake 11 16 (v := undef) rfl rfl (by kernel_rfl) (by kernel_rfl) (by kernel_rfl) (fun _ _ _ h => h) (Or.inr ⟨by rfl, rfl⟩) hHeld ?_; simp only [List.set_cons_zero, List.set_cons_succ])
    (refine hTake 12 17 (v := undef) rfl rfl (by kernel_rfl) (by kernel_rfl) (by kernel_rfl) (fun _ _ _ h => h) (Or.inr ⟨by rfl, rfl⟩) hHeld ?_; simp only [List.set_cons_zero, List.set_cons_succ])
    (refine hTake 13 18 (v := undef) rfl rfl (by kernel_rfl) (by kernel_rfl) (by kernel_rfl) (fun _ _ _ h => h) (Or.inr ⟨by rfl, rfl⟩) hHeld ?_; simp only [List.set_cons_zero, List.set_cons_succ])
    (refine hSkip 14 19 rfl rfl (by kernel_rfl) (by rfl) hHeld ?_; simp only [List.set_cons_zero, List.set_cons_succ])
    (refine hTake 15 20 (v := undef) rfl rfl (by kernel_rfl) (by kernel_rfl) (by kernel_rfl) (fun _ _ _ h => h) (Or.inr ⟨by rfl, rfl⟩) hHeld ?_; simp only [List.set_cons_zero, List.set_cons_succ])
    (refine hTake 16 21 (v := undef) rfl rfl (by kernel_rfl) (by kernel_rfl) (by kernel_rfl) (fun _ _ _ h => h) (Or.inr ⟨by rfl, rfl⟩) hHeld ?_; simp only [List.set_cons_zero, List.set_cons_succ])
    (refine hTake 17 22 (v := .bool true) rfl rfl (by kernel_rfl) (by kernel_rfl) (by kernel_rfl) (fun _ _ _ h => h) (Or.inl ⟨by rfl, fun W h => by go_simp⟩) hHeld ?_; simp only [List.set_cons_zero, List.set_cons_succ])
    refine wpAnyH_done (by kernel_rfl) ?_ _
    go_wp2_with (fail)
    go_ret
    exact ⟨ret_b (by rw [hD.out, hz.out]; rfl), bl_call bb hHeld⟩
  rw [hz0] at key
  have hz := As.mk hz0
  replace mns := (mns hz0).out
  replace hle := hle hz0
  clear hz0
  by_cases hn : n ≤ 100
  case neg =>
    have hn' : (100 : Int) < (n : Int) := by omega
    have hn0 := As.mk (show ¬ n ≤ 100 from hn)
    clear mns hle hat hall hn
    refine wp_region_held_drew (S := (Below W.heap.size W)) (by kernel_rfl) (Below.refl W.heap.size W).drew (fun hHeld => ?_)
    (refine hTake 0 5 rfl rfl (by kernel_rfl) (by kernel_rfl) (by kernel_rfl) (fun _ _ _ h => h) (yieldsIf_load_mid (by rfl) _ _ rfl _ _ rfl cs _ (fun W h => (B0.kept h).range) Try.underlying48 rfl (by rw [lb]; exact info_ib)) hHeld ?_; simp only [List.set_cons_zero, List.set_cons_succ])
    refine wpAnyH_ready (rs := [1]) (by kernel_rfl) (by simp) ?_
    refine kCallE 1 6 71 rfl rfl (args := #[.agg cs.toArray]) (by rfl) (by go_simp) (R := fun v w' => v = .bool true ∧ Below W.drew.heap.size W.drew w') ((key W.drew).mono (fun e w' h => ⟨_, h.1, rfl, h.2⟩)) (fun v w1 hR => ⟨bl_call hHeld hR.2, ?_⟩) AllReadyH.nil
    obtain ⟨rfl, hb1⟩ := hR
    replace hHeld := bl_call hHeld hb1
    simp only [List.set_cons_zero, List.set_cons_succ]
    (refine hTake 2 7 (v := .bool false) rfl rfl (by kernel_rfl) (by kernel_rfl) (by kernel_rfl) (fun _ _ _ h => h) (Or.inl ⟨by rfl, fun W h => by go_simp⟩) hHeld ?_; simp only [List.set_cons_zero, List.set_cons_succ])
    (refine hTake 3 8 (v := .bool false) rfl rfl (by kernel_rfl) (by kernel_rfl) (by kernel_rfl) (fun _ _ _ h => h) (Or.inl ⟨by rfl, fun W _ => rfl⟩) hHeld ?_; simp only [List.set_cons_zero, List.set_cons_succ])
    (refine hTake 4 9 (v := .pointer (some ⟨L0, 3, none⟩)) rfl rfl (by kernel_rfl) (by kernel_rfl) (by kernel_rfl) (fun _ _ _ h => h) (Or.inl ⟨by rfl, fun W h => by go_simp⟩) hHeld ?_; simp only [List.set_cons_zero, List.set_cons_succ])
    (refine hTake 5 10 (v := .slice A n c) rfl rfl (by kernel_rfl) (by kernel_rfl) (by kernel_rfl) (fun _ _ _ h => h) (Or.inl ⟨by rfl, fun W h => by (have h1 := c3 _ (B0.kept h); clear h c3; go_simp)⟩) hHeld ?_; simp only [List.set_cons_zero, List.set_cons_succ])
    (refine hTake 6 11 (v := .int .i64 n) rfl rfl (by kernel_rfl) (by kernel_rfl) (by kernel_rfl) (fun _ _ _ h => h) (Or.inl ⟨by rfl, fun W h => by go_simp⟩) hHeld ?_; simp only [List.set_cons_zero, List.set_cons_succ])
    (refine hTake 7 12 (v := .bool true) rfl rfl (by kernel_rfl) (by kernel_rfl) (by kernel_rfl) (fun _ _ _ h => h) (Or.inl ⟨by rfl, fun W h => by go_simp⟩) hHeld ?_; simp only [List.set_cons_zero, List.set_cons_succ])
    (refine hTake 8 13 (v := .bool true) rfl rfl (by kernel_rfl) (by kernel_rfl) (by kernel_rfl) (fun _ _ _ h => h) (Or.inl ⟨by rfl, fun W h => by go_simp⟩) hHeld ?_; simp only [List.set_cons_zero, List.set_cons_succ])
    (refine hTake 9 14 (v := .bool true) rfl rfl (by kernel_rfl) (by kernel_rfl) (by kernel_rfl) (fun _ _ _ h => h) (Or.inl ⟨by rfl, fun W _ => rfl⟩) hHeld ?_; simp only [List.set_cons_zero, List.set_cons_succ])
    (refine hTake 10 15 (v := undef) rfl rfl (by kernel_rfl) (by kernel_rfl) (by kernel_rfl) (fun _ _ _ h => h) (Or.inr ⟨by rfl, rfl⟩) hHeld ?_; simp only [List.set_cons_zero, List.set_cons_succ])
    (refine hTake 11 16 (v := undef) rfl rfl (by kernel_rfl) (by kernel_rfl) (by kernel_rfl) (fun _ _ _ h => h) (Or.inr ⟨by rfl, rfl⟩) hHeld ?_; simp only [List.set_cons_zero, List.set_cons_succ])
    (refine hTake 12 17 (v := undef) rfl rfl (by kernel_rfl) (by kernel_rfl) (by kernel_rfl) (fun _ _ _ h => h) (Or.inr ⟨by rfl, rfl⟩) hHeld ?_; simp only [List.set_cons_zero, List.set_cons_succ])
    (refine hTake 13 18 (v := undef) rfl rfl (by kernel_rfl) (by kernel_rfl) (by kernel_rfl) (fun _ _ _ h => h) (Or.inr ⟨by rfl, rfl⟩) hHeld ?_; simp only [List.set_cons_zero, List.set_cons_succ])
    (refine hSkip 14 19 rfl rfl (by kernel_rfl) (by rfl) hHeld ?_; simp only [List.set_cons_zero, List.set_cons_succ])
    (refine hTake 15 20 (v := undef) rfl rfl (by kernel_rfl) (by kernel_rfl) (by kernel_rfl) (fun _ _ _ h => h) (Or.inr ⟨by rfl, rfl⟩) hHeld ?_; simp only [List.set_cons_zero, List.set_cons_succ])
    (refine hTake 16 21 (v := undef) rfl rfl (by kernel_rfl) (by kernel_rfl) (by kernel_rfl) (fun _ _ _ h => h) (Or.inr ⟨by rfl, rfl⟩) hHeld ?_; simp only [List.set_cons_zero, List.set_cons_succ])
    (refine hTake 17 22 (v := .bool true) rfl rfl (by kernel_rfl) (by kernel_rfl) (by kernel_rfl) (fun _ _ _ h => h) (Or.inl ⟨by rfl, fun W h => by go_simp⟩) hHeld ?_; simp only [List.set_cons_zero, List.set_cons_succ])
    refine wpAnyH_done (by kernel_rfl) ?_ _
    go_wp2_with (fail)
    go_ret
    exact ⟨ret_b (by rw [hD.out, hz.out, decide_eq_false hn0.out]; rfl), bl_call bb hHeld⟩
  have hn' : (n : Int) ≤ 100 := by omega
  have hall := As.mk (hall.out hz.out hn)
  have hLn := As.mk (show ∀ x, x = (outB b).length → x = (outB b).length from fun _ h => h)
  refine wp_region_held_drew (S := (Below W.heap.size W)) (by kernel_rfl) (Below.refl W.heap.size W).drew (fun hHeld => ?_)
  (refine hTake 0 5 rfl rfl (by kernel_rfl) (by kernel_rfl) (by kernel_rfl) (fun _ _ _ h => h) (yieldsIf_load_mid (by rfl) _ _ rfl _ _ rfl cs _ (fun W h => (B0.kept h).range) Try.underlying48 rfl (by rw [lb]; exact info_ib)) hHeld ?_; simp only [List.set_cons_zero, List.set_cons_succ])
  refine wpAnyH_ready (rs := [1]) (by kernel_rfl) (by simp) ?_
  refine kCallE 1 6 71 rfl rfl (args := #[.agg cs.toArray]) (by rfl) (by go_simp) (R := fun v w' => v = .bool true ∧ Below W.drew.heap.size W.drew w') ((key W.drew).mono (fun e w' h => ⟨_, h.1, rfl, h.2⟩)) (fun v w1 hR => ⟨bl_call hHeld hR.2, ?_⟩) AllReadyH.nil
  obtain ⟨rfl, hb1⟩ := hR
  replace hHeld := bl_call hHeld hb1
  simp only [List.set_cons_zero, List.set_cons_succ]
  (refine hTake 2 7 (v := .bool false) rfl rfl (by kernel_rfl) (by kernel_rfl) (by kernel_rfl) (fun _ _ _ h => h) (Or.inl ⟨by rfl, fun W h => by go_simp⟩) hHeld ?_; simp only [List.set_cons_zero, List.set_cons_succ])
  (refine hTake 3 8 (v := .bool false) rfl rfl (by kernel_rfl) (by kernel_rfl) (by kernel_rfl) (fun _ _ _ h => h) (Or.inl ⟨by rfl, fun W _ => rfl⟩) hHeld ?_; simp only [List.set_cons_zero, List.set_cons_succ])
  (refine hTake 4 9 (v := .pointer (some ⟨L0, 3, none⟩)) rfl rfl (by kernel_rfl) (by kernel_rfl) (by kernel_rfl) (fun _ _ _ h => h) (Or.inl ⟨by rfl, fun W h => by go_simp⟩) hHeld ?_; simp only [List.set_cons_zero, List.set_cons_succ])
  (refine hTake 5 10 (v := .slice A n c) rfl rfl (by kernel_rfl) (by kernel_rfl) (by kernel_rfl) (fun _ _ _ h => h) (Or.inl ⟨by rfl, fun W h => by (have h1 := c3 _ (B0.kept h); clear h c3; go_simp)⟩) hHeld ?_; simp only [List.set_cons_zero, List.set_cons_succ])
  (refine hTake 6 11 (v := .int .i64 n) rfl rfl (by kernel_rfl) (by kernel_rfl) (by kernel_rfl) (fun _ _ _ h => h) (Or.inl ⟨by rfl, fun W h => by go_simp⟩) hHeld ?_; simp only [List.set_cons_zero, List.set_cons_succ])
  (refine hTake 7 12 (v := .bool false) rfl rfl (by kernel_rfl) (by kernel_rfl) (by kernel_rfl) (fun _ _ _ h => h) (Or.inl ⟨by rfl, fun W h => by go_simp⟩) hHeld ?_; simp only [List.set_cons_zero, List.set_cons_succ])
  (refine hTake 8 13 (v := .bool false) rfl rfl (by kernel_rfl) (by kernel_rfl) (by kernel_rfl) (fun _ _ _ h => h) (Or.inl ⟨by rfl, fun W h => by go_simp⟩) hHeld ?_; simp only [List.set_cons_zero, List.set_cons_succ])
  (refine hTake 9 14 (v := .bool false) rfl rfl (by kernel_rfl) (by kernel_rfl) (by kernel_rfl) (fun _ _ _ h => h) (Or.inl ⟨by rfl, fun W _ => rfl⟩) hHeld ?_; simp only [List.set_cons_zero, List.set_cons_succ])
  (refine hTake 10 15 (v := .pointer (some ⟨L0, 3, none⟩)) rfl rfl (by kernel_rfl) (by kernel_rfl) (by kernel_rfl) (fun _ _ _ h => h) (Or.inl ⟨by rfl, fun W h => by go_simp⟩) hHeld ?_; simp only [List.set_cons_zero, List.set_cons_succ])
  (refine hTake 11 16 (v := .slice A n c) rfl rfl (by kernel_rfl) (by kernel_rfl) (by kernel_rfl) (fun _ _ _ h => h) (Or.inl ⟨by rfl, fun W h => by (have h1 := c3 _ (B0.kept h); clear h c3; go_simp)⟩) hHeld ?_; simp only [List.set_cons_zero, List.set_cons_succ])
  (refine hTake 12 17 (v := .int .i64 n) rfl rfl (by kernel_rfl) (by kernel_rfl) (by kernel_rfl) (fun _ _ _ h => h) (Or.inl ⟨by rfl, fun W h => by go_simp⟩) hHeld ?_; simp only [List.set_cons_zero, List.set_cons_succ])
  (refine hTake 13 18 rfl rfl (by kernel_rfl) (by kernel_rfl) (by kernel_rfl) (fun _ _ _ h => h) (yieldsIf_load_mid (by rfl) _ _ rfl _ _ rfl cs _ (fun W h => (B0.kept h).range) Try.underlying48 rfl (by rw [lb]; exact info_ib)) hHeld ?_; simp only [List.set_cons_zero, List.set_cons_succ])
  refine wpAnyH_ready (rs := [14]) (by kernel_rfl) (by simp) ?_
  refine kCallE 14 19 73 rfl rfl (args := #[.agg cs.toArray]) (by rfl) (by go_simp) (R := fun v w' => ML w' w1.heap.size v (outB b) ∧ Below w1.heap.size w1 w') ((mns w1).mono (fun e w' h => by obtain ⟨⟨v, e1, hM⟩, hb⟩ := h; exact ⟨v, e1, hM, hb⟩)) (fun v w2 hR => ⟨bl_call hHeld hR.2, ?_⟩) AllReadyH.nil
  obtain ⟨hM, hb2⟩ := hR
  replace hHeld := bl_call hHeld hb2
  obtain ⟨A2, c2, rfl⟩ := hM.slice
  simp only [List.set_cons_zero, List.set_cons_succ]
  clear hM hb1 hb2 mns key
  generalize hln : (outB b).length = ln at *
  have hln' := As.mk hln
  clear hln
  have hl3 : (ln : Int) ≤ 3000 := by omega
  by_cases hgt : ln < n
  · have hgt' : (ln : Int) < (n : Int) := by omega
    have hgt0 := As.mk hgt
    (refine hTake 15 20 (v := .int .i64 ln) rfl rfl (by kernel_rfl) (by kernel_rfl) (by kernel_rfl) (fun _ _ _ h => h) (Or.inl ⟨by rfl, fun W h => by go_simp⟩) hHeld ?_; simp only [List.set_cons_zero, List.set_cons_succ])
    (refine hTake 16 21 (v := .bool true) rfl rfl (by kernel_rfl) (by kernel_rfl) (by kernel_rfl) (fun _ _ _ h => h) (Or.inl ⟨by rfl, fun W h => by go_simp⟩) hHeld ?_; simp only [List.set_cons_zero, List.set_cons_succ])
    (refine hTake 17 22 (v := .bool true) rfl rfl (by kernel_rfl) (by kernel_rfl) (by kernel_rfl) (fun _ _ _ h => h) (Or.inl ⟨by rfl, fun W h => by go_simp⟩) hHeld ?_; simp only [List.set_cons_zero, List.set_cons_succ])
    refine wpAnyH_done (by kernel_rfl) ?_ _
    go_wp2_with (fail)
    go_ret
    exact ⟨ret_b (by rw [hD.out, decide_eq_false (p := n ≤ ln) (by omega)]; simp), bl_call bb hHeld⟩
  have hgt' : ¬ ((ln : Int) < (n : Int)) := by omega
  (refine hTake 15 20 (v := .int .i64 ln) rfl rfl (by kernel_rfl) (by kernel_rfl) (by kernel_rfl) (fun _ _ _ h => h) (Or.inl ⟨by rfl, fun W h => by go_simp⟩) hHeld ?_; simp only [List.set_cons_zero, List.set_cons_succ])
  (refine hTake 16 21 (v := .bool false) rfl rfl (by kernel_rfl) (by kernel_rfl) (by kernel_rfl) (fun _ _ _ h => h) (Or.inl ⟨by rfl, fun W h => by go_simp⟩) hHeld ?_; simp only [List.set_cons_zero, List.set_cons_succ])
  (refine hTake 17 22 (v := .bool false) rfl rfl (by kernel_rfl) (by kernel_rfl) (by kernel_rfl) (fun _ _ _ h => h) (Or.inl ⟨by rfl, fun W h => by go_simp⟩) hHeld ?_; simp only [List.set_cons_zero, List.set_cons_succ])
  refine wpAnyH_done (by kernel_rfl) ?_ _
  have hdl := As.mk (show decide (n ≤ ln) = true by rw [decide_eq_true_eq]; omega)
  have B2 := B0.kept hHeld
  have cc := c3 _ B2
  have g2 := g0.kept hHeld
  have hb2 := bl_call bb hHeld
  clear c3 B0 g0 hHeld hln' hLn bb B2
  go_wp2_with (fail)
  go_loopw [26] (fun i wr => ∃ k : Nat, k ≤ n ∧ i = .int .i64 k ∧ w2 = wr ∧ As (∀ j, j < k → okAt b.ps j = true)) (fun i _ => n - (intOf i).toNat)
  case atStart => exact ⟨0, by omega, rfl, rfl, ⟨fun j hj => by omega⟩⟩
  case round =>
    obtain ⟨k, hk, rfl, rfl, H⟩ := hrel
    by_cases hlt : k < n
    · have hlt' : (k : Int) < (n : Int) := by omega
      have hkc : (k : Int) ≤ (c : Int) := by omega
      obtain ⟨b1, o, hA, hr1⟩ := g2.2.2 (by rw [HM.out]; omega)
      have c0 := SlS.at hr1 k (by rw [HM.out]; omega)
      have hph := isPhrase_any (nthS b.ps k) (g2.2.1 _ (nthS_mem b.ps k (by rw [HM.out]; exact hlt))) w2
      have hco := fun c' => ContainsS_any (b.ps.take k) (nthS b.ps k) A k c' (by rw [List.length_take, HM.out]; omega) w2 (g2.take k)
      rw [find_take (by rw [HM.out]; exact hlt)] at hco
      have ho := As.mk (show okAt b.ps k = (phOk (nthS b.ps k) && decide (findS b.ps (nthS b.ps k) = (k : Int))) from rfl)
      have hatk := As.mk (hat.out k hlt)
      subst hA
      clear hr1
      generalize nthS b.ps k = s at *
      cases hp : phOk s
      · have hbad := As.mk (hatk.out (by rw [ho.out, hp]; rfl))
        rw [hp] at hph
        go_wp2_with (first | (go_at_call 75; refine hph.mono ?_; rintro e w' ⟨rfl, rfl⟩))
        go_ret
        exact ⟨ret_b (by rw [hbad.out]), hb2⟩
      · rw [hp] at hph
        have hp := As.mk hp
        by_cases hf : findS b.ps s = (k : Int)
        · have hgood := As.mk (show okAt b.ps k = true by rw [ho.out, hp.out, decide_eq_true hf]; rfl)
          rw [decide_eq_true hf, Bool.not_true] at hco
          clear hf
          go_wp2_with (first | (go_at_call 75; refine hph.mono ?_; rintro e w' ⟨rfl, rfl⟩) | (go_at_call 76; refine (hco _).mono ?_; rintro e w' ⟨rfl, rfl⟩))
          go_roundw
          case rel => exact ⟨k + 1, by omega, by go_num, by trivial, ⟨all_succ (p := fun j => okAt b.ps j = true) H.out hgood.out⟩⟩
          case measure => simp [intOf]; omega
        · have hbad := As.mk (hatk.out (by rw [ho.out, hp.out, decide_eq_false hf]; rfl))
          rw [decide_eq_false hf, Bool.not_false] at hco
          clear hf
          go_wp2_with (first | (go_at_call 75; refine hph.mono ?_; rintro e w' ⟨rfl, rfl⟩) | (go_at_call 76; refine (hco _).mono ?_; rintro e w' ⟨rfl, rfl⟩))
          go_ret
          exact ⟨ret_b (by rw [hbad.out]), hb2⟩
    · obtain rfl : k = n := by omega
      have hfin := As.mk (hall.out H.out)
      go_wp2_with (fail)
      go_ret
      exact ⟨ret_b (by rw [hfin.out, hdl.out]), hb2⟩
theorem sValidBook_any (b : Bok) (hr : bokR b) (A : Option Addr) (c : Nat) (w : World) (h : SlS w A b.ps) :
    Calls Try.prog 38 #[bok b A c] w fun e w' => e = .returned (.bool (okB b)) ∧ Below w.heap.size w w' := by
  have bb := bl_new (Below.refl _ w) (.cells (bokC b A c).toArray 48)
  have B0 := Blk.mk w (bokC b A c) 48 rfl
  have key := l03Ok_any b hr A c _ _ B0 (h.kept bb)
  unfold bok
  generalize bokC b A c = cs at *
  generalize okB b = q at *
  go_enter Try.func38, Try.ntmps38
  go_wp2_with (fail)
  refine key.mono ?_; rintro e w1 ⟨rfl, hb⟩
  go_wp2_with (fail)
  go_ret
  exact ⟨rfl, bl_call bb hb⟩
end Go.Proofs.Ytnokdbnlagoidaa
