/- Contracts: ValidBook (both sides). -/
import Derived.Test.YtnokdbnlagoidaaFs
import Derived.Test.YtnokdbnlagoidaaGw
set_option linter.unusedVariables false
namespace Go.Proofs.Ytnokdbnlagoidaa
open Go.RowKit

def okAt (ss : List ByteArray) (i : Nat) : Bool := phOk (nthS ss i) && decide (findS ss (nthS ss i) = (i : Int))
/-- A book as told. -/
def okB (b : Bok) : Bool := szd b && (decide (b.ps.length ≤ 100) && ((List.range b.ps.length).all (okAt b.ps) && decide (b.ps.length ≤ (outB b).length)))
theorem okB_at {b : Bok} (i : Nat) (hi : i < b.ps.length) (h : okAt b.ps i = false) : okB b = false := by
  have : (List.range b.ps.length).all (okAt b.ps) = false := by
    rw [List.all_eq_false]; exact ⟨i, List.mem_range.2 hi, by rw [h]; simp⟩
  unfold okB; rw [this]; simp
theorem okB_all {b : Bok} (h0 : szd b = true) (h1 : b.ps.length ≤ 100) (h : ∀ i, i < b.ps.length → okAt b.ps i = true) : okB b = decide (b.ps.length ≤ (outB b).length) := by
  have : (List.range b.ps.length).all (okAt b.ps) = true := by
    rw [List.all_eq_true]; intro i hi; exact h i (List.mem_range.1 hi)
  unfold okB; rw [this, h0, decide_eq_true h1]; simp
theorem okB_parts {b : Bok} (h : okB b = true) : szd b = true ∧ b.ps.length ≤ 100 ∧ b.ps.length ≤ (outB b).length := by
  unfold okB at h
  simp only [Bool.and_eq_true, decide_eq_true_eq] at h
  exact ⟨h.1, h.2.1, h.2.2.2⟩

set_option maxRecDepth 100000 in
set_option maxHeartbeats 4000000 in
theorem l03Ok_any (b : Bok) (hr : bokR b) (A : Option Addr) (c P : Nat) (w : World) (hB : Blk w P (bokC b A c) 48) (h : SlS w A b.ps) :
    Calls Try.prog 74 #[.pointer (some ⟨P, 0, none⟩)] w fun e w' => e = .returned (.bool (okB b)) ∧ Below w.heap.size w w' := by
  have key := l03Sized_any b hr A c P w hB
  have hD := As.mk (show okB b = (szd b && (decide (b.ps.length ≤ 100) && ((List.range b.ps.length).all (okAt b.ps) && decide (b.ps.length ≤ (outB b).length)))) from rfl)
  have c3 := hB.at 3
  unfold bokC at c3
  simp only [List.getElem?_cons_zero, List.getElem?_cons_succ] at c3
  have hbig := h.1
  cases hz : szd b
  · rw [hz] at key
    have hz := As.mk hz
    go_enter Try.func74, Try.ntmps74
    go_wp2_with (fail)
    refine key.mono ?_; rintro e w' ⟨rfl, rfl⟩
    go_wp2_with (fail)
    go_ret
    exact ⟨ret_b (by rw [hD.out, hz.out]; rfl), Below.refl _ _⟩
  rw [hz] at key
  have mns := As.mk (fun W hb => sMeanings_any b hz A c P W hb)
  have hle := outB_le hz
  have hz := As.mk hz
  by_cases hn : b.ps.length ≤ 100
  case neg =>
    have hn' : (100 : Int) < (b.ps.length : Int) := by omega
    have hn := As.mk hn
    generalize b.ps.length = n at *
    go_enter Try.func74, Try.ntmps74
    go_wp2_with (fail)
    refine key.mono ?_; rintro e w' ⟨rfl, rfl⟩
    go_wp2_with (fail)
    go_ret
    exact ⟨ret_b (by rw [hD.out, hz.out, decide_eq_false hn.out]; rfl), Below.refl _ _⟩
  have hn' : (b.ps.length : Int) ≤ 100 := by omega
  have hat := As.mk (fun i hi => okB_at (b := b) i hi)
  have hall := As.mk (okB_all (b := b) hz.out hn)
  have hfind := fun s W (hb : Blk W P (bokC b A c) 48) (hs : SlS W A b.ps) => l03Find_any b s A c P W hb hs
  generalize hm : b.ps.length = n at *
  have HM := As.mk hm
  clear hm
  go_enter Try.func74, Try.ntmps74
  go_wp2_with (fail)
  refine key.mono ?_; rintro e w' ⟨rfl, rfl⟩
  go_wp2_with (fail)
  go_loopw [3] (fun i wr => ∃ k : Nat, k ≤ n ∧ i = .int .i64 k ∧ w = wr ∧ As (∀ j, j < k → okAt b.ps j = true)) (fun i _ => n - (intOf i).toNat)
  case atStart => exact ⟨0, by omega, rfl, rfl, ⟨fun j hj => by omega⟩⟩
  case round =>
    obtain ⟨k, hk, rfl, rfl, H⟩ := hrel
    by_cases hlt : k < n
    · have hlt' : (k : Int) < (n : Int) := by omega
      obtain ⟨b1, o, hA, hr1⟩ := h.2.2 (by rw [HM.out]; omega)
      have c0 := SlS.at hr1 k (by rw [HM.out]; omega)
      have hph := l03Phrase_any (nthS b.ps k) (h.2.1 _ (nthS_mem b.ps k (by rw [HM.out]; exact hlt))) w
      have hfi := hfind (nthS b.ps k) w hB h
      have ho := As.mk (show okAt b.ps k = (phOk (nthS b.ps k) && decide (findS b.ps (nthS b.ps k) = (k : Int))) from rfl)
      have hatk := As.mk (hat.out k hlt)
      rw [hA] at c3
      clear hr1 hA
      generalize nthS b.ps k = s at *
      cases hp : phOk s
      · have hbad := As.mk (hatk.out (by rw [ho.out, hp]; rfl))
        rw [hp] at hph
        go_wp2_with (first | (go_at_call 95; refine hph.mono ?_; rintro e w' ⟨rfl, rfl⟩))
        go_ret
        exact ⟨ret_b (by rw [hbad.out]), Below.refl _ _⟩
      · rw [hp] at hph
        have hp := As.mk hp
        by_cases hf : findS b.ps s = (k : Int)
        · have hgood := As.mk (show okAt b.ps k = true by rw [ho.out, hp.out, decide_eq_true hf]; rfl)
          rw [hf] at hfi
          go_wp2_with (first | (go_at_call 95; refine hph.mono ?_; rintro e w' ⟨rfl, rfl⟩) | (go_at_call 77; refine hfi.mono ?_; rintro e w' ⟨rfl, rfl⟩))
          go_roundw
          case rel => exact ⟨k + 1, by omega, by go_num, by trivial, ⟨all_succ (p := fun j => okAt b.ps j = true) H.out hgood.out⟩⟩
          case measure => simp [intOf]; omega
        · have hbad := As.mk (hatk.out (by rw [ho.out, hp.out, decide_eq_false hf]; rfl))
          have hne : (findS b.ps s != (k : Int)) = true := by rw [bne_iff_ne]; exact hf
          generalize findS b.ps s = r at *
          go_wp2_with (first | (go_at_call 95; refine hph.mono ?_; rintro e w' ⟨rfl, rfl⟩) | (go_at_call 77; refine hfi.mono ?_; rintro e w' ⟨rfl, rfl⟩))
          go_ret
          exact ⟨ret_b (by rw [hbad.out]), Below.refl _ _⟩
    · obtain rfl : k = n := by omega
      have hfin := As.mk (hall.out H.out)
      clear hfind hat hall key
      go_wp2_with (fail)
      have hcl : ∀ W, Below w.heap.size w W → W.cell? ⟨P, 3, none⟩ = some (.slice A k c) := fun W hW => (hW.cell (World.block_lt_of_cell? w _ c3)).trans c3
      have hMn := fun W (hW : Below w.heap.size w W) => mns.out W (hB.kept hW)
      refine wp_region_held_drew (S := (Below w.heap.size w)) (by kernel_rfl) (Below.refl w.heap.size w).drew (fun hHeld => ?_)
      (refine hTake 0 46 (v := .pointer (some ⟨P, 0, none⟩)) rfl rfl (by kernel_rfl) (by kernel_rfl) (by kernel_rfl) (fun _ _ _ h => h) (Or.inl ⟨by rfl, fun W _ => rfl⟩) hHeld ?_; simp only [List.set_cons_zero, List.set_cons_succ])
      (refine hTake 1 47 (v := .pointer (some ⟨P, 0, none⟩)) rfl rfl (by kernel_rfl) (by kernel_rfl) (by kernel_rfl) (fun _ _ _ h => h) (Or.inl ⟨by rfl, fun W h => by go_simp⟩) hHeld ?_; simp only [List.set_cons_zero, List.set_cons_succ])
      (refine hTake 2 48 (v := .pointer (some ⟨P, 3, none⟩)) rfl rfl (by kernel_rfl) (by kernel_rfl) (by kernel_rfl) (fun _ _ _ h => h) (Or.inl ⟨by rfl, fun W h => by go_simp⟩) hHeld ?_; simp only [List.set_cons_zero, List.set_cons_succ])
      (refine hTake 3 49 (v := .slice A k c) rfl rfl (by kernel_rfl) (by kernel_rfl) (by kernel_rfl) (fun _ _ _ h => h) (Or.inl ⟨by rfl, fun W h => by (have h1 := hcl W h; clear h hcl; go_simp)⟩) hHeld ?_; simp only [List.set_cons_zero, List.set_cons_succ])
      (refine hTake 4 50 (v := .int .i64 k) rfl rfl (by kernel_rfl) (by kernel_rfl) (by kernel_rfl) (fun _ _ _ h => h) (Or.inl ⟨by rfl, fun W h => by go_simp⟩) hHeld ?_; simp only [List.set_cons_zero, List.set_cons_succ])
      (refine hTake 5 51 (v := .pointer (some ⟨P, 0, none⟩)) rfl rfl (by kernel_rfl) (by kernel_rfl) (by kernel_rfl) (fun _ _ _ h => h) (Or.inl ⟨by rfl, fun W _ => rfl⟩) hHeld ?_; simp only [List.set_cons_zero, List.set_cons_succ])
      have hLb : (outB b).length ≤ 3000 := hle
      have hdec := As.mk (show decide ((k : Int) ≤ ((outB b).length : Int)) = decide (k ≤ (outB b).length) by simp)
      refine wpAnyH_ready (rs := [6]) (by kernel_rfl) (by simp) ?_
      refine kCallE 6 52 70 rfl rfl (args := #[.pointer (some ⟨P, 0, none⟩)]) (by rfl) (by go_simp) (R := fun v w' => ML w' w.drew.heap.size v (outB b) ∧ Below w.drew.heap.size w.drew w') ((hMn w.drew hHeld).mono (fun e w' h => by obtain ⟨⟨v, e1, hM⟩, hb⟩ := h; exact ⟨v, e1, hM, hb⟩)) (fun v w1 hR => ⟨bl_call hHeld hR.2, ?_⟩) AllReadyH.nil
      obtain ⟨hM, hb1⟩ := hR
      replace hHeld := bl_call hHeld hb1
      obtain ⟨A2, c2, rfl⟩ := hM.slice
      simp only [List.set_cons_zero, List.set_cons_succ]
      clear hM hb1 hMn hcl mns
      generalize (outB b).length = ln at *
      have hl3 : (ln : Int) ≤ 3000 := by omega
      (refine hTake 7 53 (v := .int .i64 (ln : Int)) rfl rfl (by kernel_rfl) (by kernel_rfl) (by kernel_rfl) (fun _ _ _ h => h) (Or.inl ⟨by rfl, fun W h => by go_simp⟩) hHeld ?_; simp only [List.set_cons_zero, List.set_cons_succ])
      (refine hTake 8 54 (v := .bool (decide ((k : Int) ≤ (ln : Int)))) rfl rfl (by kernel_rfl) (by kernel_rfl) (by kernel_rfl) (fun _ _ _ h => h) (Or.inl ⟨by rfl, fun W h => by go_simp⟩) hHeld ?_; simp only [List.set_cons_zero, List.set_cons_succ])
      (refine hTake 9 2 (v := .bool (decide ((k : Int) ≤ (ln : Int)))) rfl rfl (by kernel_rfl) (by kernel_rfl) (by kernel_rfl) (fun _ _ _ h => h) (Or.inl ⟨by rfl, fun W _ => rfl⟩) hHeld ?_; simp only [List.set_cons_zero, List.set_cons_succ])
      refine wpAnyH_done (by kernel_rfl) ?_ _
      go_wp2_with (fail)
      go_ret
      exact ⟨ret_b (by rw [hfin.out]; exact hdec.out), hHeld⟩
theorem SlS.take {w : World} {A : Option Addr} {ss : List ByteArray} (h : SlS w A ss) (k : Nat) : SlS w A (ss.take k) := by
  refine ⟨by rw [List.length_take]; have := h.1; omega, fun s hs => h.2.1 s (List.mem_of_mem_take hs), fun hp => ?_⟩
  rw [List.length_take] at hp
  obtain ⟨b, o, e, hr⟩ := h.2.2 (by omega)
  refine ⟨b, o, e, fun j v hv => ?_⟩
  refine hr j v ?_
  unfold strs at *
  rw [List.map_take, List.getElem?_take] at hv
  split at hv
  · exact hv
  · cases hv
theorem nthS_take {ss : List ByteArray} {k j : Nat} (hj : j < k) : nthS (ss.take k) j = nthS ss j := by
  unfold nthS
  rw [List.getD_eq_getElem?_getD, List.getD_eq_getElem?_getD, List.getElem?_take_of_lt hj]
theorem find_take {ss : List ByteArray} {k : Nat} (hk : k < ss.length) : decide (0 ≤ findS (ss.take k) (nthS ss k)) = !decide (findS ss (nthS ss k) = (k : Int)) := by
  have hl : (ss.take k).length = k := by rw [List.length_take]; omega
  by_cases h : ∀ j, j < k → nthS ss j ≠ nthS ss k
  · rw [findS_hit hk h rfl, findS_miss (fun j hj => by rw [hl] at hj; rw [nthS_take hj]; exact h j hj)]
    simp
  · have h1 : ∃ j, j < k ∧ nthS ss j = nthS ss k := by
      apply Classical.byContradiction
      intro hn
      exact h fun j hj he => hn ⟨j, hj, he⟩
    obtain ⟨j, hj, he⟩ := h1
    have hmin : ∀ n, (∃ j, j < n ∧ nthS ss j = nthS ss k) → ∃ j, j < n ∧ nthS ss j = nthS ss k ∧ ∀ i, i < j → nthS ss i ≠ nthS ss k := by
      intro n
      induction n with
      | zero => rintro ⟨j, hj, _⟩; omega
      | succ n ih =>
        rintro ⟨j, hj, he⟩
        by_cases hl : ∃ j, j < n ∧ nthS ss j = nthS ss k
        · obtain ⟨i, hi, h1, h2⟩ := ih hl; exact ⟨i, by omega, h1, h2⟩
        · exact ⟨n, by omega, by
            by_cases e : j = n
            · rw [← e]; exact he
            · exact absurd ⟨j, by omega, he⟩ hl, fun i hi hq => hl ⟨i, hi, hq⟩⟩
    obtain ⟨i, hi, h1, h2⟩ := hmin k ⟨j, hj, he⟩
    rw [findS_hit (by omega) h2 h1, findS_hit (ss := ss.take k) (k := i) (by rw [hl]; exact hi) (fun j hj => by rw [nthS_take (by omega)]; exact h2 j hj) (by rw [nthS_take hi]; exact h1)]
    rw [decide_eq_true (by omega), decide_eq_false (by omega)]; rfl

section
variable {P : Program} {ops : Array Oper} {Q : Exit → Act → World → Prop} {S : World → Prop} {listed : Array Bool} {ts : List Value} {ds : List Deferred} {w : World} {fuel : Nat}
/-- The one operation that may come up is not wanted. -/
theorem hSkip (i d : Nat) {oi : Oper} (hi : ops[i]? = some oi) (hd : oi.dst = some d) (hr : Region.ready .any ops listed = [i])
    (hw : Region.wanted oi (yielded ops ts.toArray) = false) (hS : S w)
    (h : wpAnyH P .any ops Q S fuel (listed.setIfInBounds i true) ⟨(ts.set d undef).toArray, ds⟩ w) : wpAnyH P .any ops Q S (fuel + 1) listed ⟨ts.toArray, ds⟩ w := by
  refine wpAnyH_ready (rs := [i]) hr (by simp) (AllReadyH.cons hi (fun K hK => ?_) AllReadyH.nil)
  rw [if_neg (by rw [hw]; simp)]
  refine hK.out _ _ hS (fun _ => ?_)
  rw [hd]
  simpa [Act.put] using h
end

end Go.Proofs.Ytnokdbnlagoidaa
