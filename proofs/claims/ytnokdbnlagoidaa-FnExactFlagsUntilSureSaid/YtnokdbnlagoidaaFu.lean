/- Contracts: FlagsUntilSure (both sides). -/
import Derived.Test.YtnokdbnlagoidaaVb
import Derived.Test.YtnokdbnlagoidaaGw
set_option linter.unusedVariables false
namespace Go.Proofs.Ytnokdbnlagoidaa
open Go.RowKit

theorem Sl.take {k : IntKind} {w : World} {A : Option Addr} {xs : List Int} (h : Sl k w A xs) (n : Nat) : Sl k w A (xs.take n) := by
  refine ⟨by rw [List.length_take]; have := h.1; omega, fun hp => ?_⟩
  rw [List.length_take] at hp
  obtain ⟨b, o, e, hr⟩ := h.2 (by omega)
  refine ⟨b, o, e, fun j v hv => ?_⟩
  refine hr j v ?_
  rw [List.map_take, List.getElem?_take] at hv
  split at hv
  · exact hv
  · cases hv
/-- Whether a meaning begins with another one. -/
def begs (m x : List Int) : Bool := decide (x.length ≤ m.length) && decide (m.take x.length = x)
set_option maxRecDepth 100000 in
set_option maxHeartbeats 1000000 in
theorem l03Begins_any (m x : List Int) (A A1 : Option Addr) (nm c nx c1 : Nat) (hm : m.length = nm) (hx : x.length = nx) (hc : nm ≤ c) (w : World) (h : Sl .i8 w A m) (h1 : Sl .i8 w A1 x) :
    Calls Try.prog 99 #[.slice A nm c, .slice A1 nx c1] w fun e w' => e = .returned (.bool (begs m x)) ∧ Below w.heap.size w w' := by
  have hD := As.mk (show begs m x = (decide (x.length ≤ m.length) && decide (m.take x.length = x)) from rfl)
  have hb1 := h.1
  have hb2 := h1.1
  rw [hm, hx] at hD
  rw [hm] at hb1
  rw [hx] at hb2
  by_cases hl : nx ≤ nm
  · have hl' : (nx : Int) ≤ (nm : Int) := by omega
    have hlc : (nx : Int) ≤ (c : Int) := by omega
    have hlt : (m.take nx).length = nx := by rw [List.length_take, hm]; omega
    have key := fun c' => sSameHoist_any (m.take nx) x A A1 c' c1 w (h.take nx) h1
    rw [hlt, hx] at key
    have hdl := As.mk (show decide (nx ≤ nm) = true from decide_eq_true hl)
    have hlt := As.mk hlt
    clear hx hm hc
    generalize hq : decide (m.take nx = x) = q at *
    have hq := As.mk hq
    cases A with
    | none =>
      obtain rfl : nx = 0 := by
        rcases Nat.eq_zero_or_pos nx with e | e
        · exact e
        · obtain ⟨b, o, e', _⟩ := (h.take nx).2 (by rw [hlt.out]; exact e); cases e'
      have key2 := fun c' => by
        have := key c'
        exact (show Calls Try.prog 108 #[.slice none 0 c', .slice A1 0 c1] w fun e w' => e = .returned (.bool q) ∧ Below w.heap.size w w' from by
          go_enter Try.func108, Try.ntmps108
          go_wp2_with (fail)
          refine this.mono ?_; rintro e w' ⟨rfl, hb⟩
          go_wp2_with (fail)
          go_ret
          exact ⟨rfl, hb⟩)
      go_enter Try.func99, Try.ntmps99
      go_wp2_with (fail)
      refine (key2 _).mono ?_; rintro e w' ⟨rfl, hb⟩
      go_wp2_with (fail)
      go_ret
      exact ⟨ret_b (by rw [hD.out, hdl.out]; rfl), hb⟩
    | some a =>
      have key2 := fun c' => by
        have := key c'
        exact (show Calls Try.prog 108 #[.slice (some a) nx c', .slice A1 nx c1] w fun e w' => e = .returned (.bool q) ∧ Below w.heap.size w w' from by
          go_enter Try.func108, Try.ntmps108
          go_wp2_with (fail)
          refine this.mono ?_; rintro e w' ⟨rfl, hb⟩
          go_wp2_with (fail)
          go_ret
          exact ⟨rfl, hb⟩)
      go_enter Try.func99, Try.ntmps99
      go_wp2_with (fail)
      refine (key2 _).mono ?_; rintro e w' ⟨rfl, hb⟩
      go_wp2_with (fail)
      go_ret
      exact ⟨ret_b (by rw [hD.out, hdl.out]; rfl), hb⟩
  · have hl' : ¬ ((nx : Int) ≤ (nm : Int)) := by omega
    have hdl := As.mk (show decide (nx ≤ nm) = false from decide_eq_false hl)
    clear hx hm hc hl
    go_enter Try.func99, Try.ntmps99
    go_wp2_with (fail)
    go_ret
    exact ⟨ret_b (by rw [hD.out, hdl.out]; rfl), Below.refl _ _⟩
set_option maxRecDepth 100000 in
set_option maxHeartbeats 1000000 in
theorem begins_any (m x : List Int) (A A1 : Option Addr) (nm c nx c1 : Nat) (hm : m.length = nm) (hx : x.length = nx) (hc : nm ≤ c) (w : World) (h : Sl .i8 w A m) (h1 : Sl .i8 w A1 x) :
    Calls Try.prog 101 #[.slice A nm c, .slice A1 nx c1] w fun e w' => e = .returned (.bool (begs m x)) ∧ Below w.heap.size w w' := by
  have hD := As.mk (show begs m x = (decide (x.length ≤ m.length) && decide (m.take x.length = x)) from rfl)
  have hb1 := h.1
  have hb2 := h1.1
  rw [hm, hx] at hD
  rw [hm] at hb1
  rw [hx] at hb2
  by_cases hl : nx ≤ nm
  · have hl' : (nx : Int) ≤ (nm : Int) := by omega
    have hlc : (nx : Int) ≤ (c : Int) := by omega
    have hlt : (m.take nx).length = nx := by rw [List.length_take, hm]; omega
    have key := fun c' => EqualM_any (m.take nx) x A A1 c' c1 w (h.take nx) h1
    rw [hlt, hx] at key
    have hdl := As.mk (show decide (nx ≤ nm) = true from decide_eq_true hl)
    have hlt := As.mk hlt
    clear hx hm hc
    generalize hq : decide (m.take nx = x) = q at *
    have hq := As.mk hq
    cases A with
    | none =>
      obtain rfl : nx = 0 := by
        rcases Nat.eq_zero_or_pos nx with e | e
        · exact e
        · obtain ⟨b, o, e', _⟩ := (h.take nx).2 (by rw [hlt.out]; exact e); cases e'
      have key2 := key
      go_enter Try.func101, Try.ntmps101
      go_wp2_with (fail)
      refine (key2 _).mono ?_; rintro e w' ⟨rfl, hb⟩
      go_wp2_with (fail)
      go_ret
      exact ⟨ret_b (by rw [hD.out, hdl.out]; rfl), hb⟩
    | some a =>
      have key2 := key
      go_enter Try.func101, Try.ntmps101
      go_wp2_with (fail)
      refine (key2 _).mono ?_; rintro e w' ⟨rfl, hb⟩
      go_wp2_with (fail)
      go_ret
      exact ⟨ret_b (by rw [hD.out, hdl.out]; rfl), hb⟩
  · have hl' : ¬ ((nx : Int) ≤ (nm : Int)) := by omega
    have hdl := As.mk (show decide (nx ≤ nm) = false from decide_eq_false hl)
    clear hx hm hc hl
    go_enter Try.func101, Try.ntmps101
    go_wp2_with (fail)
    go_ret
    exact ⟨ret_b (by rw [hD.out, hdl.out]; rfl), Below.refl _ _⟩

/-- The phrases among the first k whose meanings begin so. -/
def comps (ms : List (List Int)) (x : List Int) : Nat → List Int
  | 0 => []
  | k + 1 => if begs (nthL ms k) x then comps ms x k ++ [(k : Int)] else comps ms x k
theorem comps_len (ms : List (List Int)) (x : List Int) : ∀ k, (comps ms x k).length ≤ k
  | 0 => Nat.le_refl _
  | k + 1 => by
    have := comps_len ms x k
    unfold comps; split
    · rw [List.length_append]; simp; omega
    · omega
theorem Inn.grownT {w w' : World} {base : Nat} {vs : List Value} {ms : List (List Int)} (h : Inn w base vs ms) {u : Value} (hg : w.grownBy w' u.ownBlock) {b2 : Nat} {e2 : TypeId} {ds : List Value} (hu : Own w b2 e2 u ds) (he : 42 ≠ e2) : Inn w' base vs ms := h.grown hg hu he
theorem ML.grownT {w w' : World} {base : Nat} {v u : Value} {ms : List (List Int)} (h : ML w base v ms) {b2 : Nat} {e2 : TypeId} {ds : List Value} (hu : Own w b2 e2 u ds) (hg : w.grownBy w' u.ownBlock) (h1 : 42 ≠ e2) (h2 : 26 ≠ e2) : ML w' base v ms := by
  obtain ⟨vs, q1, q2⟩ := h
  exact ⟨vs, q1.grown hg (Ap.of_typ q1 hu h2).ne, q2.grown hg hu h1⟩
theorem ML.capI {w : World} {base : Nat} {A : Option Addr} {n c : Nat} {ms : List (List Int)} (h : ML w base (.slice A n c) ms) : ms.length ≤ c := by
  obtain ⟨vs, q1, q2⟩ := h
  have := q1.cap
  rw [q2.1] at this; exact this
theorem ML.none0 {w : World} {base n c : Nat} {ms : List (List Int)} (h : ML w base (.slice none n c) ms) : ms.length = 0 ∧ n = 0 ∧ c = 0 := by
  obtain ⟨vs, q1, q2⟩ := h
  rcases q1.form with ⟨e, e2⟩ | ⟨g, c', e, _⟩
  · simp only [Value.slice.injEq] at e
    rw [← q2.1, e2]; exact ⟨rfl, e.2.1, e.2.2⟩
  · simp at e

theorem i64_snoc' (xs : List Int) (x : Int) : i64s xs ++ [.int .i64 x] = i64s (xs ++ [x]) := by simp [i64s]
set_option maxRecDepth 100000 in
set_option maxHeartbeats 4000000 in
theorem l03Completions_any (b : Bok) (A : Option Addr) (c P : Nat) (ms : List (List Int)) (A2 : Option Addr) (ln c2 base : Nat) (hln : ms.length = ln) (hn : b.ps.length ≤ 100) (hnl : b.ps.length ≤ ln) (hm3 : ∀ k, k < ln → (nthL ms k).length ≤ 3)
    (x : List Int) (nx : Nat) (hx : x.length = nx) (A1 : Option Addr) (c1 : Nat) (w : World) (hB : Blk w P (bokC b A c) 48) (hM : ML w base (.slice A2 ln c2) ms) (h1 : Sl .i8 w A1 x) :
    Calls Try.prog 83 #[.pointer (some ⟨P, 0, none⟩), .slice A2 ln c2, .slice A1 nx c1] w fun e w' => (∃ u, e = .returned u ∧ Own w' w.heap.size 2 u (i64s (comps ms x b.ps.length))) ∧ Below w.heap.size w w' := by
  have hcl : ∀ W, Below w.heap.size w W → W.cell? ⟨P, 3, none⟩ = some (.slice A b.ps.length c) := fun W hW => by rw [(hB.kept hW).at]; rfl
  have hcln := As.mk (comps_len ms x)
  have hm3 := As.mk hm3
  have hln := As.mk hln
  generalize b.ps.length = n at *
  have hn' : (n : Int) ≤ 100 := by omega
  have hO0 := Own.lit w w.heap.size 2 [] (Nat.le_refl _) (by simp)
  have hb0 := bl_new (Below.refl _ w) (.cells #[] 2)
  go_enter Try.func83, Try.ntmps83
  go_wp2_with (fail)
  go_loopw [7, 8] (fun v0 i wr => ∃ (k : Nat) (v : Value), k ≤ n ∧ v = v0 ∧ i = .int .i64 k ∧ Own wr w.heap.size 2 v (i64s (comps ms x k)) ∧ Below w.heap.size w wr) (fun _ i _ => n - (intOf i).toNat)
  case atStart => exact ⟨0, _, by omega, rfl, rfl, hO0, hb0⟩
  case round =>
    obtain ⟨k, v, hk, rfl, rfl, hO, hb⟩ := hrel
    clear hO0 hb0
    have cc := hcl wr hb
    by_cases hlt : k < n
    · have hlt' : (k : Int) < (n : Int) := by omega
      have hltl : (k : Int) < (ln : Int) := by omega
      have hMr := hM.kept hb
      have h1r := h1.kept hb
      obtain ⟨G, g, c', hA2, cm, hI⟩ := hMr.at k (by rw [hln.out]; omega)
      have hl3 := hm3.out k (by omega)
      have hst := As.mk (show comps ms x (k + 1) = if begs (nthL ms k) x then comps ms x k ++ [(k : Int)] else comps ms x k from rfl)
      have hlk := hcln.out k
      generalize nthL ms k = m at *
      have hbg := l03Begins_any m x (some ⟨g, 0, none⟩) A1 m.length c' nx c1 rfl hx (by have := hI.cap; rw [i8s_length] at this; exact this) wr hI.sl' h1r
      generalize m.length = nm at *
      generalize comps ms x k = cs at *
      have hcs2 := i64s_length cs
      subst hA2
      clear hI hMr
      cases hq : begs m x
      · rw [hq, if_neg (by simp)] at hst
        rw [hq] at hbg
        go_wp2_with (fail)
        refine hbg.mono ?_; rintro e w1 ⟨rfl, hb1⟩
        replace hO := hO.kept hb1
        replace hb := bl_call hb hb1
        go_wp2_with (fail)
        go_roundw
        case rel => exact ⟨k + 1, _, by omega, rfl, by go_num, by rw [hst.out]; exact hO, hb⟩
        case measure => simp [intOf]; omega
      · rw [hq, if_pos rfl] at hst
        rw [hq] at hbg
        go_wp2_with (fail)
        refine hbg.mono ?_; rintro e w1 ⟨rfl, hb1⟩
        replace hO := hO.kept hb1
        replace hb := bl_call hb hb1
        clear hbg hb1
        go_wp2_with (at_builtin; refine app1 (w0 := w) (w.heap.size) rfl (.tmp 25) (.tmp 27) 60 2 (.int .i64 0) 8 rfl Try.underlying60 info_i64 rfl (by omega) (v) (i64s cs) (.int .i64 (k : Int)) rfl rfl rfl hO hb hb.size (by rw [hcs2]; omega) ?_)
        intro v2 w2 hO2 hb2 _ _
        rw [i64_snoc'] at hO2
        go_wp2_with (fail)
        go_roundw
        case rel => exact ⟨k + 1, _, by omega, rfl, by go_num, by rw [hst.out]; exact hO2, hb2⟩
        case measure => simp [intOf]; omega
    · obtain rfl : k = n := by omega
      go_wp2_with (fail)
      go_ret
      exact ⟨⟨_, rfl, hO⟩, hb⟩

set_option maxRecDepth 100000 in
set_option maxHeartbeats 4000000 in
theorem completions_any (b : Bok) (hz : szd b = true) (A : Option Addr) (c : Nat) (hn : b.ps.length ≤ 100) (hnl : b.ps.length ≤ (outB b).length)
    (x : List Int) (nx : Nat) (hx : x.length = nx) (A1 : Option Addr) (c1 : Nat) (w : World) (h1 : Sl .i8 w A1 x) :
    Calls Try.prog 85 #[bok b A c, .slice A1 nx c1] w fun e w' => (∃ u, e = .returned u ∧ Own w' w.heap.size 2 u (i64s (comps (outB b) x b.ps.length))) ∧ Below w.heap.size w w' := by
  have mns := fun W => iMeanings_any b hz A c W
  have hmem := outB_mem hz
  have hm3 : ∀ k, k < (outB b).length → (nthL (outB b) k).length ≤ 3 := fun k hk => (hmem _ (nthL_mem _ k hk)).2.1
  have hole := outB_le hz
  have lb := bokC_length b A c
  have B0 := (Blk.mk w (bokC b A c) 48 rfl).alloc (.cells #[] 2)
  have hO0 : Own ((w.alloc (.cells (bokC b A c).toArray 48)).alloc (.cells #[] 2)) w.heap.size 2 (.slice (some ⟨w.heap.size + 1, 0, none⟩) 0 0) [] := by
    have := Own.lit (w.alloc (.cells (bokC b A c).toArray 48)) w.heap.size 2 [] (by simp) (by simp)
    simpa using this
  have bb := bl_new (bl_new (Below.refl _ w) (.cells (bokC b A c).toArray 48)) (.cells #[] 2)
  have hcl : ∀ W, Blk W w.heap.size (bokC b A c) 48 → W.cell? ⟨w.heap.size, 3, none⟩ = some (.slice A b.ps.length c) := fun W hW => by rw [hW.at]; rfl
  unfold bok
  unfold bok at mns
  have hcln := As.mk (comps_len (outB b) x)
  have hm3 := As.mk hm3
  clear hmem
  generalize outB b = ms at *
  generalize bokC b A c = cs at *
  generalize b.ps.length = n at *
  have hn' : (n : Int) ≤ 100 := by omega
  go_enter Try.func85, Try.ntmps85
  go_wp2_with (fail)
  generalize hL0 : w.heap.size = L0 at hcl B0 hO0 ⊢
  rw [hL0] at bb
  generalize (w.alloc (.cells cs.toArray 48)).alloc (.cells #[] 2) = W at *
  refine wp_region_held_drew (S := (Below W.heap.size W)) (by kernel_rfl) (Below.refl W.heap.size W).drew (fun hHeld => ?_)
  (refine hTake 0 9 rfl rfl (by kernel_rfl) (by kernel_rfl) (by kernel_rfl) (fun _ _ _ h => h) (yieldsIf_load_mid (by rfl) _ _ rfl _ _ rfl cs _ (fun W h => (B0.kept h).range) Try.underlying48 rfl (by rw [lb]; exact info_ib)) hHeld ?_; simp only [List.set_cons_zero, List.set_cons_succ])
  (refine hTake 2 11 (v := .pointer (some ⟨L0, 3, none⟩)) rfl rfl (by kernel_rfl) (by kernel_rfl) (by kernel_rfl) (fun _ _ _ h => h) (Or.inl ⟨by rfl, fun W h => by go_simp⟩) hHeld ?_; simp only [List.set_cons_zero, List.set_cons_succ])
  (refine hTake 3 12 (v := .slice A n c) rfl rfl (by kernel_rfl) (by kernel_rfl) (by kernel_rfl) (fun _ _ _ h => h) (Or.inl ⟨by rfl, fun W h => by (have h1 := hcl _ (B0.kept h); clear h hcl; go_simp)⟩) hHeld ?_; simp only [List.set_cons_zero, List.set_cons_succ])
  (refine hTake 4 13 (v := .int .i64 n) rfl rfl (by kernel_rfl) (by kernel_rfl) (by kernel_rfl) (fun _ _ _ h => h) (Or.inl ⟨by rfl, fun W h => by go_simp⟩) hHeld ?_; simp only [List.set_cons_zero, List.set_cons_succ])
  (refine hTake 7 16 (v := .int .i64 0) rfl rfl (by kernel_rfl) (by kernel_rfl) (by kernel_rfl) (fun _ _ _ h => h) (Or.inl ⟨by rfl, fun W _ => rfl⟩) hHeld ?_; simp only [List.set_cons_zero, List.set_cons_succ])
  refine wpAnyH_ready (rs := [1]) (by kernel_rfl) (by simp) ?_
  refine kCallE 1 10 73 rfl rfl (args := #[.agg cs.toArray]) (by rfl) (by go_simp) (R := fun v w' => ML w' W.drew.heap.size v ms ∧ Below W.drew.heap.size W.drew w') ((mns W.drew).mono (fun e w' h => by obtain ⟨⟨v, e1, hM⟩, hb⟩ := h; exact ⟨v, e1, hM, hb⟩)) (fun v w1 hR => ⟨bl_call hHeld hR.2, ?_⟩) AllReadyH.nil
  obtain ⟨hM, hb1⟩ := hR
  replace hHeld := bl_call hHeld hb1
  obtain ⟨A2, c2, rfl⟩ := hM.slice
  simp only [List.set_cons_zero, List.set_cons_succ]
  have hcap := hM.capI
  generalize hln : ms.length = ln at *
  have hln := As.mk hln
  have hole' : (ln : Int) ≤ 3000 := by omega
  have hnc : (n : Int) ≤ (c2 : Int) := by omega
  have hO1 := hO0.kept hHeld
  have hW : L0 ≤ W.heap.size := by rw [← hL0]; exact Nat.le_trans (by simp) bb.size
  have hbW := bb.trans (hHeld.mono hW)
  have h1w := h1.kept (hL0 ▸ hbW)
  clear hcl B0 mns hb1 hO0
  cases A2 with
  | none =>
    obtain ⟨z0, z1, z2⟩ := hM.none0
    obtain rfl : n = 0 := by rw [hln.out] at z0; omega
    subst z2
    (refine hTake 5 14 (v := .slice none 0 0) rfl rfl (by kernel_rfl) (by kernel_rfl) (by kernel_rfl) (fun _ _ _ h => h) (Or.inl ⟨by rfl, fun W h => by go_simp⟩) hHeld ?_; simp only [List.set_cons_zero, List.set_cons_succ])
    (refine hTake 6 15 (v := .int .i64 0) rfl rfl (by kernel_rfl) (by kernel_rfl) (by kernel_rfl) (fun _ _ _ h => h) (Or.inl ⟨by rfl, fun W h => by go_simp⟩) hHeld ?_; simp only [List.set_cons_zero, List.set_cons_succ])
    refine wpAnyH_done (by kernel_rfl) ?_ _
    go_wp2_with (fail)
    go_loopw [5, 16] (fun v0 i wr => v0 = .slice (some ⟨L0 + 1, 0, none⟩) 0 0 ∧ i = .int .i64 0 ∧ w1 = wr) (fun _ i _ => 0)
    case atStart => exact ⟨rfl, rfl, rfl⟩
    case round =>
      obtain ⟨rfl, rfl, rfl⟩ := hrel
      go_wp2_with (fail)
      go_ret
      exact ⟨⟨_, rfl, by rw [hL0]; exact hO1⟩, by rw [hL0]; exact hbW⟩
  | some a2 =>
    (refine hTake 5 14 (v := .slice (some a2) n c2) rfl rfl (by kernel_rfl) (by kernel_rfl) (by kernel_rfl) (fun _ _ _ h => h) (Or.inl ⟨by rfl, fun W h => by go_simp⟩) hHeld ?_; simp only [List.set_cons_zero, List.set_cons_succ])
    (refine hTake 6 15 (v := .int .i64 n) rfl rfl (by kernel_rfl) (by kernel_rfl) (by kernel_rfl) (fun _ _ _ h => h) (Or.inl ⟨by rfl, fun W h => by go_simp⟩) hHeld ?_; simp only [List.set_cons_zero, List.set_cons_succ])
    refine wpAnyH_done (by kernel_rfl) ?_ _
    go_wp2_with (fail)
    go_loopw [5, 16] (fun v0 i wr => ∃ (k : Nat) (v : Value), k ≤ n ∧ v = v0 ∧ i = .int .i64 k ∧ Own wr L0 2 v (i64s (comps ms x k)) ∧ ML wr W.drew.heap.size (.slice (some a2) ln c2) ms ∧ Below L0 w wr) (fun _ i _ => n - (intOf i).toNat)
    case atStart => exact ⟨0, _, by omega, rfl, rfl, hO1, hM, hbW⟩
    case round =>
      clear hO1 hM hbW
      obtain ⟨k, v, hk, rfl, rfl, hO, hMr, hb⟩ := hrel
      by_cases hlt : k < n
      · have hlt' : (k : Int) < (n : Int) := by omega
        have h1r := h1.kept (hL0 ▸ hb)
        obtain ⟨G, g, c', hA2, cm, hI⟩ := hMr.at k (by rw [hln.out]; omega)
        have hl3 := hm3.out k (by omega)
        have hst := As.mk (show comps ms x (k + 1) = if begs (nthL ms k) x then comps ms x k ++ [(k : Int)] else comps ms x k from rfl)
        have hlk := hcln.out k
        generalize nthL ms k = m at *
        have hbg := begins_any m x (some ⟨g, 0, none⟩) A1 m.length c' nx c1 rfl hx (by have := hI.cap; rw [i8s_length] at this; exact this) wr hI.sl' h1r
        generalize m.length = nm at *
        generalize comps ms x k = ks at *
        have hcs2 := i64s_length ks
        simp only [Option.some.injEq] at hA2
        subst hA2
        clear hI
        cases hq : begs m x
        · rw [hq, if_neg (by simp)] at hst
          rw [hq] at hbg
          go_wp2_with (fail)
          refine hbg.mono ?_; rintro e w3 ⟨rfl, hb1⟩
          replace hO := hO.kept hb1
          replace hMr := hMr.kept hb1
          replace hb := hb.trans (hb1.mono (by rw [← hL0]; exact (hL0 ▸ hb).size))
          go_wp2_with (fail)
          go_roundw
          case rel => exact ⟨k + 1, _, by omega, rfl, by go_num, by rw [hst.out]; exact hO, hMr, hb⟩
          case measure => simp [intOf]; omega
        · rw [hq, if_pos rfl] at hst
          rw [hq] at hbg
          go_wp2_with (fail)
          refine hbg.mono ?_; rintro e w3 ⟨rfl, hb1⟩
          replace hO := hO.kept hb1
          replace hMr := hMr.kept hb1
          replace hb := hb.trans (hb1.mono (by rw [← hL0]; exact (hL0 ▸ hb).size))
          have hszz : L0 ≤ w3.heap.size := by rw [← hL0]; exact (hL0 ▸ hb).size
          clear hbg hb1
          go_wp2_with (at_builtin; refine app1 (w0 := w) (L0) rfl (.tmp 24) (.tmp 26) 60 2 (.int .i64 0) 8 rfl Try.underlying60 info_i64 rfl (by omega) (v) (i64s ks) (.int .i64 (k : Int)) rfl rfl rfl hO hb hszz (by rw [hcs2]; omega) ?_)
          intro v2 w4 hO2 hb2 hg2 _
          rw [i64_snoc'] at hO2
          have hMr2 := hMr.grownT hO hg2 (by decide) (by decide)
          go_wp2_with (fail)
          go_roundw
          case rel => exact ⟨k + 1, _, by omega, rfl, by go_num, by rw [hst.out]; exact hO2, hMr2, hb2⟩
          case measure => simp [intOf]; omega
      · obtain rfl : k = n := by omega
        go_wp2_with (fail)
        go_ret
        exact ⟨⟨_, rfl, by rw [hL0]; exact hO⟩, by rw [hL0]; exact hb⟩
end Go.Proofs.Ytnokdbnlagoidaa
