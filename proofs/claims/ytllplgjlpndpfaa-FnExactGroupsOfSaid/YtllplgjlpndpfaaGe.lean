/- Contracts: lists of meanings compared, marked, held. -/
import Derived.Test.YtllplgjlpndpfaaGs
import Derived.Test.YtllplgjlpndpfaaN1
set_option linter.unusedVariables false
namespace Go.Proofs.Ytllplgjlpndpfaa
open Go.RowKit

set_option maxRecDepth 100000 in
set_option maxHeartbeats 2000000 in
theorem eqMeaningS_any (gs : List (List Int)) (hn : gs.length ≤ 1000) (b1 b2 : Nat) (v1 v2 : Value) (w : World) (h1 : MD w b1 v1 gs) (h2 : MD w b2 v2 gs) :
    Calls Try.prog 37 #[v1, v2] w fun e w' => e = .returned (.bool true) ∧ Below w.heap.size w w' := by
  obtain ⟨A1, c1, rfl⟩ := h1.slice
  obtain ⟨A2, c2, rfl⟩ := h2.slice
  generalize hm : gs.length = n at *
  have HM := As.mk hm
  clear hm
  have hn' : (n : Int) ≤ 1000 := by omega
  go_enter Try.func37, Try.ntmps37
  go_wp2_with (fail)
  go_loopw [5] (fun i wr => ∃ k : Nat, k ≤ n ∧ i = .int .i64 k ∧ As (∃ q, wr = w.drewN q)) (fun i _ => n - (intOf i).toNat)
  case atStart => exact ⟨0, by omega, rfl, ⟨0, rfl⟩⟩
  case round =>
    obtain ⟨k, hk, rfl, HW⟩ := hrel
    by_cases hlt : k < n
    · have hlt' : (k : Int) < (n : Int) := by omega
      obtain ⟨G1, g1, d1, e1, m1, O1⟩ := h1.at k (by rw [HM.out]; exact hlt)
      obtain ⟨G2, g2, d2, e2, m2, O2⟩ := h2.at k (by rw [HM.out]; exact hlt)
      have m1' : wr.cell? ⟨G1, k, none⟩ = some (.slice (some ⟨g1, 0, none⟩) (nthL gs k).length d1) := by obtain ⟨q, hq⟩ := HW.out; rw [hq]; exact m1
      have m2' : wr.cell? ⟨G2, k, none⟩ = some (.slice (some ⟨g2, 0, none⟩) (nthL gs k).length d2) := by obtain ⟨q, hq⟩ := HW.out; rw [hq]; exact m2
      have O1' : Own wr b1 62 (.slice (some ⟨g1, 0, none⟩) (nthL gs k).length d1) (i8s (nthL gs k)) := by obtain ⟨q, hq⟩ := HW.out; rw [hq]; exact O1.drewN q
      have O2' : Own wr b2 62 (.slice (some ⟨g2, 0, none⟩) (nthL gs k).length d2) (i8s (nthL gs k)) := by obtain ⟨q, hq⟩ := HW.out; rw [hq]; exact O2.drewN q
      have hd : As (∀ nq, ∃ q, wr.drewN nq = w.drewN q) := ⟨fun nq => by obtain ⟨q, hq⟩ := HW.out; exact ⟨q + nq, by rw [hq]; simp [World.drewN, Nat.add_assoc]⟩⟩
      have key := fun W (h1 : Sl .i8 W (some ⟨g1, 0, none⟩) (nthL gs k)) h2 => eqMeaning_drew (nthL gs k) (nthL gs k) (some ⟨g1, 0, none⟩) (some ⟨g2, 0, none⟩) d1 d2 W h1 h2
      rw [decide_eq_true rfl] at key
      have S1 : ∀ q, Sl .i8 (wr.drewN q) (some ⟨g1, 0, none⟩) (nthL gs k) := fun q => (O1'.drewN q).sl'
      have S2 : ∀ q, Sl .i8 (wr.drewN q) (some ⟨g2, 0, none⟩) (nthL gs k) := fun q => (O2'.drewN q).sl'
      have key2 := fun q => key (wr.drewN q) (S1 q) (S2 q)
      subst e1
      subst e2
      clear m1 m2 O1 O2 O1' O2' key
      generalize (nthL gs k).length = nm at *
      go_wp2_with (fail)
      go_quiet ((go_at_call 20; exact Calls.quiet_of (key2 _)))
      go_wp2_with (fail)
      go_roundw
      case rel => exact ⟨k + 1, by omega, by go_num, ⟨hd.out _⟩⟩
      case measure => simp [intOf]; omega
    · obtain rfl : k = n := by omega
      have hbl := As.mk (show Below w.heap.size w wr by obtain ⟨q, hq⟩ := HW.out; rw [hq]; exact bl_drewN (Below.refl _ _) _)
      go_wp2_with (fail)
      go_ret
      exact ⟨rfl, hbl.out⟩

/-- How many numbers the first k lists have. -/
def off (gs : List (List Int)) : Nat → Nat
  | 0 => 0
  | k + 1 => off gs k + (nthL gs k).length
theorem off_mono (gs : List (List Int)) : ∀ {j k : Nat}, j ≤ k → off gs j ≤ off gs k := fun {j k} h => by
  induction k with
  | zero => obtain rfl : j = 0 := by omega
            exact Nat.le_refl _
  | succ k ih =>
    by_cases e : j = k + 1
    · rw [e]; exact Nat.le_refl _
    · have := ih (by omega); show _ ≤ off gs k + _; omega
/-- The first j lists are marked. -/
def mkP (gs : List (List Int)) : Nat → List (List Int)
  | 0 => gs
  | j + 1 => (mkP gs j).set j (marks .i8 (1 + (off gs j : Int)) (nthL gs j).length)
theorem mkP_length (gs : List (List Int)) : ∀ j, (mkP gs j).length = gs.length
  | 0 => rfl
  | j + 1 => by show (List.set _ _ _).length = _; rw [List.length_set, mkP_length gs j]
theorem mkP_nth (gs : List (List Int)) (i : Nat) : ∀ j, j ≤ gs.length → nthL (mkP gs j) i = if i < j then marks .i8 (1 + (off gs i : Int)) (nthL gs i).length else nthL gs i
  | 0, _ => by rw [if_neg (by omega)]; rfl
  | j + 1, h => by
    show nthL ((mkP gs j).set j _) i = _
    rw [nthL_set _ _ _ _ (by rw [mkP_length]; omega), mkP_nth gs i j (by omega)]
    by_cases e : i = j
    · subst e; rw [if_pos rfl, if_pos (by omega)]
    · rw [if_neg e]
      by_cases h2 : i < j
      · rw [if_pos h2, if_pos (by omega)]
      · rw [if_neg h2, if_neg (by omega)]
set_option maxRecDepth 100000 in
set_option maxHeartbeats 2000000 in
theorem markMeaningS_any (gs : List (List Int)) (hn : gs.length ≤ 1000) (ho : off gs gs.length ≤ 1000) (base : Nat) (v : Value) (w : World) (hb : base ≤ w.heap.size) (h : MD w base v gs) :
    Calls Try.prog 38 #[v, .int .i64 1] w fun e w' => e = .returned (.int .i64 (1 + (off gs gs.length : Int))) ∧ MD w' base v (mkP gs gs.length) ∧ Below base w w' := by
  obtain ⟨A, c, rfl⟩ := h.slice
  have hmo := fun j hj => off_mono gs (j := j) (k := gs.length) hj
  have hnth := mkP_nth gs
  have hml := mkP_length gs
  generalize hm : gs.length = n at *
  have HM := As.mk hm
  have hn' : (n : Int) ≤ 1000 := by omega
  have hmo := As.mk hmo
  have hnth := As.mk hnth
  have hml := As.mk hml
  go_enter Try.func38, Try.ntmps38
  go_wp2_with (fail)
  go_loopw [5, 1] (fun i kk wr => ∃ j : Nat, j ≤ n ∧ i = .int .i64 j ∧ kk = .int .i64 (1 + (off gs j : Int)) ∧ MD wr base (.slice A n c) (mkP gs j) ∧ Below base w wr) (fun i _ _ => n - (intOf i).toNat)
  case atStart => exact ⟨0, by omega, rfl, rfl, h, Below.refl _ _⟩
  case round =>
    clear h
    obtain ⟨j, hj, rfl, rfl, hM, hbl⟩ := hrel
    by_cases hlt : j < n
    · have hlt' : (j : Int) < (n : Int) := by omega
      obtain ⟨vs, h1, h2, h3⟩ := hM
      have hvl : vs.length = n := by rw [h2.1]; exact hml.out j
      obtain ⟨g, c', e, hO⟩ := h2.2 j (by rw [hml.out]; exact hlt)
      obtain ⟨G, rfl⟩ := h1.addr (by omega)
      have cm : wr.cell? ⟨G, j, none⟩ = some (.slice (some ⟨g, 0, none⟩) (nthL (mkP gs j) j).length c') := by rw [h1.cellAt j (by omega)]; exact e
      have hnj := hnth.out j j (by omega)
      rw [if_neg (by omega)] at hnj
      have hoj := hmo.out (j + 1) (by omega)
      have hs : off gs (j + 1) = off gs j + (nthL gs j).length := rfl
      have hoj0 := hmo.out j hj
      have hst := As.mk (show mkP gs (j + 1) = (mkP gs j).set j (marks .i8 (1 + (off gs j : Int)) (nthL gs j).length) from rfl)
      have hs2 := As.mk hs
      rw [hs] at hoj
      rw [hnj] at cm hO e
      have key := markMeaning_any (nthL gs j) base (.slice (some ⟨g, 0, none⟩) (nthL gs j).length c') (1 + (off gs j : Int)) (by omega) (by omega) wr hO
      have hmm := marks_length .i8 (1 + (off gs j : Int)) (nthL gs j).length
      have upd := fun w1 (hO1 : Own w1 base 62 (.slice (some ⟨g, 0, none⟩) (nthL gs j).length c') (i8s (marks .i8 (1 + (off gs j : Int)) (nthL gs j).length))) hg => h2.upd h3 j (by rw [hml.out]; exact hlt) e (m := marks .i8 (1 + (off gs j : Int)) (nthL gs j).length) (by rw [hmm, hnj]) hO1 hg
      have out := fun w1 (hg : wr.grownBy w1 (Value.slice (some ⟨g, 0, none⟩) (nthL gs j).length c').ownBlock) => h1.grown hg ((Ap.of_typ hO h1 im_ne).symm).ne
      have hge := hO.ge g rfl
      have hbr : base ≤ wr.heap.size := Nat.le_trans hb hbl.size
      have low := fun w1 (hg : wr.grownBy w1 (Value.slice (some ⟨g, 0, none⟩) (nthL gs j).length c').ownBlock) => hbl.grown hg hbr (fun k hk => by simp only [Value.ownBlock, Option.some.injEq] at hk; omega)
      clear h1 hO hnj hmm hs
      generalize (nthL gs j).length = nm at *
      generalize off gs j = oj at *
      have hoI : ((oj + nm : Nat) : Int) = (oj : Int) + (nm : Int) := by omega
      have hoi9 : (oj : Int) ≤ 1000 := by omega
      have hnm9 : (nm : Int) ≤ 1000 := by omega
      have hadd := As.mk (show (1 : Int) + ((oj + nm : Nat) : Int) = 1 + (oj : Int) + (nm : Int) by omega)
      clear hoI
      go_wp2_with (fail)
      refine key.mono ?_; rintro e' w1 ⟨rfl, hO1, hg⟩
      have hM2 : MD w1 base (.slice (some ⟨G, 0, none⟩) n c) (mkP gs (j + 1)) := by rw [hst.out]; exact ⟨vs, out w1 hg, upd w1 hO1 hg, h3⟩
      have hb2 := low w1 hg
      clear key upd out low
      go_wp2_with (fail)
      go_roundw
      case rel => exact ⟨j + 1, by omega, by go_num, by rw [hs2.out, hadd.out], hM2, hb2⟩
      case measure => simp [intOf]; omega
    · obtain rfl : j = n := by omega
      go_wp2_with (fail)
      go_ret
      exact ⟨rfl, hM, hbl⟩
set_option maxRecDepth 100000 in
set_option maxHeartbeats 2000000 in
theorem heldMeaningS_any (gs : List (List Int)) (hn : gs.length ≤ 1000) (ho : off gs gs.length ≤ 1000) (base : Nat) (v : Value) (w : World) (h : MD w base v (mkP gs gs.length)) :
    Calls Try.prog 39 #[v, .int .i64 1] w fun e w' => e = .returned (.int .i64 (1 + (off gs gs.length : Int))) ∧ Below w.heap.size w w' := by
  obtain ⟨A, c, rfl⟩ := h.slice
  have hmo := fun j hj => off_mono gs (j := j) (k := gs.length) hj
  have hnth := fun i (hi : i < gs.length) => mkP_nth gs i gs.length (Nat.le_refl _)
  rw [mkP_length] at h ⊢
  have hml := mkP_length gs gs.length
  generalize hm : gs.length = n at *
  have HM := As.mk hm
  have hn' : (n : Int) ≤ 1000 := by omega
  have hmo := As.mk hmo
  have hnth := As.mk hnth
  have hml := As.mk hml
  go_enter Try.func39, Try.ntmps39
  go_wp2_with (fail)
  go_loopw [5, 1] (fun i kk wr => ∃ j : Nat, j ≤ n ∧ i = .int .i64 j ∧ kk = .int .i64 (1 + (off gs j : Int)) ∧ Below w.heap.size w wr) (fun i _ _ => n - (intOf i).toNat)
  case atStart => exact ⟨0, by omega, rfl, rfl, Below.refl _ _⟩
  case round =>
    obtain ⟨j, hj, rfl, rfl, hbl⟩ := hrel
    by_cases hlt : j < n
    · have hlt' : (j : Int) < (n : Int) := by omega
      obtain ⟨G, g, c', e1, cm, hO⟩ := (h.kept hbl).at j (by rw [hml.out]; exact hlt)
      have hnj := hnth.out j hlt
      rw [if_pos hlt] at hnj
      have hoj := hmo.out (j + 1) (by omega)
      have hs : off gs (j + 1) = off gs j + (nthL gs j).length := rfl
      have hs2 := As.mk hs
      rw [hs] at hoj
      rw [hnj, marks_length] at cm hO
      have key := heldMeaning_any (nthL gs j).length (some ⟨g, 0, none⟩) c' (1 + (off gs j : Int)) (by omega) (by omega) wr hO.sl'
      subst e1
      clear hO hnj hs
      generalize (nthL gs j).length = nm at *
      generalize off gs j = oj at *
      have hoi9 : (oj : Int) ≤ 1000 := by omega
      have hnm9 : (nm : Int) ≤ 1000 := by omega
      have hneg : ¬ (1 + (oj : Int) + (nm : Int) < 0) := by omega
      have hadd := As.mk (show (1 : Int) + ((oj + nm : Nat) : Int) = 1 + (oj : Int) + (nm : Int) by omega)
      go_wp2_with (fail)
      refine key.mono ?_; rintro e' w1 ⟨rfl, hb1⟩
      have hb2 := bl_call hbl hb1
      clear key
      go_wp2_with (fail)
      go_roundw
      case rel => exact ⟨j + 1, by omega, by go_num, by rw [hs2.out, hadd.out], hb2⟩
      case measure => simp [intOf]; omega
    · obtain rfl : j = n := by omega
      go_wp2_with (fail)
      go_ret
      exact ⟨rfl, hbl⟩
end Go.Proofs.Ytllplgjlpndpfaa
