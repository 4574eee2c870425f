/- Contracts and plain facts, several texts in one. -/
import Derived.Test.YtjppoejkfpeicaaDoorQP4
import Derived.Test.YtjppoejkfpeicaaDoorQP1
/- Contracts: (impl.Flag).blur. -/
set_option linter.unusedVariables false
namespace Go.Proofs.YtjppoejkfpeicaaDoor
open Go.RowKit

theorem info_i6 : (Tryd.prog.info? 86).map (·.size) = some 6 := by kernel_rfl
/-- Where the cells of block b stand. -/
def posL (b : Nat) : List Int := (List.range 4).map fun m => ((pos b m : Nat) : Int)
theorem posL_length (b : Nat) : (posL b).length = 4 := by simp [posL]
theorem posL_at (b : Nat) : posL b = [2 * ((b : Int) % 3) + 12 * ((b : Int) / 3), 2 * ((b : Int) % 3) + 12 * ((b : Int) / 3) + 1, 2 * ((b : Int) % 3) + 12 * ((b : Int) / 3) + 6, 2 * ((b : Int) % 3) + 12 * ((b : Int) / 3) + 6 + 1] := by
  apply List.ext_getElem
  · simp [posL]
  · intro i h1 h2
    simp only [posL, List.getElem_map, List.getElem_range, pos]
    have : i = 0 ∨ i = 1 ∨ i = 2 ∨ i = 3 := by simp [posL] at h1; omega
    rcases this with rfl | rfl | rfl | rfl <;> simp <;> omega
theorem posL_nth (b m : Nat) (h : m < 4) : nth (posL b) m = ((pos b m : Nat) : Int) := nth_map_range _ _ _ h
theorem blur_idx (xs : List Int) (b : Nat) : firstIdx (fun i => nth (cntL xs b 4) i == nth (cntL xs b 4) (bestUp (nth (cntL xs b 4)) 5)) 6 0 = blurF xs b := by
  rw [firstIdx_best (nth (cntL xs b 4)) 5]
  unfold blurF
  rw [bestUp_congr (nth (cntL xs b 4)) (cntB xs b 4) 5 (fun j hj => cntL_nth xs b 4 j (by omega))]

set_option maxRecDepth 20000 in
set_option maxHeartbeats 2000000 in
theorem blur_any (xs : List Int) (hx : xs.length = 24) (rx : Bytes xs) (hv : vf xs = true) (w : World) :
    Calls Tryd.prog 43 #[fl xs] w fun e w' => e = .returned (.agg (u8s (blurL xs)).toArray) ∧ Below w.heap.size w w' := by
  unfold fl
  have HZ := As.mk (part_zero (blurF xs) 6)
  have A0 : Blk (((w.alloc (.cells (u8s xs).toArray 23)).alloc (.cells #[.int .u8 0, .int .u8 0, .int .u8 0, .int .u8 0, .int .u8 0, .int .u8 0] 39)).alloc (.cells #[.int .u8 0, .int .u8 0, .int .u8 0, .int .u8 0, .int .u8 0, .int .u8 0] 39)) w.heap.size (u8s xs) 23 := ((Blk.new _ _ _).alloc _).alloc _
  have B0 : Blk (((w.alloc (.cells (u8s xs).toArray 23)).alloc (.cells #[.int .u8 0, .int .u8 0, .int .u8 0, .int .u8 0, .int .u8 0, .int .u8 0] 39)).alloc (.cells #[.int .u8 0, .int .u8 0, .int .u8 0, .int .u8 0, .int .u8 0, .int .u8 0] 39)) (w.heap.size + 1) (u8s zero6) 39 := (Blk.mk _ (u8s zero6) _ (by simp)).alloc _
  have B1 : Blk (((w.alloc (.cells (u8s xs).toArray 23)).alloc (.cells #[.int .u8 0, .int .u8 0, .int .u8 0, .int .u8 0, .int .u8 0, .int .u8 0] 39)).alloc (.cells #[.int .u8 0, .int .u8 0, .int .u8 0, .int .u8 0, .int .u8 0, .int .u8 0] 39)) (w.heap.size + 1 + 1) (u8s zero6) 39 := Blk.mk _ (u8s zero6) _ (by simp)
  have b0 : Below w.heap.size w (((w.alloc (.cells (u8s xs).toArray 23)).alloc (.cells #[.int .u8 0, .int .u8 0, .int .u8 0, .int .u8 0, .int .u8 0, .int .u8 0] 39)).alloc (.cells #[.int .u8 0, .int .u8 0, .int .u8 0, .int .u8 0, .int .u8 0, .int .u8 0] 39)) := bl_new (bl_new (bl_new (Below.refl _ _) _) _) _
  have D0 := A0.farRow (g := w.heap.size + 1 + 1) (by omega) (u8s zero6).toArray
  have C0 := B0.farRow (g := w.heap.size + 1 + 1) (by omega) (u8s zero6).toArray
  have C1 := B1.setRow (u8s zero6)
  have c0 := bl_setRow b0 (g := w.heap.size + 1 + 1) (by omega) (u8s zero6).toArray
  go_enter Tryd.func43, Tryd.ntmps43
  go_wp2_with (refine store_blk rfl 39 _ _ rfl _ rfl (ds := u8s zero6) rfl B1 info_b6 (by rw [u8s_length]; exact rfl) (by rw [u8s_length]; exact rfl) (u8s_one _) ?_)
  go_loopw [10] (fun i wr => ∃ k : Nat, k ≤ 6 ∧ i = .int .i64 k ∧ Blk wr w.heap.size (u8s xs) 23 ∧ Blk wr (w.heap.size + 1) (u8s zero6) 39 ∧ Blk wr (w.heap.size + 1 + 1) (u8s (part (blurF xs) 6 k)) 39 ∧ Below w.heap.size w wr) (fun i _ => 6 - (intOf i).toNat)
  case atStart => exact ⟨0, by omega, rfl, D0, C0, by rw [HZ.out]; exact C1, c0⟩
  case round =>
    obtain ⟨k, hk, rfl, g, g0, g1, hb⟩ := hrel
    clear A0 B0 B1 b0 D0 C0 C1 c0 HZ
    by_cases hlt : k < 6
    · have hlt' : (k : Int) < 6 := by omega
      have E2 : Blk (wr.alloc (.cells #[.int .i64 0, .int .i64 0, .int .i64 0, .int .i64 0, .int .i64 0, .int .i64 0] 86)) wr.heap.size (i64s zero6) 86 := Blk.mk _ (i64s zero6) _ rfl
      have Fx := (g.alloc (.cells #[.int .i64 0, .int .i64 0, .int .i64 0, .int .i64 0, .int .i64 0, .int .i64 0] 86)).farRow (Nat.ne_of_lt g.lt) (i64s zero6).toArray
      have F0 := (g0.alloc (.cells #[.int .i64 0, .int .i64 0, .int .i64 0, .int .i64 0, .int .i64 0, .int .i64 0] 86)).farRow (Nat.ne_of_lt g0.lt) (i64s zero6).toArray
      have F1 := (g1.alloc (.cells #[.int .i64 0, .int .i64 0, .int .i64 0, .int .i64 0, .int .i64 0, .int .i64 0] 86)).farRow (Nat.ne_of_lt g1.lt) (i64s zero6).toArray
      have F2 := E2.setRow (i64s zero6)
      have hs0 := g.lt
      have hs1 := g1.lt
      have hbs := hb.size
      have fb := bl_setRow (bl_new hb (.cells #[.int .i64 0, .int .i64 0, .int .i64 0, .int .i64 0, .int .i64 0, .int .i64 0] 86)) hbs (i64s zero6).toArray
      have hsz : ((wr.alloc (.cells #[.int .i64 0, .int .i64 0, .int .i64 0, .int .i64 0, .int .i64 0, .int .i64 0] 86)).setRow wr.heap.size (i64s zero6).toArray).heap.size = wr.heap.size + 1 := by simp
      go_wp2_with (refine store_blk rfl 86 _ _ rfl _ rfl (ds := i64s zero6) rfl E2 info_i6 (by rw [i64s_length]; exact rfl) (by rw [i64s_length]; exact rfl) (i64s_one _) ?_)
      have hP := posL_at k
      generalize 2 * ((k : Int) % 3) + 12 * ((k : Int) / 3) = F at *
      have W2 : Blk (((wr.alloc (.cells #[.int .i64 0, .int .i64 0, .int .i64 0, .int .i64 0, .int .i64 0, .int .i64 0] 86)).setRow wr.heap.size (i64s zero6).toArray).alloc (.cells #[.int .i64 F, .int .i64 (F + 1), .int .i64 (F + 6), .int .i64 (F + 6 + 1)] 3)) (wr.heap.size + 1) (i64s (posL k)) 3 := by
        rw [hP]; exact Blk.mk _ (i64s [F, F + 1, F + 6, F + 6 + 1]) _ hsz.symm
      replace Fx := Fx.alloc (.cells #[.int .i64 F, .int .i64 (F + 1), .int .i64 (F + 6), .int .i64 (F + 6 + 1)] 3)
      replace F0 := F0.alloc (.cells #[.int .i64 F, .int .i64 (F + 1), .int .i64 (F + 6), .int .i64 (F + 6 + 1)] 3)
      replace F1 := F1.alloc (.cells #[.int .i64 F, .int .i64 (F + 1), .int .i64 (F + 6), .int .i64 (F + 6 + 1)] 3)
      replace F2 := F2.alloc (.cells #[.int .i64 F, .int .i64 (F + 1), .int .i64 (F + 6), .int .i64 (F + 6 + 1)] 3)
      replace fb := bl_new fb (.cells #[.int .i64 F, .int .i64 (F + 1), .int .i64 (F + 6), .int .i64 (F + 6 + 1)] 3)
      generalize ((wr.alloc (.cells #[.int .i64 0, .int .i64 0, .int .i64 0, .int .i64 0, .int .i64 0, .int .i64 0] 86)).setRow wr.heap.size (i64s zero6).toArray).alloc (.cells #[.int .i64 F, .int .i64 (F + 1), .int .i64 (F + 6), .int .i64 (F + 6 + 1)] 3) = W at *
      generalize wr.heap.size = B at *
      clear E2 g g0 g1 hb hP hsz
      go_loopw [31] (fun i wr => ∃ m : Nat, m ≤ 4 ∧ i = .int .i64 m ∧ Blk wr w.heap.size (u8s xs) 23 ∧ Blk wr (w.heap.size + 1) (u8s zero6) 39 ∧ Blk wr (w.heap.size + 1 + 1) (u8s (part (blurF xs) 6 k)) 39 ∧ Blk wr B (i64s (cntL xs k m)) 86 ∧ Blk wr (B + 1) (i64s (posL k)) 3 ∧ Below w.heap.size w wr) (fun i _ => 4 - (intOf i).toNat)
      case atStart => exact ⟨0, by omega, rfl, Fx, F0, F1, F2, W2, fb⟩
      case round =>
        obtain ⟨m, hm, rfl, g, g0, g1, g2, g3, hb⟩ := hrel
        clear Fx F0 F1 F2 W2 fb
        by_cases hlt2 : m < 4
        · have hlt2' : (m : Int) < 4 := by omega
          have hP24 := pos_lt k m hlt hlt2
          have n1 := (rx.nth (pos k m)).1
          have n2 : nth xs (pos k m) ≤ 5 := vf_nth hv (pos k m) (by omega)
          obtain ⟨c, hc⟩ := Int.eq_ofNat_of_zero_le n1
          have hc6 : c < 6 := by omega
          have hbd := cntB_bd xs k m c
          have hbd1 := hbd.1
          have hbd2 : cntB xs k m c ≤ 4 := by have := hbd.2; omega
          have hst := As.mk (cntL_step xs k m c hc)
          have cp : wr.cell? ⟨B + 1, m, none⟩ = some (.int .i64 ((pos k m : Nat) : Int)) := by rw [g3.at, i64s_get _ m (by rw [posL_length]; exact hlt2), posL_nth k m hlt2]
          have c0 : wr.cell? ⟨w.heap.size, pos k m, none⟩ = some (.int .u8 c) := by rw [g.at, u8s_get xs _ (by omega), hc]
          have c2 : wr.cell? ⟨B, c, none⟩ = some (.int .i64 (cntB xs k m c)) := by rw [g2.at, i64s_get _ c (by rw [cntL_length]; exact hc6), cntL_nth xs k m c hc6]
          have f2 := g2.frozen c
          clear hbd n1 n2 hc
          generalize pos k m = PP at *
          generalize cntB xs k m c = cn at *
          have hc6' : (c : Int) < 6 := by omega
          have hp6' : (PP : Int) < 24 := by omega
          go_wp2
          go_roundw
          case rel => exact ⟨m + 1, by omega, by go_num, g.far (by simp; omega) _, g0.far (by simp; omega) _, g1.far (by simp; omega) _, by have := g2.set c (.int .i64 (cn + 1)); rw [i64s_set, hst.out] at this; exact this, g3.far (by simp) _, hb.setCell (by simp; omega) _⟩
          case measure => simp [intOf]; omega
        · obtain rfl : m = 4 := by omega
          have hbf := blurF_bd xs k
          have n1 := hbf.1; have n2 := hbf.2
          obtain ⟨v2, c2⟩ := g1.some k (by rw [u8s_length, part_length]; exact hlt)
          have f2 := g1.frozen k
          have hps := As.mk (part_set (blurF xs) 6 k)
          have kI := blur_idx xs k
          have kM := fun W h => Max_int (cntL xs k 4) (by simp [cntL]) (by simp [cntL]) B 0 6 W h
          have kX := fun W h => Index_int (cntL xs k 4) (nth (cntL xs k 4) (bestUp (nth (cntL xs k 4)) 5)) (by simp [cntL]) B 0 6 W h
          have hR := g2.drew.range
          rw [cntL_length] at kM kX
          rw [kI] at kX
          simp only [Nat.reduceSub] at kM
          generalize nth (cntL xs k 4) (bestUp (nth (cntL xs k 4)) 5) = mx at *
          generalize blurF xs k = bf at *
          go_wp2_with (fail)
          have e1 : IntKind.u8.wrap bf = bf := IntWalk.u8_in _ (by omega)
          refine wp_region_still_tail 7 (by kernel_rfl) (by kernel_rfl) ?_
          simp only [List.take_succ_cons, List.take_zero, List.drop_succ_cons, List.drop_zero]
          repeat still_step
          still_call ((kM _ hR).mono fun e w' h => ⟨h.1, h.2.symm⟩)
          repeat still_step
          still_call ((kX _ hR).mono fun e w' h => ⟨h.1, h.2.symm⟩)
          repeat still_step
          refine wpStill_nil ?_
          clear e1
          go_wp2
          go_roundw
          case rel => exact ⟨k + 1, by omega, by go_num, (g.far (by simp; omega) _).drew, (g0.far (by simp) _).drew, by have := (g1.set k (.int .u8 bf)).drew; rw [u8s_set, hps.out] at this; exact this, (hb.setCell (by simp; omega) _).drew⟩
          case measure => simp [intOf]; omega
    · obtain rfl : k = 6 := by omega
      rw [part_full] at g1
      have hl := blurL_length xs
      change Blk wr (w.heap.size + 1 + 1) (u8s (blurL xs)) _ at g1
      go_wp2_with (first | (refine load_blk rfl 39 _ rfl _ rfl g1 Tryd.underlying39 rfl info_b6 (by rw [u8s_length]; exact hl) ?_) | (refine store_blk rfl 39 _ _ rfl _ rfl (ds := u8s (blurL xs)) rfl g0 info_b6 (by rw [u8s_length]; exact hl) (by rw [u8s_length]; exact zero6_length) (u8s_one _) ?_))
      refine ret_blk rfl _ rfl (g0.setRow _) Tryd.underlying39 rfl info_b6 (by rw [u8s_length]; exact hl) rfl ⟨rfl, bl_setRow hb (by omega) _⟩
end Go.Proofs.YtjppoejkfpeicaaDoor

/- Contracts: impl.afar, spec.l01Far: in how many blocks two flags differ from afar. -/
set_option linter.unusedVariables false
namespace Go.Proofs.YtjppoejkfpeicaaDoor
open Go.RowKit

section
variable {P : Program} {ops : Array Oper} {Q : Exit → Act → World → Prop} {S : World → Prop} {listed : Array Bool} {ts : List Value} {ds : List Deferred} {w : World} {fuel : Nat}
/-- One of the operations that may come up: a call of function f. -/
theorem cCall (i d f : Nat) {oi : Oper} (hi : ops[i]? = some oi) (hd : oi.dst = some d) {args : Array Value}
    (hw : Region.wanted oi (yielded ops ts.toArray) = true) (he : (execOp (Act.mk ts.toArray ds).eval oi).run P w = .ok (.enter f args) w) (v : Value) {R : World → Prop}
    (hc : Calls P f args w fun e w' => e = .returned v ∧ R w') {rs : List Nat}
    (h : ∀ w', R w' → S w' ∧ wpAnyH P .any ops Q S fuel (listed.setIfInBounds i true) ⟨(ts.set d v).toArray, ds⟩ w')
    (hs : AllReadyH P .any ops Q S fuel listed ⟨ts.toArray, ds⟩ w rs) : AllReadyH P .any ops Q S fuel listed ⟨ts.toArray, ds⟩ w (i :: rs) := by
  refine AllReadyH.cons hi (fun K hK => ?_) hs
  rw [if_pos hw]
  unfold Oper.wp
  rw [he, Oper.upon_enter]
  refine hc.mono ?_
  rintro e w' ⟨rfl, hR⟩
  obtain ⟨h1, h2⟩ := h w' hR
  refine hK.out _ _ h1 (fun _ => ?_)
  rw [hd]
  simpa [Act.put] using h2
/-- One of the operations that may come up: it gives a value and another world. -/
theorem cVal (i d : Nat) {oi : Oper} (hi : ops[i]? = some oi) (hd : oi.dst = some d)
    (hw : Region.wanted oi (yielded ops ts.toArray) = true) {v : Value} {w' : World} (he : (execOp (Act.mk ts.toArray ds).eval oi).run P w = .ok (.value v) w') {rs : List Nat}
    (h1 : S w') (h2 : wpAnyH P .any ops Q S fuel (listed.setIfInBounds i true) ⟨(ts.set d v).toArray, ds⟩ w')
    (hs : AllReadyH P .any ops Q S fuel listed ⟨ts.toArray, ds⟩ w rs) : AllReadyH P .any ops Q S fuel listed ⟨ts.toArray, ds⟩ w (i :: rs) := by
  refine AllReadyH.cons hi (fun K hK => ?_) hs
  rw [if_pos hw]
  unfold Oper.wp
  rw [he, Oper.upon_value]
  refine hK.out _ _ h1 (fun _ => ?_)
  rw [hd]
  simpa [Act.put] using h2
/-- A whole array is stored. -/
theorem cStore (i : Nat) {oi : Oper} (hi : ops[i]? = some oi) (hd : oi.dst = none)
    (hw : Region.wanted oi (yielded ops ts.toArray) = true) (ty : TypeId) (x y : Operand) (ho : oi.op = .store ty x y) (b : Nat) (hx : (Act.mk ts.toArray ds).eval x = .pointer (some ⟨b, 0, none⟩)) {vs : List Value} (hy : (Act.mk ts.toArray ds).eval y = .agg vs.toArray)
    {cs : List Value} {t : TypeId} (hB : Blk w b cs t) {n : Nat} (hinf : (P.info? ty).map (·.size) = some n) (hn : vs.length = n) (hc : cs.length = n) (h1 : ∀ v ∈ vs, v.oneCell' = true) {rs : List Nat}
    (hS : S (w.setRow b vs.toArray)) (h2 : wpAnyH P .any ops Q S fuel (listed.setIfInBounds i true) ⟨ts.toArray, ds⟩ (w.setRow b vs.toArray))
    (hs : AllReadyH P .any ops Q S fuel listed ⟨ts.toArray, ds⟩ w rs) : AllReadyH P .any ops Q S fuel listed ⟨ts.toArray, ds⟩ w (i :: rs) := by
  refine AllReadyH.cons hi (fun K hK => ?_) hs
  rw [if_pos hw]
  refine wp_store_row ty x y ho b vs.toArray hx hy t cs.toArray hB (by rw [hinf]; simp [hn]) (by simp [hn, hc]) (all_oneCell_toArray h1) ?_
  refine hK.out _ _ hS (fun _ => ?_)
  rw [hd]
  exact h2
theorem range_setRow {W : World} {b g : Nat} {cs : List Value} (h : W.rangeAt b 0 cs) (hne : b ≠ g) (ds : Array Value) : (W.setRow g ds).rangeAt b 0 cs := fun j v hv => by
  rw [← h j v hv]
  unfold World.cell?
  rw [setRow_other W g b ds hne]
end
/-- What is kept through the region. -/
def S2 (w : World) (xs ys : List Int) (W : World) : Prop := Below w.heap.size w W ∧ W.rangeAt w.heap.size 0 (u8s xs) ∧ W.rangeAt (w.heap.size + 1) 0 (u8s ys) ∧ w.heap.size + 2 ≤ W.heap.size
section
variable {w W W' : World} {xs ys : List Int}
theorem S2.call (h : S2 w xs ys W) (hb : Below W.heap.size W W') : S2 w xs ys W' := ⟨bl_call h.1 hb, range_kept h.2.1 hb, range_kept h.2.2.1 hb, Nat.le_trans h.2.2.2 hb.size⟩
theorem S2.alloc (h : S2 w xs ys W) (o : Obj) : S2 w xs ys (W.alloc o) := ⟨bl_new h.1 _, World.rangeAt_alloc h.2.1 _, World.rangeAt_alloc h.2.2.1 _, by have := h.2.2.2; simp; omega⟩
theorem S2.store (h : S2 w xs ys W) {g : Nat} (hg : w.heap.size + 2 ≤ g) (ds : Array Value) : S2 w xs ys (W.setRow g ds) := ⟨bl_setRow h.1 (by omega) _, range_setRow h.2.1 (by omega) _, range_setRow h.2.2.1 (by omega) _, by have := h.2.2.2; simpa using this⟩
end

set_option maxRecDepth 100000 in
set_option maxHeartbeats 2000000 in
theorem afar_any (xs ys : List Int) (hx : xs.length = 24) (hy : ys.length = 24) (rx : Bytes xs) (ry : Bytes ys) (vx : vf xs = true) (vy : vf ys = true) (w : World) :
    Calls Tryd.prog 45 #[fl xs, fl ys] w fun e w' => e = .returned (.int .i64 (diffs (blurL xs) (blurL ys) 6)) ∧ Below w.heap.size w w' := by
  have hi1 : (Tryd.prog.info? 23).map (·.size) = some (u8s xs).length := by rw [u8s_length, hx]; exact info_fl
  have hi2 : (Tryd.prog.info? 23).map (·.size) = some (u8s ys).length := by rw [u8s_length, hy]; exact info_fl
  have kx := fun W => blur_any xs hx rx vx W
  have ky := fun W => blur_any ys hy ry vy W
  have hlx := blurL_length xs
  have hly := blurL_length ys
  unfold fl at *
  have A0 : S2 w xs ys ((w.alloc (.cells (u8s xs).toArray 23)).alloc (.cells (u8s ys).toArray 23)) := ⟨bl_new (bl_new (Below.refl _ _) _) _, ((Blk.new _ _ _).alloc _).range, (Blk.mk _ _ _ (by simp)).range, by simp⟩
  go_enter Tryd.func45, Tryd.ntmps45
  go_wp2_with (fail)
  generalize (w.alloc (.cells (u8s xs).toArray 23)).alloc (.cells (u8s ys).toArray 23) = W0 at *
  generalize hQ : Exit.then _ _ = QQ
  suffices rest : ∀ (W : World) (B5 B6 : Nat), Blk W B5 (u8s (blurL xs)) 39 → Blk W B6 (u8s (blurL ys)) 39 → Below w.heap.size w W →
      QQ .normal ⟨#[.agg (u8s xs).toArray, .agg (u8s ys).toArray, .pointer (some ⟨w.heap.size, 0, none⟩), .pointer (some ⟨w.heap.size + 1, 0, none⟩), .int .i64 0, .pointer (some ⟨B5, 0, none⟩), .pointer (some ⟨B6, 0, none⟩), .agg (u8s xs).toArray, .agg (u8s (blurL xs)).toArray, .agg (u8s ys).toArray, .agg (u8s (blurL ys)).toArray, undef, undef, undef], []⟩ W by
    have hQp : ∀ (c : List PanicEntry) (a : Act) (d : Nat) (v : Value) (w : World), QQ (.panic c) (a.put (some d) v) w → QQ (.panic c) a w := by subst hQ; intro c a d v w h; exact h
    clear hQ
    refine wp_region_held_drew (S := S2 w xs ys) (by kernel_rfl) ⟨A0.1.drew, A0.2.1, A0.2.2.1, A0.2.2.2⟩ (fun hHeld => ?_)
    generalize W0.drew = w0 at *
    (refine hTake 0 7 rfl rfl (by kernel_rfl) (by kernel_rfl) (by kernel_rfl) (fun _ _ _ h => hQp _ _ _ _ _ h) (yieldsIf_load_mid (by rfl) _ _ rfl _ _ rfl (u8s xs) _ (fun W h => h.2.1) Tryd.underlying23 rfl hi1) hHeld ?_; simp only [List.set_cons_zero, List.set_cons_succ])
    (refine hTake 2 9 rfl rfl (by kernel_rfl) (by kernel_rfl) (by kernel_rfl) (fun _ _ _ h => hQp _ _ _ _ _ h) (yieldsIf_load_mid (by rfl) _ _ rfl _ _ rfl (u8s ys) _ (fun W h => h.2.2.1) Tryd.underlying23 rfl hi2) hHeld ?_; simp only [List.set_cons_zero, List.set_cons_succ])
    refine wpAnyH_ready (rs := [1, 4, 5]) (by kernel_rfl) (by simp) ?_
    refine cCall 1 8 43 rfl rfl (args := #[.agg (u8s xs).toArray]) (by rfl) (by go_simp) _ (kx _) (fun w1 hq => ⟨hHeld.call hq, ?_⟩) ?_
    · simp only [List.set_cons_zero, List.set_cons_succ]
      replace hHeld := hHeld.call hq
      clear hq
      refine wpAnyH_ready (rs := [3, 4, 5]) (by kernel_rfl) (by simp) ?_
      refine cCall 3 10 43 rfl rfl (args := #[.agg (u8s ys).toArray]) (by rfl) (by go_simp) _ (ky _) (fun w2 hq => ⟨hHeld.call hq, ?_⟩) ?_
      · simp only [List.set_cons_zero, List.set_cons_succ]
        replace hHeld := hHeld.call hq
        clear hq
        refine wpAnyH_ready (rs := [4, 5]) (by kernel_rfl) (by simp) ?_
        refine cVal 4 5 rfl rfl (by rfl) (v := .pointer (some ⟨w2.heap.size, 0, none⟩)) (w' := w2.alloc (.cells #[.int .u8 0, .int .u8 0, .int .u8 0, .int .u8 0, .int .u8 0, .int .u8 0] 39)) (by go_simp) (hHeld.alloc _) ?_ ?_
        · simp only [List.set_cons_zero, List.set_cons_succ]
          have hga := hHeld.2.2.2
          have ha : Blk (w2.alloc (.cells #[.int .u8 0, .int .u8 0, .int .u8 0, .int .u8 0, .int .u8 0, .int .u8 0] 39)) w2.heap.size (u8s zero6) 39 := Blk.mk _ (u8s zero6) _ rfl
          replace hHeld := hHeld.alloc (.cells #[.int .u8 0, .int .u8 0, .int .u8 0, .int .u8 0, .int .u8 0, .int .u8 0] 39)
          generalize w2.heap.size = B5 at *
          generalize w2.alloc (.cells #[.int .u8 0, .int .u8 0, .int .u8 0, .int .u8 0, .int .u8 0, .int .u8 0] 39) = w3 at *
          refine wpAnyH_ready (rs := [5]) (by kernel_rfl) (by simp) ?_
          refine cVal 5 6 rfl rfl (by rfl) (v := .pointer (some ⟨w3.heap.size, 0, none⟩)) (w' := w3.alloc (.cells #[.int .u8 0, .int .u8 0, .int .u8 0, .int .u8 0, .int .u8 0, .int .u8 0] 39)) (by go_simp) (hHeld.alloc _) ?_ ?_
          · simp only [List.set_cons_zero, List.set_cons_succ]
            have hgb := hHeld.2.2.2
            have hb : Blk (w3.alloc (.cells #[.int .u8 0, .int .u8 0, .int .u8 0, .int .u8 0, .int .u8 0, .int .u8 0] 39)) w3.heap.size (u8s zero6) 39 := Blk.mk _ (u8s zero6) _ rfl
            replace hHeld := hHeld.alloc (.cells #[.int .u8 0, .int .u8 0, .int .u8 0, .int .u8 0, .int .u8 0, .int .u8 0] 39)
            have hne := Nat.ne_of_lt ha.lt
            replace ha := ha.alloc (.cells #[.int .u8 0, .int .u8 0, .int .u8 0, .int .u8 0, .int .u8 0, .int .u8 0] 39)
            generalize w3.heap.size = B6 at *
            generalize w3.alloc (.cells #[.int .u8 0, .int .u8 0, .int .u8 0, .int .u8 0, .int .u8 0, .int .u8 0] 39) = w4 at *
            have hS6 := hHeld.store hga (u8s (blurL xs)).toArray
            have hB6 := hb.farRow (Ne.symm hne) (u8s (blurL xs)).toArray
            refine wpAnyH_ready (rs := [6]) (by kernel_rfl) (by simp) ?_
            refine cStore 6 rfl rfl (by rfl) 39 _ _ rfl _ rfl (vs := u8s (blurL xs)) rfl ha info_b6 (by rw [u8s_length]; exact hlx) (by rw [u8s_length]; rfl) (u8s_one _) hS6 ?_ AllReadyH.nil
            refine wpAnyH_ready (rs := [7]) (by kernel_rfl) (by simp) ?_
            refine cStore 7 rfl rfl (by rfl) 39 _ _ rfl _ rfl (vs := u8s (blurL ys)) rfl hB6 info_b6 (by rw [u8s_length]; exact hly) (by rw [u8s_length]; rfl) (u8s_one _) (hS6.store hgb _) ?_ AllReadyH.nil
            refine wpAnyH_done (by kernel_rfl) ?_ _
            exact rest _ _ _ ((ha.setRow _).farRow hne _) (hB6.setRow _) (hS6.store hgb _).1
          exact AllReadyH.nil
        refine cVal 5 6 rfl rfl (by rfl) (v := .pointer (some ⟨w2.heap.size, 0, none⟩)) (w' := w2.alloc (.cells #[.int .u8 0, .int .u8 0, .int .u8 0, .int .u8 0, .int .u8 0, .int .u8 0] 39)) (by go_simp) (hHeld.alloc _) ?_ ?_
        · simp only [List.set_cons_zero, List.set_cons_succ]
          have hgb := hHeld.2.2.2
          have hb : Blk (w2.alloc (.cells #[.int .u8 0, .int .u8 0, .int .u8 0, .int .u8 0, .int .u8 0, .int .u8 0] 39)) w2.heap.size (u8s zero6) 39 := Blk.mk _ (u8s zero6) _ rfl
          replace hHeld := hHeld.alloc (.cells #[.int .u8 0, .int .u8 0, .int .u8 0, .int .u8 0, .int .u8 0, .int .u8 0] 39)
          generalize w2.heap.size = B6 at *
          generalize w2.alloc (.cells #[.int .u8 0, .int .u8 0, .int .u8 0, .int .u8 0, .int .u8 0, .int .u8 0] 39) = w5 at *
          refine wpAnyH_ready (rs := [4]) (by kernel_rfl) (by simp) ?_
          refine cVal 4 5 rfl rfl (by rfl) (v := .pointer (some ⟨w5.heap.size, 0, none⟩)) (w' := w5.alloc (.cells #[.int .u8 0, .int .u8 0, .int .u8 0, .int .u8 0, .int .u8 0, .int .u8 0] 39)) (by go_simp) (hHeld.alloc _) ?_ ?_
          · simp only [List.set_cons_zero, List.set_cons_succ]
            have hga := hHeld.2.2.2
            have ha : Blk (w5.alloc (.cells #[.int .u8 0, .int .u8 0, .int .u8 0, .int .u8 0, .int .u8 0, .int .u8 0] 39)) w5.heap.size (u8s zero6) 39 := Blk.mk _ (u8s zero6) _ rfl
            replace hHeld := hHeld.alloc (.cells #[.int .u8 0, .int .u8 0, .int .u8 0, .int .u8 0, .int .u8 0, .int .u8 0] 39)
            have hne := Nat.ne_of_gt hb.lt
            replace hb := hb.alloc (.cells #[.int .u8 0, .int .u8 0, .int .u8 0, .int .u8 0, .int .u8 0, .int .u8 0] 39)
            generalize w5.heap.size = B5 at *
            generalize w5.alloc (.cells #[.int .u8 0, .int .u8 0, .int .u8 0, .int .u8 0, .int .u8 0, .int .u8 0] 39) = w6 at *
            have hS6 := hHeld.store hga (u8s (blurL xs)).toArray
            have hB6 := hb.farRow (Ne.symm hne) (u8s (blurL xs)).toArray
            refine wpAnyH_ready (rs := [6]) (by kernel_rfl) (by simp) ?_
            refine cStore 6 rfl rfl (by rfl) 39 _ _ rfl _ rfl (vs := u8s (blurL xs)) rfl ha info_b6 (by rw [u8s_length]; exact hlx) (by rw [u8s_length]; rfl) (u8s_one _) hS6 ?_ AllReadyH.nil
            refine wpAnyH_ready (rs := [7]) (by kernel_rfl) (by simp) ?_
            refine cStore 7 rfl rfl (by rfl) 39 _ _ rfl _ rfl (vs := u8s (blurL ys)) rfl hB6 info_b6 (by rw [u8s_length]; exact hly) (by rw [u8s_length]; rfl) (u8s_one _) (hS6.store hgb _) ?_ AllReadyH.nil
            refine wpAnyH_done (by kernel_rfl) ?_ _
            exact rest _ _ _ ((ha.setRow _).farRow hne _) (hB6.setRow _) (hS6.store hgb _).1
          exact AllReadyH.nil
        exact AllReadyH.nil
      refine cVal 4 5 rfl rfl (by rfl) (v := .pointer (some ⟨w1.heap.size, 0, none⟩)) (w' := w1.alloc (.cells #[.int .u8 0, .int .u8 0, .int .u8 0, .int .u8 0, .int .u8 0, .int .u8 0] 39)) (by go_simp) (hHeld.alloc _) ?_ ?_
      · simp only [List.set_cons_zero, List.set_cons_succ]
        have hga := hHeld.2.2.2
        have ha : Blk (w1.alloc (.cells #[.int .u8 0, .int .u8 0, .int .u8 0, .int .u8 0, .int .u8 0, .int .u8 0] 39)) w1.heap.size (u8s zero6) 39 := Blk.mk _ (u8s zero6) _ rfl
        replace hHeld := hHeld.alloc (.cells #[.int .u8 0, .int .u8 0, .int .u8 0, .int .u8 0, .int .u8 0, .int .u8 0] 39)
        generalize w1.heap.size = B5 at *
        generalize w1.alloc (.cells #[.int .u8 0, .int .u8 0, .int .u8 0, .int .u8 0, .int .u8 0, .int .u8 0] 39) = w7 at *
        refine wpAnyH_ready (rs := [3, 5]) (by kernel_rfl) (by simp) ?_
        refine cCall 3 10 43 rfl rfl (args := #[.agg (u8s ys).toArray]) (by rfl) (by go_simp) _ (ky _) (fun w8 hq => ⟨hHeld.call hq, ?_⟩) ?_
        · simp only [List.set_cons_zero, List.set_cons_succ]
          replace hHeld := hHeld.call hq
          replace ha := ha.kept hq
          clear hq
          refine wpAnyH_ready (rs := [5]) (by kernel_rfl) (by simp) ?_
          refine cVal 5 6 rfl rfl (by rfl) (v := .pointer (some ⟨w8.heap.size, 0, none⟩)) (w' := w8.alloc (.cells #[.int .u8 0, .int .u8 0, .int .u8 0, .int .u8 0, .int .u8 0, .int .u8 0] 39)) (by go_simp) (hHeld.alloc _) ?_ ?_
          · simp only [List.set_cons_zero, List.set_cons_succ]
            have hgb := hHeld.2.2.2
            have hb : Blk (w8.alloc (.cells #[.int .u8 0, .int .u8 0, .int .u8 0, .int .u8 0, .int .u8 0, .int .u8 0] 39)) w8.heap.size (u8s zero6) 39 := Blk.mk _ (u8s zero6) _ rfl
            replace hHeld := hHeld.alloc (.cells #[.int .u8 0, .int .u8 0, .int .u8 0, .int .u8 0, .int .u8 0, .int .u8 0] 39)
            have hne := Nat.ne_of_lt ha.lt
            replace ha := ha.alloc (.cells #[.int .u8 0, .int .u8 0, .int .u8 0, .int .u8 0, .int .u8 0, .int .u8 0] 39)
            generalize w8.heap.size = B6 at *
            generalize w8.alloc (.cells #[.int .u8 0, .int .u8 0, .int .u8 0, .int .u8 0, .int .u8 0, .int .u8 0] 39) = w9 at *
            have hS6 := hHeld.store hga (u8s (blurL xs)).toArray
            have hB6 := hb.farRow (Ne.symm hne) (u8s (blurL xs)).toArray
            refine wpAnyH_ready (rs := [6]) (by kernel_rfl) (by simp) ?_
            refine cStore 6 rfl rfl (by rfl) 39 _ _ rfl _ rfl (vs := u8s (blurL xs)) rfl ha info_b6 (by rw [u8s_length]; exact hlx) (by rw [u8s_length]; rfl) (u8s_one _) hS6 ?_ AllReadyH.nil
            refine wpAnyH_ready (rs := [7]) (by kernel_rfl) (by simp) ?_
            refine cStore 7 rfl rfl (by rfl) 39 _ _ rfl _ rfl (vs := u8s (blurL ys)) rfl hB6 info_b6 (by rw [u8s_length]; exact hly) (by rw [u8s_length]; rfl) (u8s_one _) (hS6.store hgb _) ?_ AllReadyH.nil
            refine wpAnyH_done (by kernel_rfl) ?_ _
            exact rest _ _ _ ((ha.setRow _).farRow hne _) (hB6.setRow _) (hS6.store hgb _).1
          exact AllReadyH.nil
        refine cVal 5 6 rfl rfl (by rfl) (v := .pointer (some ⟨w7.heap.size, 0, none⟩)) (w' := w7.alloc (.cells #[.int .u8 0, .int .u8 0, .int .u8 0, .int .u8 0, .int .u8 0, .int .u8 0] 39)) (by go_simp) (hHeld.alloc _) ?_ ?_
        · simp only [List.set_cons_zero, List.set_cons_succ]
          have hgb := hHeld.2.2.2
          have hb : Blk (w7.alloc (.cells #[.int .u8 0, .int .u8 0, .int .u8 0, .int .u8 0, .int .u8 0, .int .u8 0] 39)) w7.heap.size (u8s zero6) 39 := Blk.mk _ (u8s zero6) _ rfl
          replace hHeld := hHeld.alloc (.cells #[.int .u8 0, .int .u8 0, .int .u8 0, .int .u8 0, .int .u8 0, .int .u8 0] 39)
          have hne := Nat.ne_of_lt ha.lt
          replace ha := ha.alloc (.cells #[.int .u8 0, .int .u8 0, .int .u8 0, .int .u8 0, .int .u8 0, .int .u8 0] 39)
          generalize w7.heap.size = B6 at *
          generalize w7.alloc (.cells #[.int .u8 0, .int .u8 0, .int .u8 0, .int .u8 0, .int .u8 0, .int .u8 0] 39) = w10 at *
          refine wpAnyH_ready (rs := [3]) (by kernel_rfl) (by simp) ?_
          refine cCall 3 10 43 rfl rfl (args := #[.agg (u8s ys).toArray]) (by rfl) (by go_simp) _ (ky _) (fun w11 hq => ⟨hHeld.call hq, ?_⟩) ?_
          · simp only [List.set_cons_zero, List.set_cons_succ]
            replace hHeld := hHeld.call hq
            replace ha := ha.kept hq
            replace hb := hb.kept hq
            clear hq
            have hS6 := hHeld.store hga (u8s (blurL xs)).toArray
            have hB6 := hb.farRow (Ne.symm hne) (u8s (blurL xs)).toArray
            refine wpAnyH_ready (rs := [6]) (by kernel_rfl) (by simp) ?_
            refine cStore 6 rfl rfl (by rfl) 39 _ _ rfl _ rfl (vs := u8s (blurL xs)) rfl ha info_b6 (by rw [u8s_length]; exact hlx) (by rw [u8s_length]; rfl) (u8s_one _) hS6 ?_ AllReadyH.nil
            refine wpAnyH_ready (rs := [7]) (by kernel_rfl) (by simp) ?_
            refine cStore 7 rfl rfl (by rfl) 39 _ _ rfl _ rfl (vs := u8s (blurL ys)) rfl hB6 info_b6 (by rw [u8s_length]; exact hly) (by rw [u8s_length]; rfl) (u8s_one _) (hS6.store hgb _) ?_ AllReadyH.nil
            refine wpAnyH_done (by kernel_rfl) ?_ _
            exact rest _ _ _ ((ha.setRow _).farRow hne _) (hB6.setRow _) (hS6.store hgb _).1
          exact AllReadyH.nil
        exact AllReadyH.nil
      refine cVal 5 6 rfl rfl (by rfl) (v := .pointer (some ⟨w1.heap.size, 0, none⟩)) (w' := w1.alloc (.cells #[.int .u8 0, .int .u8 0, .int .u8 0, .int .u8 0, .int .u8 0, .int .u8 0] 39)) (by go_simp) (hHeld.alloc _) ?_ ?_
      · simp only [List.set_cons_zero, List.set_cons_succ]
        have hgb := hHeld.2.2.2
        have hb : Blk (w1.alloc (.cells #[.int .u8 0, .int .u8 0, .int .u8 0, .int .u8 0, .int .u8 0, .int .u8 0] 39)) w1.heap.size (u8s zero6) 39 := Blk.mk _ (u8s zero6) _ rfl
        replace hHeld := hHeld.alloc (.cells #[.int .u8 0, .int .u8 0, .int .u8 0, .int .u8 0, .int .u8 0, .int .u8 0] 39)
        generalize w1.heap.size = B6 at *
        generalize w1.alloc (.cells #[.int .u8 0, .int .u8 0, .int .u8 0, .int .u8 0, .int .u8 0, .int .u8 0] 39) = w12 at *
        refine wpAnyH_ready (rs := [3, 4]) (by kernel_rfl) (by simp) ?_
        refine cCall 3 10 43 rfl rfl (args := #[.agg (u8s ys).toArray]) (by rfl) (by go_simp) _ (ky _) (fun w13 hq => ⟨hHeld.call hq, ?_⟩) ?_
        · simp only [List.set_cons_zero, List.set_cons_succ]
          replace hHeld := hHeld.call hq
          replace hb := hb.kept hq
          clear hq
          refine wpAnyH_ready (rs := [4]) (by kernel_rfl) (by simp) ?_
          refine cVal 4 5 rfl rfl (by rfl) (v := .pointer (some ⟨w13.heap.size, 0, none⟩)) (w' := w13.alloc (.cells #[.int .u8 0, .int .u8 0, .int .u8 0, .int .u8 0, .int .u8 0, .int .u8 0] 39)) (by go_simp) (hHeld.alloc _) ?_ ?_
          · simp only [List.set_cons_zero, List.set_cons_succ]
            have hga := hHeld.2.2.2
            have ha : Blk (w13.alloc (.cells #[.int .u8 0, .int .u8 0, .int .u8 0, .int .u8 0, .int .u8 0, .int .u8 0] 39)) w13.heap.size (u8s zero6) 39 := Blk.mk _ (u8s zero6) _ rfl
            replace hHeld := hHeld.alloc (.cells #[.int .u8 0, .int .u8 0, .int .u8 0, .int .u8 0, .int .u8 0, .int .u8 0] 39)
            have hne := Nat.ne_of_gt hb.lt
            replace hb := hb.alloc (.cells #[.int .u8 0, .int .u8 0, .int .u8 0, .int .u8 0, .int .u8 0, .int .u8 0] 39)
            generalize w13.heap.size = B5 at *
            generalize w13.alloc (.cells #[.int .u8 0, .int .u8 0, .int .u8 0, .int .u8 0, .int .u8 0, .int .u8 0] 39) = w14 at *
            have hS6 := hHeld.store hga (u8s (blurL xs)).toArray
            have hB6 := hb.farRow (Ne.symm hne) (u8s (blurL xs)).toArray
            refine wpAnyH_ready (rs := [6]) (by kernel_rfl) (by simp) ?_
            refine cStore 6 rfl rfl (by rfl) 39 _ _ rfl _ rfl (vs := u8s (blurL xs)) rfl ha info_b6 (by rw [u8s_length]; exact hlx) (by rw [u8s_length]; rfl) (u8s_one _) hS6 ?_ AllReadyH.nil
            refine wpAnyH_ready (rs := [7]) (by kernel_rfl) (by simp) ?_
            refine cStore 7 rfl rfl (by rfl) 39 _ _ rfl _ rfl (vs := u8s (blurL ys)) rfl hB6 info_b6 (by rw [u8s_length]; exact hly) (by rw [u8s_length]; rfl) (u8s_one _) (hS6.store hgb _) ?_ AllReadyH.nil
            refine wpAnyH_done (by kernel_rfl) ?_ _
            exact rest _ _ _ ((ha.setRow _).farRow hne _) (hB6.setRow _) (hS6.store hgb _).1
          exact AllReadyH.nil
        refine cVal 4 5 rfl rfl (by rfl) (v := .pointer (some ⟨w12.heap.size, 0, none⟩)) (w' := w12.alloc (.cells #[.int .u8 0, .int .u8 0, .int .u8 0, .int .u8 0, .int .u8 0, .int .u8 0] 39)) (by go_simp) (hHeld.alloc _) ?_ ?_
        · simp only [List.set_cons_zero, List.set_cons_succ]
          have hga := hHeld.2.2.2
          have ha : Blk (w12.alloc (.cells #[.int .u8 0, .int .u8 0, .int .u8 0, .int .u8 0, .int .u8 0, .int .u8 0] 39)) w12.heap.size (u8s zero6) 39 := Blk.mk _ (u8s zero6) _ rfl
          replace hHeld := hHeld.alloc (.cells #[.int .u8 0, .int .u8 0, .int .u8 0, .int .u8 0, .int .u8 0, .int .u8 0] 39)
          have hne := Nat.ne_of_gt hb.lt
          replace hb := hb.alloc (.cells #[.int .u8 0, .int .u8 0, .int .u8 0, .int .u8 0, .int .u8 0, .int .u8 0] 39)
          generalize w12.heap.size = B5 at *
          generalize w12.alloc (.cells #[.int .u8 0, .int .u8 0, .int .u8 0, .int .u8 0, .int .u8 0, .int .u8 0] 39) = w15 at *
          refine wpAnyH_ready (rs := [3]) (by kernel_rfl) (by simp) ?_
          refine cCall 3 10 43 rfl rfl (args := #[.agg (u8s ys).toArray]) (by rfl) (by go_simp) _ (ky _) (fun w16 hq => ⟨hHeld.call hq, ?_⟩) ?_
          · simp only [List.set_cons_zero, List.set_cons_succ]
            replace hHeld := hHeld.call hq
            replace ha := ha.kept hq
            replace hb := hb.kept hq
            clear hq
            have hS6 := hHeld.store hga (u8s (blurL xs)).toArray
            have hB6 := hb.farRow (Ne.symm hne) (u8s (blurL xs)).toArray
            refine wpAnyH_ready (rs := [6]) (by kernel_rfl) (by simp) ?_
            refine cStore 6 rfl rfl (by rfl) 39 _ _ rfl _ rfl (vs := u8s (blurL xs)) rfl ha info_b6 (by rw [u8s_length]; exact hlx) (by rw [u8s_length]; rfl) (u8s_one _) hS6 ?_ AllReadyH.nil
            refine wpAnyH_ready (rs := [7]) (by kernel_rfl) (by simp) ?_
            refine cStore 7 rfl rfl (by rfl) 39 _ _ rfl _ rfl (vs := u8s (blurL ys)) rfl hB6 info_b6 (by rw [u8s_length]; exact hly) (by rw [u8s_length]; rfl) (u8s_one _) (hS6.store hgb _) ?_ AllReadyH.nil
            refine wpAnyH_done (by kernel_rfl) ?_ _
            exact rest _ _ _ ((ha.setRow _).farRow hne _) (hB6.setRow _) (hS6.store hgb _).1
          exact AllReadyH.nil
        exact AllReadyH.nil
      exact AllReadyH.nil
    refine cVal 4 5 rfl rfl (by rfl) (v := .pointer (some ⟨w0.heap.size, 0, none⟩)) (w' := w0.alloc (.cells #[.int .u8 0, .int .u8 0, .int .u8 0, .int .u8 0, .int .u8 0, .int .u8 0] 39)) (by go_simp) (hHeld.alloc _) ?_ ?_
    · simp only [List.set_cons_zero, List.set_cons_succ]
      have hga := hHeld.2.2.2
      have ha : Blk (w0.alloc (.cells #[.int .u8 0, .int .u8 0, .int .u8 0, .int .u8 0, .int .u8 0, .int .u8 0] 39)) w0.heap.size (u8s zero6) 39 := Blk.mk _ (u8s zero6) _ rfl
      replace hHeld := hHeld.alloc (.cells #[.int .u8 0, .int .u8 0, .int .u8 0, .int .u8 0, .int .u8 0, .int .u8 0] 39)
      generalize w0.heap.size = B5 at *
      generalize w0.alloc (.cells #[.int .u8 0, .int .u8 0, .int .u8 0, .int .u8 0, .int .u8 0, .int .u8 0] 39) = w17 at *
      refine wpAnyH_ready (rs := [1, 5]) (by kernel_rfl) (by simp) ?_
      refine cCall 1 8 43 rfl rfl (args := #[.agg (u8s xs).toArray]) (by rfl) (by go_simp) _ (kx _) (fun w18 hq => ⟨hHeld.call hq, ?_⟩) ?_
      · simp only [List.set_cons_zero, List.set_cons_succ]
        replace hHeld := hHeld.call hq
        replace ha := ha.kept hq
        clear hq
        refine wpAnyH_ready (rs := [3, 5]) (by kernel_rfl) (by simp) ?_
        refine cCall 3 10 43 rfl rfl (args := #[.agg (u8s ys).toArray]) (by rfl) (by go_simp) _ (ky _) (fun w19 hq => ⟨hHeld.call hq, ?_⟩) ?_
        · simp only [List.set_cons_zero, List.set_cons_succ]
          replace hHeld := hHeld.call hq
          replace ha := ha.kept hq
          clear hq
          refine wpAnyH_ready (rs := [5]) (by kernel_rfl) (by simp) ?_
          refine cVal 5 6 rfl rfl (by rfl) (v := .pointer (some ⟨w19.heap.size, 0, none⟩)) (w' := w19.alloc (.cells #[.int .u8 0, .int .u8 0, .int .u8 0, .int .u8 0, .int .u8 0, .int .u8 0] 39)) (by go_simp) (hHeld.alloc _) ?_ ?_
          · simp only [List.set_cons_zero, List.set_cons_succ]
            have hgb := hHeld.2.2.2
            have hb : Blk (w19.alloc (.cells #[.int .u8 0, .int .u8 0, .int .u8 0, .int .u8 0, .int .u8 0, .int .u8 0] 39)) w19.heap.size (u8s zero6) 39 := Blk.mk _ (u8s zero6) _ rfl
            replace hHeld := hHeld.alloc (.cells #[.int .u8 0, .int .u8 0, .int .u8 0, .int .u8 0, .int .u8 0, .int .u8 0] 39)
            have hne := Nat.ne_of_lt ha.lt
            replace ha := ha.alloc (.cells #[.int .u8 0, .int .u8 0, .int .u8 0, .int .u8 0, .int .u8 0, .int .u8 0] 39)
            generalize w19.heap.size = B6 at *
            generalize w19.alloc (.cells #[.int .u8 0, .int .u8 0, .int .u8 0, .int .u8 0, .int .u8 0, .int .u8 0] 39) = w20 at *
            have hS6 := hHeld.store hga (u8s (blurL xs)).toArray
            have hB6 := hb.farRow (Ne.symm hne) (u8s (blurL xs)).toArray
            refine wpAnyH_ready (rs := [6]) (by kernel_rfl) (by simp) ?_
            refine cStore 6 rfl rfl (by rfl) 39 _ _ rfl _ rfl (vs := u8s (blurL xs)) rfl ha info_b6 (by rw [u8s_length]; exact hlx) (by rw [u8s_length]; rfl) (u8s_one _) hS6 ?_ AllReadyH.nil
            refine wpAnyH_ready (rs := [7]) (by kernel_rfl) (by simp) ?_
            refine cStore 7 rfl rfl (by rfl) 39 _ _ rfl _ rfl (vs := u8s (blurL ys)) rfl hB6 info_b6 (by rw [u8s_length]; exact hly) (by rw [u8s_length]; rfl) (u8s_one _) (hS6.store hgb _) ?_ AllReadyH.nil
            refine wpAnyH_done (by kernel_rfl) ?_ _
            exact rest _ _ _ ((ha.setRow _).farRow hne _) (hB6.setRow _) (hS6.store hgb _).1
          exact AllReadyH.nil
        refine cVal 5 6 rfl rfl (by rfl) (v := .pointer (some ⟨w18.heap.size, 0, none⟩)) (w' := w18.alloc (.cells #[.int .u8 0, .int .u8 0, .int .u8 0, .int .u8 0, .int .u8 0, .int .u8 0] 39)) (by go_simp) (hHeld.alloc _) ?_ ?_
        · simp only [List.set_cons_zero, List.set_cons_succ]
          have hgb := hHeld.2.2.2
          have hb : Blk (w18.alloc (.cells #[.int .u8 0, .int .u8 0, .int .u8 0, .int .u8 0, .int .u8 0, .int .u8 0] 39)) w18.heap.size (u8s zero6) 39 := Blk.mk _ (u8s zero6) _ rfl
          replace hHeld := hHeld.alloc (.cells #[.int .u8 0, .int .u8 0, .int .u8 0, .int .u8 0, .int .u8 0, .int .u8 0] 39)
          have hne := Nat.ne_of_lt ha.lt
          replace ha := ha.alloc (.cells #[.int .u8 0, .int .u8 0, .int .u8 0, .int .u8 0, .int .u8 0, .int .u8 0] 39)
          generalize w18.heap.size = B6 at *
          generalize w18.alloc (.cells #[.int .u8 0, .int .u8 0, .int .u8 0, .int .u8 0, .int .u8 0, .int .u8 0] 39) = w21 at *
          refine wpAnyH_ready (rs := [3]) (by kernel_rfl) (by simp) ?_
          refine cCall 3 10 43 rfl rfl (args := #[.agg (u8s ys).toArray]) (by rfl) (by go_simp) _ (ky _) (fun w22 hq => ⟨hHeld.call hq, ?_⟩) ?_
          · simp only [List.set_cons_zero, List.set_cons_succ]
            replace hHeld := hHeld.call hq
            replace ha := ha.kept hq
            replace hb := hb.kept hq
            clear hq
            have hS6 := hHeld.store hga (u8s (blurL xs)).toArray
            have hB6 := hb.farRow (Ne.symm hne) (u8s (blurL xs)).toArray
            refine wpAnyH_ready (rs := [6]) (by kernel_rfl) (by simp) ?_
            refine cStore 6 rfl rfl (by rfl) 39 _ _ rfl _ rfl (vs := u8s (blurL xs)) rfl ha info_b6 (by rw [u8s_length]; exact hlx) (by rw [u8s_length]; rfl) (u8s_one _) hS6 ?_ AllReadyH.nil
            refine wpAnyH_ready (rs := [7]) (by kernel_rfl) (by simp) ?_
            refine cStore 7 rfl rfl (by rfl) 39 _ _ rfl _ rfl (vs := u8s (blurL ys)) rfl hB6 info_b6 (by rw [u8s_length]; exact hly) (by rw [u8s_length]; rfl) (u8s_one _) (hS6.store hgb _) ?_ AllReadyH.nil
            refine wpAnyH_done (by kernel_rfl) ?_ _
            exact rest _ _ _ ((ha.setRow _).farRow hne _) (hB6.setRow _) (hS6.store hgb _).1
          exact AllReadyH.nil
        exact AllReadyH.nil
      refine cVal 5 6 rfl rfl (by rfl) (v := .pointer (some ⟨w17.heap.size, 0, none⟩)) (w' := w17.alloc (.cells #[.int .u8 0, .int .u8 0, .int .u8 0, .int .u8 0, .int .u8 0, .int .u8 0] 39)) (by go_simp) (hHeld.alloc _) ?_ ?_
      · simp only [List.set_cons_zero, List.set_cons_succ]
        have hgb := hHeld.2.2.2
        have hb : Blk (w17.alloc (.cells #[.int .u8 0, .int .u8 0, .int .u8 0, .int .u8 0, .int .u8 0, .int .u8 0] 39)) w17.heap.size (u8s zero6) 39 := Blk.mk _ (u8s zero6) _ rfl
        replace hHeld := hHeld.alloc (.cells #[.int .u8 0, .int .u8 0, .int .u8 0, .int .u8 0, .int .u8 0, .int .u8 0] 39)
        have hne := Nat.ne_of_lt ha.lt
        replace ha := ha.alloc (.cells #[.int .u8 0, .int .u8 0, .int .u8 0, .int .u8 0, .int .u8 0, .int .u8 0] 39)
        generalize w17.heap.size = B6 at *
        generalize w17.alloc (.cells #[.int .u8 0, .int .u8 0, .int .u8 0, .int .u8 0, .int .u8 0, .int .u8 0] 39) = w23 at *
        refine wpAnyH_ready (rs := [1]) (by kernel_rfl) (by simp) ?_
        refine cCall 1 8 43 rfl rfl (args := #[.agg (u8s xs).toArray]) (by rfl) (by go_simp) _ (kx _) (fun w24 hq => ⟨hHeld.call hq, ?_⟩) ?_
        · simp only [List.set_cons_zero, List.set_cons_succ]
          replace hHeld := hHeld.call hq
          replace ha := ha.kept hq
          replace hb := hb.kept hq
          clear hq
          refine wpAnyH_ready (rs := [3]) (by kernel_rfl) (by simp) ?_
          refine cCall 3 10 43 rfl rfl (args := #[.agg (u8s ys).toArray]) (by rfl) (by go_simp) _ (ky _) (fun w25 hq => ⟨hHeld.call hq, ?_⟩) ?_
          · simp only [List.set_cons_zero, List.set_cons_succ]
            replace hHeld := hHeld.call hq
            replace ha := ha.kept hq
            replace hb := hb.kept hq
            clear hq
            have hS6 := hHeld.store hga (u8s (blurL xs)).toArray
            have hB6 := hb.farRow (Ne.symm hne) (u8s (blurL xs)).toArray
            refine wpAnyH_ready (rs := [6]) (by kernel_rfl) (by simp) ?_
            refine cStore 6 rfl rfl (by rfl) 39 _ _ rfl _ rfl (vs := u8s (blurL xs)) rfl ha info_b6 (by rw [u8s_length]; exact hlx) (by rw [u8s_length]; rfl) (u8s_one _) hS6 ?_ AllReadyH.nil
            refine wpAnyH_ready (rs := [7]) (by kernel_rfl) (by simp) ?_
            refine cStore 7 rfl rfl (by rfl) 39 _ _ rfl _ rfl (vs := u8s (blurL ys)) rfl hB6 info_b6 (by rw [u8s_length]; exact hly) (by rw [u8s_length]; rfl) (u8s_one _) (hS6.store hgb _) ?_ AllReadyH.nil
            refine wpAnyH_done (by kernel_rfl) ?_ _
            exact rest _ _ _ ((ha.setRow _).farRow hne _) (hB6.setRow _) (hS6.store hgb _).1
          exact AllReadyH.nil
        exact AllReadyH.nil
      exact AllReadyH.nil
    refine cVal 5 6 rfl rfl (by rfl) (v := .pointer (some ⟨w0.heap.size, 0, none⟩)) (w' := w0.alloc (.cells #[.int .u8 0, .int .u8 0, .int .u8 0, .int .u8 0, .int .u8 0, .int .u8 0] 39)) (by go_simp) (hHeld.alloc _) ?_ ?_
    · simp only [List.set_cons_zero, List.set_cons_succ]
      have hgb := hHeld.2.2.2
      have hb : Blk (w0.alloc (.cells #[.int .u8 0, .int .u8 0, .int .u8 0, .int .u8 0, .int .u8 0, .int .u8 0] 39)) w0.heap.size (u8s zero6) 39 := Blk.mk _ (u8s zero6) _ rfl
      replace hHeld := hHeld.alloc (.cells #[.int .u8 0, .int .u8 0, .int .u8 0, .int .u8 0, .int .u8 0, .int .u8 0] 39)
      generalize w0.heap.size = B6 at *
      generalize w0.alloc (.cells #[.int .u8 0, .int .u8 0, .int .u8 0, .int .u8 0, .int .u8 0, .int .u8 0] 39) = w26 at *
      refine wpAnyH_ready (rs := [1, 4]) (by kernel_rfl) (by simp) ?_
      refine cCall 1 8 43 rfl rfl (args := #[.agg (u8s xs).toArray]) (by rfl) (by go_simp) _ (kx _) (fun w27 hq => ⟨hHeld.call hq, ?_⟩) ?_
      · simp only [List.set_cons_zero, List.set_cons_succ]
        replace hHeld := hHeld.call hq
        replace hb := hb.kept hq
        clear hq
        refine wpAnyH_ready (rs := [3, 4]) (by kernel_rfl) (by simp) ?_
        refine cCall 3 10 43 rfl rfl (args := #[.agg (u8s ys).toArray]) (by rfl) (by go_simp) _ (ky _) (fun w28 hq => ⟨hHeld.call hq, ?_⟩) ?_
        · simp only [List.set_cons_zero, List.set_cons_succ]
          replace hHeld := hHeld.call hq
          replace hb := hb.kept hq
          clear hq
          refine wpAnyH_ready (rs := [4]) (by kernel_rfl) (by simp) ?_
          refine cVal 4 5 rfl rfl (by rfl) (v := .pointer (some ⟨w28.heap.size, 0, none⟩)) (w' := w28.alloc (.cells #[.int .u8 0, .int .u8 0, .int .u8 0, .int .u8 0, .int .u8 0, .int .u8 0] 39)) (by go_simp) (hHeld.alloc _) ?_ ?_
          · simp only [List.set_cons_zero, List.set_cons_succ]
            have hga := hHeld.2.2.2
            have ha : Blk (w28.alloc (.cells #[.int .u8 0, .int .u8 0, .int .u8 0, .int .u8 0, .int .u8 0, .int .u8 0] 39)) w28.heap.size (u8s zero6) 39 := Blk.mk _ (u8s zero6) _ rfl
            replace hHeld := hHeld.alloc (.cells #[.int .u8 0, .int .u8 0, .int .u8 0, .int .u8 0, .int .u8 0, .int .u8 0] 39)
            have hne := Nat.ne_of_gt hb.lt
            replace hb := hb.alloc (.cells #[.int .u8 0, .int .u8 0, .int .u8 0, .int .u8 0, .int .u8 0, .int .u8 0] 39)
            generalize w28.heap.size = B5 at *
            generalize w28.alloc (.cells #[.int .u8 0, .int .u8 0, .int .u8 0, .int .u8 0, .int .u8 0, .int .u8 0] 39) = w29 at *
            have hS6 := hHeld.store hga (u8s (blurL xs)).toArray
            have hB6 := hb.farRow (Ne.symm hne) (u8s (blurL xs)).toArray
            refine wpAnyH_ready (rs := [6]) (by kernel_rfl) (by simp) ?_
            refine cStore 6 rfl rfl (by rfl) 39 _ _ rfl _ rfl (vs := u8s (blurL xs)) rfl ha info_b6 (by rw [u8s_length]; exact hlx) (by rw [u8s_length]; rfl) (u8s_one _) hS6 ?_ AllReadyH.nil
            refine wpAnyH_ready (rs := [7]) (by kernel_rfl) (by simp) ?_
            refine cStore 7 rfl rfl (by rfl) 39 _ _ rfl _ rfl (vs := u8s (blurL ys)) rfl hB6 info_b6 (by rw [u8s_length]; exact hly) (by rw [u8s_length]; rfl) (u8s_one _) (hS6.store hgb _) ?_ AllReadyH.nil
            refine wpAnyH_done (by kernel_rfl) ?_ _
            exact rest _ _ _ ((ha.setRow _).farRow hne _) (hB6.setRow _) (hS6.store hgb _).1
          exact AllReadyH.nil
        refine cVal 4 5 rfl rfl (by rfl) (v := .pointer (some ⟨w27.heap.size, 0, none⟩)) (w' := w27.alloc (.cells #[.int .u8 0, .int .u8 0, .int .u8 0, .int .u8 0, .int .u8 0, .int .u8 0] 39)) (by go_simp) (hHeld.alloc _) ?_ ?_
        · simp only [List.set_cons_zero, List.set_cons_succ]
          have hga := hHeld.2.2.2
          have ha : Blk (w27.alloc (.cells #[.int .u8 0, .int .u8 0, .int .u8 0, .int .u8 0, .int .u8 0, .int .u8 0] 39)) w27.heap.size (u8s zero6) 39 := Blk.mk _ (u8s zero6) _ rfl
          replace hHeld := hHeld.alloc (.cells #[.int .u8 0, .int .u8 0, .int .u8 0, .int .u8 0, .int .u8 0, .int .u8 0] 39)
          have hne := Nat.ne_of_gt hb.lt
          replace hb := hb.alloc (.cells #[.int .u8 0, .int .u8 0, .int .u8 0, .int .u8 0, .int .u8 0, .int .u8 0] 39)
          generalize w27.heap.size = B5 at *
          generalize w27.alloc (.cells #[.int .u8 0, .int .u8 0, .int .u8 0, .int .u8 0, .int .u8 0, .int .u8 0] 39) = w30 at *
          refine wpAnyH_ready (rs := [3]) (by kernel_rfl) (by simp) ?_
          refine cCall 3 10 43 rfl rfl (args := #[.agg (u8s ys).toArray]) (by rfl) (by go_simp) _ (ky _) (fun w31 hq => ⟨hHeld.call hq, ?_⟩) ?_
          · simp only [List.set_cons_zero, List.set_cons_succ]
            replace hHeld := hHeld.call hq
            replace ha := ha.kept hq
            replace hb := hb.kept hq
            clear hq
            have hS6 := hHeld.store hga (u8s (blurL xs)).toArray
            have hB6 := hb.farRow (Ne.symm hne) (u8s (blurL xs)).toArray
            refine wpAnyH_ready (rs := [6]) (by kernel_rfl) (by simp) ?_
            refine cStore 6 rfl rfl (by rfl) 39 _ _ rfl _ rfl (vs := u8s (blurL xs)) rfl ha info_b6 (by rw [u8s_length]; exact hlx) (by rw [u8s_length]; rfl) (u8s_one _) hS6 ?_ AllReadyH.nil
            refine wpAnyH_ready (rs := [7]) (by kernel_rfl) (by simp) ?_
            refine cStore 7 rfl rfl (by rfl) 39 _ _ rfl _ rfl (vs := u8s (blurL ys)) rfl hB6 info_b6 (by rw [u8s_length]; exact hly) (by rw [u8s_length]; rfl) (u8s_one _) (hS6.store hgb _) ?_ AllReadyH.nil
            refine wpAnyH_done (by kernel_rfl) ?_ _
            exact rest _ _ _ ((ha.setRow _).farRow hne _) (hB6.setRow _) (hS6.store hgb _).1
          exact AllReadyH.nil
        exact AllReadyH.nil
      refine cVal 4 5 rfl rfl (by rfl) (v := .pointer (some ⟨w26.heap.size, 0, none⟩)) (w' := w26.alloc (.cells #[.int .u8 0, .int .u8 0, .int .u8 0, .int .u8 0, .int .u8 0, .int .u8 0] 39)) (by go_simp) (hHeld.alloc _) ?_ ?_
      · simp only [List.set_cons_zero, List.set_cons_succ]
        have hga := hHeld.2.2.2
        have ha : Blk (w26.alloc (.cells #[.int .u8 0, .int .u8 0, .int .u8 0, .int .u8 0, .int .u8 0, .int .u8 0] 39)) w26.heap.size (u8s zero6) 39 := Blk.mk _ (u8s zero6) _ rfl
        replace hHeld := hHeld.alloc (.cells #[.int .u8 0, .int .u8 0, .int .u8 0, .int .u8 0, .int .u8 0, .int .u8 0] 39)
        have hne := Nat.ne_of_gt hb.lt
        replace hb := hb.alloc (.cells #[.int .u8 0, .int .u8 0, .int .u8 0, .int .u8 0, .int .u8 0, .int .u8 0] 39)
        generalize w26.heap.size = B5 at *
        generalize w26.alloc (.cells #[.int .u8 0, .int .u8 0, .int .u8 0, .int .u8 0, .int .u8 0, .int .u8 0] 39) = w32 at *
        refine wpAnyH_ready (rs := [1]) (by kernel_rfl) (by simp) ?_
        refine cCall 1 8 43 rfl rfl (args := #[.agg (u8s xs).toArray]) (by rfl) (by go_simp) _ (kx _) (fun w33 hq => ⟨hHeld.call hq, ?_⟩) ?_
        · simp only [List.set_cons_zero, List.set_cons_succ]
          replace hHeld := hHeld.call hq
          replace ha := ha.kept hq
          replace hb := hb.kept hq
          clear hq
          refine wpAnyH_ready (rs := [3]) (by kernel_rfl) (by simp) ?_
          refine cCall 3 10 43 rfl rfl (args := #[.agg (u8s ys).toArray]) (by rfl) (by go_simp) _ (ky _) (fun w34 hq => ⟨hHeld.call hq, ?_⟩) ?_
          · simp only [List.set_cons_zero, List.set_cons_succ]
            replace hHeld := hHeld.call hq
            replace ha := ha.kept hq
            replace hb := hb.kept hq
            clear hq
            have hS6 := hHeld.store hga (u8s (blurL xs)).toArray
            have hB6 := hb.farRow (Ne.symm hne) (u8s (blurL xs)).toArray
            refine wpAnyH_ready (rs := [6]) (by kernel_rfl) (by simp) ?_
            refine cStore 6 rfl rfl (by rfl) 39 _ _ rfl _ rfl (vs := u8s (blurL xs)) rfl ha info_b6 (by rw [u8s_length]; exact hlx) (by rw [u8s_length]; rfl) (u8s_one _) hS6 ?_ AllReadyH.nil
            refine wpAnyH_ready (rs := [7]) (by kernel_rfl) (by simp) ?_
            refine cStore 7 rfl rfl (by rfl) 39 _ _ rfl _ rfl (vs := u8s (blurL ys)) rfl hB6 info_b6 (by rw [u8s_length]; exact hly) (by rw [u8s_length]; rfl) (u8s_one _) (hS6.store hgb _) ?_ AllReadyH.nil
            refine wpAnyH_done (by kernel_rfl) ?_ _
            exact rest _ _ _ ((ha.setRow _).farRow hne _) (hB6.setRow _) (hS6.store hgb _).1
          exact AllReadyH.nil
        exact AllReadyH.nil
      exact AllReadyH.nil
    exact AllReadyH.nil
  subst hQ
  intro W B5 B6 h5 h6 hb
  have hu := fun q => unlike_any (blurL xs) (blurL ys) (by rw [hlx, hly]) (by rw [hlx]; omega) B5 0 6 B6 0 6 (World.drewN W q) h5.range h6.range
  rw [hlx] at hu
  have hz : 0 ≤ diffs (blurL xs) (blurL ys) 6 := (diffs_bd _ _ _).1
  clear A0 rx ry kx ky hi1 hi2
  go_wp2_with (fail)
  go_quiet ((go_at_call 41; exact Calls.quiet_of_same (hu _)))
  go_wp2
  go_ret
  exact ⟨rfl, bl_drewN hb _⟩
end Go.Proofs.YtjppoejkfpeicaaDoor
