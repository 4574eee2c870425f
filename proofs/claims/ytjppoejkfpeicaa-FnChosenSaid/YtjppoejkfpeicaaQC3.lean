/- Contracts and plain facts, several texts in one. -/
import Derived.Test.YtjppoejkfpeicaaQC2
import Derived.Test.YtjppoejkfpeicaaQC1
import Derived.Laws.IdiomCopy
/- Contracts: impl.afar, spec.l01Far: in how many blocks two flags differ from afar. -/
set_option linter.unusedVariables false
namespace Go.Proofs.Ytjppoejkfpeicaa
open Go.RowKit

section
variable {P : Program} {ops : Array Oper} {Q : Exit → Act → World → Prop} {S : World → Prop} {listed : Array Bool} {ts : List Value} {ds : List Deferred} {w : World} {fuel : Nat}
/-- One of the operations that may come up: a call of function f. -/
theorem cCall (i d f : Nat) {oi : Oper} (hi : ops[i]? = some oi) (hd : oi.dst = some d) {args : Array Value}
    (hw : Region.wanted oi (yielded ops ts.toArray) = true) (he : (execOp (Act.mk ts.toArray ds).eval oi).run P w = .ok (.enter f args) w) (v : Value) {R : World → Prop}
    (hc : Calls P f args w fun e w' => e = .returned v ∧ R w') {rs : List Nat}
    (h : ∀ w', R w' → S w' ∧ wpAnyH P .any ops Q S fuel (listed.setIfInBounds i true) ⟨(ts.set d v).toArray, ds⟩ w')
    (hs : AllReadyH P .any ops Q S fuel listed ⟨ts.toArray, ds⟩ w rs) : AllReadyH P .any ops Q S fuel listed ⟨ts.toArray, ds⟩ w (i :: rs) := by
  refine AllReadyH.cons hi (fun K hK => ?_) hs
  rw [if_pos hw]
  unfold Oper.wp
  rw [he, Oper.upon_enter]
  refine hc.mono ?_
  rintro e w' ⟨rfl, hR⟩
  obtain ⟨h1, h2⟩ := h w' hR
  refine hK.out _ _ h1 (fun _ => ?_)
  rw [hd]
  simpa [Act.put] using h2
/-- One of the operations that may come up: it gives a value and another world. -/
theorem cVal (i d : Nat) {oi : Oper} (hi : ops[i]? = some oi) (hd : oi.dst = some d)
    (hw : Region.wanted oi (yielded ops ts.toArray) = true) {v : Value} {w' : World} (he : (execOp (Act.mk ts.toArray ds).eval oi).run P w = .ok (.value v) w') {rs : List Nat}
    (h1 : S w') (h2 : wpAnyH P .any ops Q S fuel (listed.setIfInBounds i true) ⟨(ts.set d v).toArray, ds⟩ w')
    (hs : AllReadyH P .any ops Q S fuel listed ⟨ts.toArray, ds⟩ w rs) : AllReadyH P .any ops Q S fuel listed ⟨ts.toArray, ds⟩ w (i :: rs) := by
  refine AllReadyH.cons hi (fun K hK => ?_) hs
  rw [if_pos hw]
  unfold Oper.wp
  rw [he, Oper.upon_value]
  refine hK.out _ _ h1 (fun _ => ?_)
  rw [hd]
  simpa [Act.put] using h2
/-- A whole array is stored. -/
theorem cStore (i : Nat) {oi : Oper} (hi : ops[i]? = some oi) (hd : oi.dst = none)
    (hw : Region.wanted oi (yielded ops ts.toArray) = true) (ty : TypeId) (x y : Operand) (ho : oi.op = .store ty x y) (b : Nat) (hx : (Act.mk ts.toArray ds).eval x = .pointer (some ⟨b, 0, none⟩)) {vs : List Value} (hy : (Act.mk ts.toArray ds).eval y = .agg vs.toArray)
    {cs : List Value} {t : TypeId} (hB : Blk w b cs t) {n : Nat} (hinf : (P.info? ty).map (·.size) = some n) (hn : vs.length = n) (hc : cs.length = n) (h1 : ∀ v ∈ vs, v.oneCell' = true) {rs : List Nat}
    (hS : S (w.setRow b vs.toArray)) (h2 : wpAnyH P .any ops Q S fuel (listed.setIfInBounds i true) ⟨ts.toArray, ds⟩ (w.setRow b vs.toArray))
    (hs : AllReadyH P .any ops Q S fuel listed ⟨ts.toArray, ds⟩ w rs) : AllReadyH P .any ops Q S fuel listed ⟨ts.toArray, ds⟩ w (i :: rs) := by
  refine AllReadyH.cons hi (fun K hK => ?_) hs
  rw [if_pos hw]
  refine wp_store_row ty x y ho b vs.toArray hx hy t cs.toArray hB (by rw [hinf]; simp [hn]) (by simp [hn, hc]) (all_oneCell_toArray h1) ?_
  refine hK.out _ _ hS (fun _ => ?_)
  rw [hd]
  exact h2
theorem range_setRow {W : World} {b g : Nat} {cs : List Value} (h : W.rangeAt b 0 cs) (hne : b ≠ g) (ds : Array Value) : (W.setRow g ds).rangeAt b 0 cs := fun j v hv => by
  rw [← h j v hv]
  unfold World.cell?
  rw [setRow_other W g b ds hne]
end
/-- What is kept through the region. -/
def S2 (w : World) (xs ys : List Int) (W : World) : Prop := Below w.heap.size w W ∧ W.rangeAt w.heap.size 0 (u8s xs) ∧ W.rangeAt (w.heap.size + 1) 0 (u8s ys) ∧ w.heap.size + 2 ≤ W.heap.size
section
variable {w W W' : World} {xs ys : List Int}
theorem S2.call (h : S2 w xs ys W) (hb : Below W.heap.size W W') : S2 w xs ys W' := ⟨bl_call h.1 hb, range_kept h.2.1 hb, range_kept h.2.2.1 hb, Nat.le_trans h.2.2.2 hb.size⟩
theorem S2.alloc (h : S2 w xs ys W) (o : Obj) : S2 w xs ys (W.alloc o) := ⟨bl_new h.1 _, World.rangeAt_alloc h.2.1 _, World.rangeAt_alloc h.2.2.1 _, by have := h.2.2.2; simp; omega⟩
theorem S2.store (h : S2 w xs ys W) {g : Nat} (hg : w.heap.size + 2 ≤ g) (ds : Array Value) : S2 w xs ys (W.setRow g ds) := ⟨bl_setRow h.1 (by omega) _, range_setRow h.2.1 (by omega) _, range_setRow h.2.2.1 (by omega) _, by have := h.2.2.2; simpa using this⟩
end

set_option maxRecDepth 100000 in
set_option maxHeartbeats 2000000 in
theorem afar_any (xs ys : List Int) (hx : xs.length = 24) (hy : ys.length = 24) (rx : Bytes xs) (ry : Bytes ys) (vx : vf xs = true) (vy : vf ys = true) (w : World) :
    Calls Try.prog 48 #[fl xs, fl ys] w fun e w' => e = .returned (.int .i64 (diffs (blurL xs) (blurL ys) 6)) ∧ Below w.heap.size w w' := by
  have hi1 : (Try.prog.info? 38).map (·.size) = some (u8s xs).length := by rw [u8s_length, hx]; exact info_fl
  have hi2 : (Try.prog.info? 38).map (·.size) = some (u8s ys).length := by rw [u8s_length, hy]; exact info_fl
  have kx := fun W => blur_any xs hx rx vx W
  have ky := fun W => blur_any ys hy ry vy W
  have hlx := blurL_length xs
  have hly := blurL_length ys
  unfold fl at *
  have A0 : S2 w xs ys ((w.alloc (.cells (u8s xs).toArray 38)).alloc (.cells (u8s ys).toArray 38)) := ⟨bl_new (bl_new (Below.refl _ _) _) _, ((Blk.new _ _ _).alloc _).range, (Blk.mk _ _ _ (by simp)).range, by simp⟩
  go_enter Try.func48, Try.ntmps48
  go_wp2_with (fail)
  generalize (w.alloc (.cells (u8s xs).toArray 38)).alloc (.cells (u8s ys).toArray 38) = W0 at *
  generalize hQ : Exit.then _ _ = QQ
  suffices rest : ∀ (W : World) (B5 B6 : Nat), Blk W B5 (u8s (blurL xs)) 94 → Blk W B6 (u8s (blurL ys)) 94 → Below w.heap.size w W →
      QQ .normal ⟨#[.agg (u8s xs).toArray, .agg (u8s ys).toArray, .pointer (some ⟨w.heap.size, 0, none⟩), .pointer (some ⟨w.heap.size + 1, 0, none⟩), .int .i64 0, .pointer (some ⟨B5, 0, none⟩), .pointer (some ⟨B6, 0, none⟩), .agg (u8s xs).toArray, .agg (u8s (blurL xs)).toArray, .agg (u8s ys).toArray, .agg (u8s (blurL ys)).toArray, undef, undef, undef], []⟩ W by
    have hQp : ∀ (c : List PanicEntry) (a : Act) (d : Nat) (v : Value) (w : World), QQ (.panic c) (a.put (some d) v) w → QQ (.panic c) a w := by subst hQ; intro c a d v w h; exact h
    clear hQ
    refine wp_region_held_drew (S := S2 w xs ys) (by kernel_rfl) ⟨A0.1.drew, A0.2.1, A0.2.2.1, A0.2.2.2⟩ (fun hHeld => ?_)
    generalize W0.drew = w0 at *
    (refine hTake 0 7 rfl rfl (by kernel_rfl) (by kernel_rfl) (by kernel_rfl) (fun _ _ _ h => hQp _ _ _ _ _ h) (yieldsIf_load_mid (by rfl) _ _ rfl _ _ rfl (u8s xs) _ (fun W h => h.2.1) Try.underlying38 rfl hi1) hHeld ?_; simp only [List.set_cons_zero, List.set_cons_succ])
    (refine hTake 2 9 rfl rfl (by kernel_rfl) (by kernel_rfl) (by kernel_rfl) (fun _ _ _ h => hQp _ _ _ _ _ h) (yieldsIf_load_mid (by rfl) _ _ rfl _ _ rfl (u8s ys) _ (fun W h => h.2.2.1) Try.underlying38 rfl hi2) hHeld ?_; simp only [List.set_cons_zero, List.set_cons_succ])
    refine wpAnyH_ready (rs := [1, 4, 5]) (by kernel_rfl) (by simp) ?_
    refine cCall 1 8 84 rfl rfl (args := #[.agg (u8s xs).toArray]) (by rfl) (by go_simp) _ (kx _) (fun w1 hq => ⟨hHeld.call hq, ?_⟩) ?_
    · simp only [List.set_cons_zero, List.set_cons_succ]
      replace hHeld := hHeld.call hq
      clear hq
      refine wpAnyH_ready (rs := [3, 4, 5]) (by kernel_rfl) (by simp) ?_
      refine cCall 3 10 84 rfl rfl (args := #[.agg (u8s ys).toArray]) (by rfl) (by go_simp) _ (ky _) (fun w2 hq => ⟨hHeld.call hq, ?_⟩) ?_
      · simp only [List.set_cons_zero, List.set_cons_succ]
        replace hHeld := hHeld.call hq
        clear hq
        refine wpAnyH_ready (rs := [4, 5]) (by kernel_rfl) (by simp) ?_
        refine cVal 4 5 rfl rfl (by rfl) (v := .pointer (some ⟨w2.heap.size, 0, none⟩)) (w' := w2.alloc (.cells #[.int .u8 0, .int .u8 0, .int .u8 0, .int .u8 0, .int .u8 0, .int .u8 0] 94)) (by go_simp) (hHeld.alloc _) ?_ ?_
        · simp only [List.set_cons_zero, List.set_cons_succ]
          have hga := hHeld.2.2.2
          have ha : Blk (w2.alloc (.cells #[.int .u8 0, .int .u8 0, .int .u8 0, .int .u8 0, .int .u8 0, .int .u8 0] 94)) w2.heap.size (u8s zero6) 94 := Blk.mk _ (u8s zero6) _ rfl
          replace hHeld := hHeld.alloc (.cells #[.int .u8 0, .int .u8 0, .int .u8 0, .int .u8 0, .int .u8 0, .int .u8 0] 94)
          generalize w2.heap.size = B5 at *
          generalize w2.alloc (.cells #[.int .u8 0, .int .u8 0, .int .u8 0, .int .u8 0, .int .u8 0, .int .u8 0] 94) = w3 at *
          refine wpAnyH_ready (rs := [5]) (by kernel_rfl) (by simp) ?_
          refine cVal 5 6 rfl rfl (by rfl) (v := .pointer (some ⟨w3.heap.size, 0, none⟩)) (w' := w3.alloc (.cells #[.int .u8 0, .int .u8 0, .int .u8 0, .int .u8 0, .int .u8 0, .int .u8 0] 94)) (by go_simp) (hHeld.alloc _) ?_ ?_
          · simp only [List.set_cons_zero, List.set_cons_succ]
            have hgb := hHeld.2.2.2
            have hb : Blk (w3.alloc (.cells #[.int .u8 0, .int .u8 0, .int .u8 0, .int .u8 0, .int .u8 0, .int .u8 0] 94)) w3.heap.size (u8s zero6) 94 := Blk.mk _ (u8s zero6) _ rfl
            replace hHeld := hHeld.alloc (.cells #[.int .u8 0, .int .u8 0, .int .u8 0, .int .u8 0, .int .u8 0, .int .u8 0] 94)
            have hne := Nat.ne_of_lt ha.lt
            replace ha := ha.alloc (.cells #[.int .u8 0, .int .u8 0, .int .u8 0, .int .u8 0, .int .u8 0, .int .u8 0] 94)
            generalize w3.heap.size = B6 at *
            generalize w3.alloc (.cells #[.int .u8 0, .int .u8 0, .int .u8 0, .int .u8 0, .int .u8 0, .int .u8 0] 94) = w4 at *
            have hS6 := hHeld.store hga (u8s (blurL xs)).toArray
            have hB6 := hb.farRow (Ne.symm hne) (u8s (blurL xs)).toArray
            refine wpAnyH_ready (rs := [6]) (by kernel_rfl) (by simp) ?_
            refine cStore 6 rfl rfl (by rfl) 94 _ _ rfl _ rfl (vs := u8s (blurL xs)) rfl ha info_b6 (by rw [u8s_length]; exact hlx) (by rw [u8s_length]; rfl) (u8s_one _) hS6 ?_ AllReadyH.nil
            refine wpAnyH_ready (rs := [7]) (by kernel_rfl) (by simp) ?_
            refine cStore 7 rfl rfl (by rfl) 94 _ _ rfl _ rfl (vs := u8s (blurL ys)) rfl hB6 info_b6 (by rw [u8s_length]; exact hly) (by rw [u8s_length]; rfl) (u8s_one _) (hS6.store hgb _) ?_ AllReadyH.nil
            refine wpAnyH_done (by kernel_rfl) ?_ _
            exact rest _ _ _ ((ha.setRow _).farRow hne _) (hB6.setRow _) (hS6.store hgb _).1
          exact AllReadyH.nil
        refine cVal 5 6 rfl rfl (by rfl) (v := .pointer (some ⟨w2.heap.size, 0, none⟩)) (w' := w2.alloc (.cells #[.int .u8 0, .int .u8 0, .int .u8 0, .int .u8 0, .int .u8 0, .int .u8 0] 94)) (by go_simp) (hHeld.alloc _) ?_ ?_
        · simp only [List.set_cons_zero, List.set_cons_succ]
          have hgb := hHeld.2.2.2
          have hb : Blk (w2.alloc (.cells #[.int .u8 0, .int .u8 0, .int .u8 0, .int .u8 0, .int .u8 0, .int .u8 0] 94)) w2.heap.size (u8s zero6) 94 := Blk.mk _ (u8s zero6) _ rfl
          replace hHeld := hHeld.alloc (.cells #[.int .u8 0, .int .u8 0, .int .u8 0, .int .u8 0, .int .u8 0, .int .u8 0] 94)
          generalize w2.heap.size = B6 at *
          generalize w2.alloc (.cells #[.int .u8 0, .int .u8 0, .int .u8 0, .int .u8 0, .int .u8 0, .int .u8 0] 94) = w5 at *
          refine wpAnyH_ready (rs := [4]) (by kernel_rfl) (by simp) ?_
          refine cVal 4 5 rfl rfl (by rfl) (v := .pointer (some ⟨w5.heap.size, 0, none⟩)) (w' := w5.alloc (.cells #[.int .u8 0, .int .u8 0, .int .u8 0, .int .u8 0, .int .u8 0, .int .u8 0] 94)) (by go_simp) (hHeld.alloc _) ?_ ?_
          · simp only [List.set_cons_zero, List.set_cons_succ]
            have hga := hHeld.2.2.2
            have ha : Blk (w5.alloc (.cells #[.int .u8 0, .int .u8 0, .int .u8 0, .int .u8 0, .int .u8 0, .int .u8 0] 94)) w5.heap.size (u8s zero6) 94 := Blk.mk _ (u8s zero6) _ rfl
            replace hHeld := hHeld.alloc (.cells #[.int .u8 0, .int .u8 0, .int .u8 0, .int .u8 0, .int .u8 0, .int .u8 0] 94)
            have hne := Nat.ne_of_gt hb.lt
            replace hb := hb.alloc (.cells #[.int .u8 0, .int .u8 0, .int .u8 0, .int .u8 0, .int .u8 0, .int .u8 0] 94)
            generalize w5.heap.size = B5 at *
            generalize w5.alloc (.cells #[.int .u8 0, .int .u8 0, .int .u8 0, .int .u8 0, .int .u8 0, .int .u8 0] 94) = w6 at *
            have hS6 := hHeld.store hga (u8s (blurL xs)).toArray
            have hB6 := hb.farRow (Ne.symm hne) (u8s (blurL xs)).toArray
            refine wpAnyH_ready (rs := [6]) (by kernel_rfl) (by simp) ?_
            refine cStore 6 rfl rfl (by rfl) 94 _ _ rfl _ rfl (vs := u8s (blurL xs)) rfl ha info_b6 (by rw [u8s_length]; exact hlx) (by rw [u8s_length]; rfl) (u8s_one _) hS6 ?_ AllReadyH.nil
            refine wpAnyH_ready (rs := [7]) (by kernel_rfl) (by simp) ?_
            refine cStore 7 rfl rfl (by rfl) 94 _ _ rfl _ rfl (vs := u8s (blurL ys)) rfl hB6 info_b6 (by rw [u8s_length]; exact hly) (by rw [u8s_length]; rfl) (u8s_one _) (hS6.store hgb _) ?_ AllReadyH.nil
            refine wpAnyH_done (by kernel_rfl) ?_ _
            exact rest _ _ _ ((ha.setRow _).farRow hne _) (hB6.setRow _) (hS6.store hgb _).1
          exact AllReadyH.nil
        exact AllReadyH.nil
      refine cVal 4 5 rfl rfl (by rfl) (v := .pointer (some ⟨w1.heap.size, 0, none⟩)) (w' := w1.alloc (.cells #[.int .u8 0, .int .u8 0, .int .u8 0, .int .u8 0, .int .u8 0, .int .u8 0] 94)) (by go_simp) (hHeld.alloc _) ?_ ?_
      · simp only [List.set_cons_zero, List.set_cons_succ]
        have hga := hHeld.2.2.2
        have ha : Blk (w1.alloc (.cells #[.int .u8 0, .int .u8 0, .int .u8 0, .int .u8 0, .int .u8 0, .int .u8 0] 94)) w1.heap.size (u8s zero6) 94 := Blk.mk _ (u8s zero6) _ rfl
        replace hHeld := hHeld.alloc (.cells #[.int .u8 0, .int .u8 0, .int .u8 0, .int .u8 0, .int .u8 0, .int .u8 0] 94)
        generalize w1.heap.size = B5 at *
        generalize w1.alloc (.cells #[.int .u8 0, .int .u8 0, .int .u8 0, .int .u8 0, .int .u8 0, .int .u8 0] 94) = w7 at *
        refine wpAnyH_ready (rs := [3, 5]) (by kernel_rfl) (by simp) ?_
        refine cCall 3 10 84 rfl rfl (args := #[.agg (u8s ys).toArray]) (by rfl) (by go_simp) _ (ky _) (fun w8 hq => ⟨hHeld.call hq, ?_⟩) ?_
        · simp only [List.set_cons_zero, List.set_cons_succ]
          replace hHeld := hHeld.call hq
          replace ha := ha.kept hq
          clear hq
          refine wpAnyH_ready (rs := [5]) (by kernel_rfl) (by simp) ?_
          refine cVal 5 6 rfl rfl (by rfl) (v := .pointer (some ⟨w8.heap.size, 0, none⟩)) (w' := w8.alloc (.cells #[.int .u8 0, .int .u8 0, .int .u8 0, .int .u8 0, .int .u8 0, .int .u8 0] 94)) (by go_simp) (hHeld.alloc _) ?_ ?_
          · simp only [List.set_cons_zero, List.set_cons_succ]
            have hgb := hHeld.2.2.2
            have hb : Blk (w8.alloc (.cells #[.int .u8 0, .int .u8 0, .int .u8 0, .int .u8 0, .int .u8 0, .int .u8 0] 94)) w8.heap.size (u8s zero6) 94 := Blk.mk _ (u8s zero6) _ rfl
            replace hHeld := hHeld.alloc (.cells #[.int .u8 0, .int .u8 0, .int .u8 0, .int .u8 0, .int .u8 0, .int .u8 0] 94)
            have hne := Nat.ne_of_lt ha.lt
            replace ha := ha.alloc (.cells #[.int .u8 0, .int .u8 0, .int .u8 0, .int .u8 0, .int .u8 0, .int .u8 0] 94)
            generalize w8.heap.size = B6 at *
            generalize w8.alloc (.cells #[.int .u8 0, .int .u8 0, .int .u8 0, .int .u8 0, .int .u8 0, .int .u8 0] 94) = w9 at *
            have hS6 := hHeld.store hga (u8s (blurL xs)).toArray
            have hB6 := hb.farRow (Ne.symm hne) (u8s (blurL xs)).toArray
            refine wpAnyH_ready (rs := [6]) (by kernel_rfl) (by simp) ?_
            refine cStore 6 rfl rfl (by rfl) 94 _ _ rfl _ rfl (vs := u8s (blurL xs)) rfl ha info_b6 (by rw [u8s_length]; exact hlx) (by rw [u8s_length]; rfl) (u8s_one _) hS6 ?_ AllReadyH.nil
            refine wpAnyH_ready (rs := [7]) (by kernel_rfl) (by simp) ?_
            refine cStore 7 rfl rfl (by rfl) 94 _ _ rfl _ rfl (vs := u8s (blurL ys)) rfl hB6 info_b6 (by rw [u8s_length]; exact hly) (by rw [u8s_length]; rfl) (u8s_one _) (hS6.store hgb _) ?_ AllReadyH.nil
            refine wpAnyH_done (by kernel_rfl) ?_ _
            exact rest _ _ _ ((ha.setRow _).farRow hne _) (hB6.setRow _) (hS6.store hgb _).1
          exact AllReadyH.nil
        refine cVal 5 6 rfl rfl (by rfl) (v := .pointer (some ⟨w7.heap.size, 0, none⟩)) (w' := w7.alloc (.cells #[.int .u8 0, .int .u8 0, .int .u8 0, .int .u8 0, .int .u8 0, .int .u8 0] 94)) (by go_simp) (hHeld.alloc _) ?_ ?_
        · simp only [List.set_cons_zero, List.set_cons_succ]
          have hgb := hHeld.2.2.2
          have hb : Blk (w7.alloc (.cells #[.int .u8 0, .int .u8 0, .int .u8 0, .int .u8 0, .int .u8 0, .int .u8 0] 94)) w7.heap.size (u8s zero6) 94 := Blk.mk _ (u8s zero6) _ rfl
          replace hHeld := hHeld.alloc (.cells #[.int .u8 0, .int .u8 0, .int .u8 0, .int .u8 0, .int .u8 0, .int .u8 0] 94)
          have hne := Nat.ne_of_lt ha.lt
          replace ha := ha.alloc (.cells #[.int .u8 0, .int .u8 0, .int .u8 0, .int .u8 0, .int .u8 0, .int .u8 0] 94)
          generalize w7.heap.size = B6 at *
          generalize w7.alloc (.cells #[.int .u8 0, .int .u8 0, .int .u8 0, .int .u8 0, .int .u8 0, .int .u8 0] 94) = w10 at *
          refine wpAnyH_ready (rs := [3]) (by kernel_rfl) (by simp) ?_
          refine cCall 3 10 84 rfl rfl (args := #[.agg (u8s ys).toArray]) (by rfl) (by go_simp) _ (ky _) (fun w11 hq => ⟨hHeld.call hq, ?_⟩) ?_
          · simp only [List.set_cons_zero, List.set_cons_succ]
            replace hHeld := hHeld.call hq
            replace ha := ha.kept hq
            replace hb := hb.kept hq
            clear hq
            have hS6 := hHeld.store hga (u8s (blurL xs)).toArray
            have hB6 := hb.farRow (Ne.symm hne) (u8s (blurL xs)).toArray
            refine wpAnyH_ready (rs := [6]) (by kernel_rfl) (by simp) ?_
            refine cStore 6 rfl rfl (by rfl) 94 _ _ rfl _ rfl (vs := u8s (blurL xs)) rfl ha info_b6 (by rw [u8s_length]; exact hlx) (by rw [u8s_length]; rfl) (u8s_one _) hS6 ?_ AllReadyH.nil
            refine wpAnyH_ready (rs := [7]) (by kernel_rfl) (by simp) ?_
            refine cStore 7 rfl rfl (by rfl) 94 _ _ rfl _ rfl (vs := u8s (blurL ys)) rfl hB6 info_b6 (by rw [u8s_length]; exact hly) (by rw [u8s_length]; rfl) (u8s_one _) (hS6.store hgb _) ?_ AllReadyH.nil
            refine wpAnyH_done (by kernel_rfl) ?_ _
            exact rest _ _ _ ((ha.setRow _).farRow hne _) (hB6.setRow _) (hS6.store hgb _).1
          exact AllReadyH.nil
        exact AllReadyH.nil
      refine cVal 5 6 rfl rfl (by rfl) (v := .pointer (some ⟨w1.heap.size, 0, none⟩)) (w' := w1.alloc (.cells #[.int .u8 0, .int .u8 0, .int .u8 0, .int .u8 0, .int .u8 0, .int .u8 0] 94)) (by go_simp) (hHeld.alloc _) ?_ ?_
      · simp only [List.set_cons_zero, List.set_cons_succ]
        have hgb := hHeld.2.2.2
        have hb : Blk (w1.alloc (.cells #[.int .u8 0, .int .u8 0, .int .u8 0, .int .u8 0, .int .u8 0, .int .u8 0] 94)) w1.heap.size (u8s zero6) 94 := Blk.mk _ (u8s zero6) _ rfl
        replace hHeld := hHeld.alloc (.cells #[.int .u8 0, .int .u8 0, .int .u8 0, .int .u8 0, .int .u8 0, .int .u8 0] 94)
        generalize w1.heap.size = B6 at *
        generalize w1.alloc (.cells #[.int .u8 0, .int .u8 0, .int .u8 0, .int .u8 0, .int .u8 0, .int .u8 0] 94) = w12 at *
        refine wpAnyH_ready (rs := [3, 4]) (by kernel_rfl) (by simp) ?_
        refine cCall 3 10 84 rfl rfl (args := #[.agg (u8s ys).toArray]) (by rfl) (by go_simp) _ (ky _) (fun w13 hq => ⟨hHeld.call hq, ?_⟩) ?_
        · simp only [List.set_cons_zero, List.set_cons_succ]
          replace hHeld := hHeld.call hq
          replace hb := hb.kept hq
          clear hq
          refine wpAnyH_ready (rs := [4]) (by kernel_rfl) (by simp) ?_
          refine cVal 4 5 rfl rfl (by rfl) (v := .pointer (some ⟨w13.heap.size, 0, none⟩)) (w' := w13.alloc (.cells #[.int .u8 0, .int .u8 0, .int .u8 0, .int .u8 0, .int .u8 0, .int .u8 0] 94)) (by go_simp) (hHeld.alloc _) ?_ ?_
          · simp only [List.set_cons_zero, List.set_cons_succ]
            have hga := hHeld.2.2.2
            have ha : Blk (w13.alloc (.cells #[.int .u8 0, .int .u8 0, .int .u8 0, .int .u8 0, .int .u8 0, .int .u8 0] 94)) w13.heap.size (u8s zero6) 94 := Blk.mk _ (u8s zero6) _ rfl
            replace hHeld := hHeld.alloc (.cells #[.int .u8 0, .int .u8 0, .int .u8 0, .int .u8 0, .int .u8 0, .int .u8 0] 94)
            have hne := Nat.ne_of_gt hb.lt
            replace hb := hb.alloc (.cells #[.int .u8 0, .int .u8 0, .int .u8 0, .int .u8 0, .int .u8 0, .int .u8 0] 94)
            generalize w13.heap.size = B5 at *
            generalize w13.alloc (.cells #[.int .u8 0, .int .u8 0, .int .u8 0, .int .u8 0, .int .u8 0, .int .u8 0] 94) = w14 at *
            have hS6 := hHeld.store hga (u8s (blurL xs)).toArray
            have hB6 := hb.farRow (Ne.symm hne) (u8s (blurL xs)).toArray
            refine wpAnyH_ready (rs := [6]) (by kernel_rfl) (by simp) ?_
            refine cStore 6 rfl rfl (by rfl) 94 _ _ rfl _ rfl (vs := u8s (blurL xs)) rfl ha info_b6 (by rw [u8s_length]; exact hlx) (by rw [u8s_length]; rfl) (u8s_one _) hS6 ?_ AllReadyH.nil
            refine wpAnyH_ready (rs := [7]) (by kernel_rfl) (by simp) ?_
            refine cStore 7 rfl rfl (by rfl) 94 _ _ rfl _ rfl (vs := u8s (blurL ys)) rfl hB6 info_b6 (by rw [u8s_length]; exact hly) (by rw [u8s_length]; rfl) (u8s_one _) (hS6.store hgb _) ?_ AllReadyH.nil
            refine wpAnyH_done (by kernel_rfl) ?_ _
            exact rest _ _ _ ((ha.setRow _).farRow hne _) (hB6.setRow _) (hS6.store hgb _).1
          exact AllReadyH.nil
        refine cVal 4 5 rfl rfl (by rfl) (v := .pointer (some ⟨w12.heap.size, 0, none⟩)) (w' := w12.alloc (.cells #[.int .u8 0, .int .u8 0, .int .u8 0, .int .u8 0, .int .u8 0, .int .u8 0] 94)) (by go_simp) (hHeld.alloc _) ?_ ?_
        · simp only [List.set_cons_zero, List.set_cons_succ]
          have hga := hHeld.2.2.2
          have ha : Blk (w12.alloc (.cells #[.int .u8 0, .int .u8 0, .int .u8 0, .int .u8 0, .int .u8 0, .int .u8 0] 94)) w12.heap.size (u8s zero6) 94 := Blk.mk _ (u8s zero6) _ rfl
          replace hHeld := hHeld.alloc (.cells #[.int .u8 0, .int .u8 0, .int .u8 0, .int .u8 0, .int .u8 0, .int .u8 0] 94)
          have hne := Nat.ne_of_gt hb.lt
          replace hb := hb.alloc (.cells #[.int .u8 0, .int .u8 0, .int .u8 0, .int .u8 0, .int .u8 0, .int .u8 0] 94)
          generalize w12.heap.size = B5 at *
          generalize w12.alloc (.cells #[.int .u8 0, .int .u8 0, .int .u8 0, .int .u8 0, .int .u8 0, .int .u8 0] 94) = w15 at *
          refine wpAnyH_ready (rs := [3]) (by kernel_rfl) (by simp) ?_
          refine cCall 3 10 84 rfl rfl (args := #[.agg (u8s ys).toArray]) (by rfl) (by go_simp) _ (ky _) (fun w16 hq => ⟨hHeld.call hq, ?_⟩) ?_
          · simp only [List.set_cons_zero, List.set_cons_succ]
            replace hHeld := hHeld.call hq
            replace ha := ha.kept hq
            replace hb := hb.kept hq
            clear hq
            have hS6 := hHeld.store hga (u8s (blurL xs)).toArray
            have hB6 := hb.farRow (Ne.symm hne) (u8s (blurL xs)).toArray
            refine wpAnyH_ready (rs := [6]) (by kernel_rfl) (by simp) ?_
            refine cStore 6 rfl rfl (by rfl) 94 _ _ rfl _ rfl (vs := u8s (blurL xs)) rfl ha info_b6 (by rw [u8s_length]; exact hlx) (by rw [u8s_length]; rfl) (u8s_one _) hS6 ?_ AllReadyH.nil
            refine wpAnyH_ready (rs := [7]) (by kernel_rfl) (by simp) ?_
            refine cStore 7 rfl rfl (by rfl) 94 _ _ rfl _ rfl (vs := u8s (blurL ys)) rfl hB6 info_b6 (by rw [u8s_length]; exact hly) (by rw [u8s_length]; rfl) (u8s_one _) (hS6.store hgb _) ?_ AllReadyH.nil
            refine wpAnyH_done (by kernel_rfl) ?_ _
            exact rest _ _ _ ((ha.setRow _).farRow hne _) (hB6.setRow _) (hS6.store hgb _).1
          exact AllReadyH.nil
        exact AllReadyH.nil
      exact AllReadyH.nil
    refine cVal 4 5 rfl rfl (by rfl) (v := .pointer (some ⟨w0.heap.size, 0, none⟩)) (w' := w0.alloc (.cells #[.int .u8 0, .int .u8 0, .int .u8 0, .int .u8 0, .int .u8 0, .int .u8 0] 94)) (by go_simp) (hHeld.alloc _) ?_ ?_
    · simp only [List.set_cons_zero, List.set_cons_succ]
      have hga := hHeld.2.2.2
      have ha : Blk (w0.alloc (.cells #[.int .u8 0, .int .u8 0, .int .u8 0, .int .u8 0, .int .u8 0, .int .u8 0] 94)) w0.heap.size (u8s zero6) 94 := Blk.mk _ (u8s zero6) _ rfl
      replace hHeld := hHeld.alloc (.cells #[.int .u8 0, .int .u8 0, .int .u8 0, .int .u8 0, .int .u8 0, .int .u8 0] 94)
      generalize w0.heap.size = B5 at *
      generalize w0.alloc (.cells #[.int .u8 0, .int .u8 0, .int .u8 0, .int .u8 0, .int .u8 0, .int .u8 0] 94) = w17 at *
      refine wpAnyH_ready (rs := [1, 5]) (by kernel_rfl) (by simp) ?_
      refine cCall 1 8 84 rfl rfl (args := #[.agg (u8s xs).toArray]) (by rfl) (by go_simp) _ (kx _) (fun w18 hq => ⟨hHeld.call hq, ?_⟩) ?_
      · simp only [List.set_cons_zero, List.set_cons_succ]
        replace hHeld := hHeld.call hq
        replace ha := ha.kept hq
        clear hq
        refine wpAnyH_ready (rs := [3, 5]) (by kernel_rfl) (by simp) ?_
        refine cCall 3 10 84 rfl rfl (args := #[.agg (u8s ys).toArray]) (by rfl) (by go_simp) _ (ky _) (fun w19 hq => ⟨hHeld.call hq, ?_⟩) ?_
        · simp only [List.set_cons_zero, List.set_cons_succ]
          replace hHeld := hHeld.call hq
          replace ha := ha.kept hq
          clear hq
          refine wpAnyH_ready (rs := [5]) (by kernel_rfl) (by simp) ?_
          refine cVal 5 6 rfl rfl (by rfl) (v := .pointer (some ⟨w19.heap.size, 0, none⟩)) (w' := w19.alloc (.cells #[.int .u8 0, .int .u8 0, .int .u8 0, .int .u8 0, .int .u8 0, .int .u8 0] 94)) (by go_simp) (hHeld.alloc _) ?_ ?_
          · simp only [List.set_cons_zero, List.set_cons_succ]
            have hgb := hHeld.2.2.2
            have hb : Blk (w19.alloc (.cells #[.int .u8 0, .int .u8 0, .int .u8 0, .int .u8 0, .int .u8 0, .int .u8 0] 94)) w19.heap.size (u8s zero6) 94 := Blk.mk _ (u8s zero6) _ rfl
            replace hHeld := hHeld.alloc (.cells #[.int .u8 0, .int .u8 0, .int .u8 0, .int .u8 0, .int .u8 0, .int .u8 0] 94)
            have hne := Nat.ne_of_lt ha.lt
            replace ha := ha.alloc (.cells #[.int .u8 0, .int .u8 0, .int .u8 0, .int .u8 0, .int .u8 0, .int .u8 0] 94)
            generalize w19.heap.size = B6 at *
            generalize w19.alloc (.cells #[.int .u8 0, .int .u8 0, .int .u8 0, .int .u8 0, .int .u8 0, .int .u8 0] 94) = w20 at *
            have hS6 := hHeld.store hga (u8s (blurL xs)).toArray
            have hB6 := hb.farRow (Ne.symm hne) (u8s (blurL xs)).toArray
            refine wpAnyH_ready (rs := [6]) (by kernel_rfl) (by simp) ?_
            refine cStore 6 rfl rfl (by rfl) 94 _ _ rfl _ rfl (vs := u8s (blurL xs)) rfl ha info_b6 (by rw [u8s_length]; exact hlx) (by rw [u8s_length]; rfl) (u8s_one _) hS6 ?_ AllReadyH.nil
            refine wpAnyH_ready (rs := [7]) (by kernel_rfl) (by simp) ?_
            refine cStore 7 rfl rfl (by rfl) 94 _ _ rfl _ rfl (vs := u8s (blurL ys)) rfl hB6 info_b6 (by rw [u8s_length]; exact hly) (by rw [u8s_length]; rfl) (u8s_one _) (hS6.store hgb _) ?_ AllReadyH.nil
            refine wpAnyH_done (by kernel_rfl) ?_ _
            exact rest _ _ _ ((ha.setRow _).farRow hne _) (hB6.setRow _) (hS6.store hgb _).1
          exact AllReadyH.nil
        refine cVal 5 6 rfl rfl (by rfl) (v := .pointer (some ⟨w18.heap.size, 0, none⟩)) (w' := w18.alloc (.cells #[.int .u8 0, .int .u8 0, .int .u8 0, .int .u8 0, .int .u8 0, .int .u8 0] 94)) (by go_simp) (hHeld.alloc _) ?_ ?_
        · simp only [List.set_cons_zero, List.set_cons_succ]
          have hgb := hHeld.2.2.2
          have hb : Blk (w18.alloc (.cells #[.int .u8 0, .int .u8 0, .int .u8 0, .int .u8 0, .int .u8 0, .int .u8 0] 94)) w18.heap.size (u8s zero6) 94 := Blk.mk _ (u8s zero6) _ rfl
          replace hHeld := hHeld.alloc (.cells #[.int .u8 0, .int .u8 0, .int .u8 0, .int .u8 0, .int .u8 0, .int .u8 0] 94)
          have hne := Nat.ne_of_lt ha.lt
          replace ha := ha.alloc (.cells #[.int .u8 0, .int .u8 0, .int .u8 0, .int .u8 0, .int .u8 0, .int .u8 0] 94)
          generalize w18.heap.size = B6 at *
          generalize w18.alloc (.cells #[.int .u8 0, .int .u8 0, .int .u8 0, .int .u8 0, .int .u8 0, .int .u8 0] 94) = w21 at *
          refine wpAnyH_ready (rs := [3]) (by kernel_rfl) (by simp) ?_
          refine cCall 3 10 84 rfl rfl (args := #[.agg (u8s ys).toArray]) (by rfl) (by go_simp) _ (ky _) (fun w22 hq => ⟨hHeld.call hq, ?_⟩) ?_
          · simp only [List.set_cons_zero, List.set_cons_succ]
            replace hHeld := hHeld.call hq
            replace ha := ha.kept hq
            replace hb := hb.kept hq
            clear hq
            have hS6 := hHeld.store hga (u8s (blurL xs)).toArray
            have hB6 := hb.farRow (Ne.symm hne) (u8s (blurL xs)).toArray
            refine wpAnyH_ready (rs := [6]) (by kernel_rfl) (by simp) ?_
            refine cStore 6 rfl rfl (by rfl) 94 _ _ rfl _ rfl (vs := u8s (blurL xs)) rfl ha info_b6 (by rw [u8s_length]; exact hlx) (by rw [u8s_length]; rfl) (u8s_one _) hS6 ?_ AllReadyH.nil
            refine wpAnyH_ready (rs := [7]) (by kernel_rfl) (by simp) ?_
            refine cStore 7 rfl rfl (by rfl) 94 _ _ rfl _ rfl (vs := u8s (blurL ys)) rfl hB6 info_b6 (by rw [u8s_length]; exact hly) (by rw [u8s_length]; rfl) (u8s_one _) (hS6.store hgb _) ?_ AllReadyH.nil
            refine wpAnyH_done (by kernel_rfl) ?_ _
            exact rest _ _ _ ((ha.setRow _).farRow hne _) (hB6.setRow _) (hS6.store hgb _).1
          exact AllReadyH.nil
        exact AllReadyH.nil
      refine cVal 5 6 rfl rfl (by rfl) (v := .pointer (some ⟨w17.heap.size, 0, none⟩)) (w' := w17.alloc (.cells #[.int .u8 0, .int .u8 0, .int .u8 0, .int .u8 0, .int .u8 0, .int .u8 0] 94)) (by go_simp) (hHeld.alloc _) ?_ ?_
      · simp only [List.set_cons_zero, List.set_cons_succ]
        have hgb := hHeld.2.2.2
        have hb : Blk (w17.alloc (.cells #[.int .u8 0, .int .u8 0, .int .u8 0, .int .u8 0, .int .u8 0, .int .u8 0] 94)) w17.heap.size (u8s zero6) 94 := Blk.mk _ (u8s zero6) _ rfl
        replace hHeld := hHeld.alloc (.cells #[.int .u8 0, .int .u8 0, .int .u8 0, .int .u8 0, .int .u8 0, .int .u8 0] 94)
        have hne := Nat.ne_of_lt ha.lt
        replace ha := ha.alloc (.cells #[.int .u8 0, .int .u8 0, .int .u8 0, .int .u8 0, .int .u8 0, .int .u8 0] 94)
        generalize w17.heap.size = B6 at *
        generalize w17.alloc (.cells #[.int .u8 0, .int .u8 0, .int .u8 0, .int .u8 0, .int .u8 0, .int .u8 0] 94) = w23 at *
        refine wpAnyH_ready (rs := [1]) (by kernel_rfl) (by simp) ?_
        refine cCall 1 8 84 rfl rfl (args := #[.agg (u8s xs).toArray]) (by rfl) (by go_simp) _ (kx _) (fun w24 hq => ⟨hHeld.call hq, ?_⟩) ?_
        · simp only [List.set_cons_zero, List.set_cons_succ]
          replace hHeld := hHeld.call hq
          replace ha := ha.kept hq
          replace hb := hb.kept hq
          clear hq
          refine wpAnyH_ready (rs := [3]) (by kernel_rfl) (by simp) ?_
          refine cCall 3 10 84 rfl rfl (args := #[.agg (u8s ys).toArray]) (by rfl) (by go_simp) _ (ky _) (fun w25 hq => ⟨hHeld.call hq, ?_⟩) ?_
          · simp only [List.set_cons_zero, List.set_cons_succ]
            replace hHeld := hHeld.call hq
            replace ha := ha.kept hq
            replace hb := hb.kept hq
            clear hq
            have hS6 := hHeld.store hga (u8s (blurL xs)).toArray
            have hB6 := hb.farRow (Ne.symm hne) (u8s (blurL xs)).toArray
            refine wpAnyH_ready (rs := [6]) (by kernel_rfl) (by simp) ?_
            refine cStore 6 rfl rfl (by rfl) 94 _ _ rfl _ rfl (vs := u8s (blurL xs)) rfl ha info_b6 (by rw [u8s_length]; exact hlx) (by rw [u8s_length]; rfl) (u8s_one _) hS6 ?_ AllReadyH.nil
            refine wpAnyH_ready (rs := [7]) (by kernel_rfl) (by simp) ?_
            refine cStore 7 rfl rfl (by rfl) 94 _ _ rfl _ rfl (vs := u8s (blurL ys)) rfl hB6 info_b6 (by rw [u8s_length]; exact hly) (by rw [u8s_length]; rfl) (u8s_one _) (hS6.store hgb _) ?_ AllReadyH.nil
            refine wpAnyH_done (by kernel_rfl) ?_ _
            exact rest _ _ _ ((ha.setRow _).farRow hne _) (hB6.setRow _) (hS6.store hgb _).1
          exact AllReadyH.nil
        exact AllReadyH.nil
      exact AllReadyH.nil
    refine cVal 5 6 rfl rfl (by rfl) (v := .pointer (some ⟨w0.heap.size, 0, none⟩)) (w' := w0.alloc (.cells #[.int .u8 0, .int .u8 0, .int .u8 0, .int .u8 0, .int .u8 0, .int .u8 0] 94)) (by go_simp) (hHeld.alloc _) ?_ ?_
    · simp only [List.set_cons_zero, List.set_cons_succ]
      have hgb := hHeld.2.2.2
      have hb : Blk (w0.alloc (.cells #[.int .u8 0, .int .u8 0, .int .u8 0, .int .u8 0, .int .u8 0, .int .u8 0] 94)) w0.heap.size (u8s zero6) 94 := Blk.mk _ (u8s zero6) _ rfl
      replace hHeld := hHeld.alloc (.cells #[.int .u8 0, .int .u8 0, .int .u8 0, .int .u8 0, .int .u8 0, .int .u8 0] 94)
      generalize w0.heap.size = B6 at *
      generalize w0.alloc (.cells #[.int .u8 0, .int .u8 0, .int .u8 0, .int .u8 0, .int .u8 0, .int .u8 0] 94) = w26 at *
      refine wpAnyH_ready (rs := [1, 4]) (by kernel_rfl) (by simp) ?_
      refine cCall 1 8 84 rfl rfl (args := #[.agg (u8s xs).toArray]) (by rfl) (by go_simp) _ (kx _) (fun w27 hq => ⟨hHeld.call hq, ?_⟩) ?_
      · simp only [List.set_cons_zero, List.set_cons_succ]
        replace hHeld := hHeld.call hq
        replace hb := hb.kept hq
        clear hq
        refine wpAnyH_ready (rs := [3, 4]) (by kernel_rfl) (by simp) ?_
        refine cCall 3 10 84 rfl rfl (args := #[.agg (u8s ys).toArray]) (by rfl) (by go_simp) _ (ky _) (fun w28 hq => ⟨hHeld.call hq, ?_⟩) ?_
        · simp only [List.set_cons_zero, List.set_cons_succ]
          replace hHeld := hHeld.call hq
          replace hb := hb.kept hq
          clear hq
          refine wpAnyH_ready (rs := [4]) (by kernel_rfl) (by simp) ?_
          refine cVal 4 5 rfl rfl (by rfl) (v := .pointer (some ⟨w28.heap.size, 0, none⟩)) (w' := w28.alloc (.cells #[.int .u8 0, .int .u8 0, .int .u8 0, .int .u8 0, .int .u8 0, .int .u8 0] 94)) (by go_simp) (hHeld.alloc _) ?_ ?_
          · simp only [List.set_cons_zero, List.set_cons_succ]
            have hga := hHeld.2.2.2
            have ha : Blk (w28.alloc (.cells #[.int .u8 0, .int .u8 0, .int .u8 0, .int .u8 0, .int .u8 0, .int .u8 0] 94)) w28.heap.size (u8s zero6) 94 := Blk.mk _ (u8s zero6) _ rfl
            replace hHeld := hHeld.alloc (.cells #[.int .u8 0, .int .u8 0, .int .u8 0, .int .u8 0, .int .u8 0, .int .u8 0] 94)
            have hne := Nat.ne_of_gt hb.lt
            replace hb := hb.alloc (.cells #[.int .u8 0, .int .u8 0, .int .u8 0, .int .u8 0, .int .u8 0, .int .u8 0] 94)
            generalize w28.heap.size = B5 at *
            generalize w28.alloc (.cells #[.int .u8 0, .int .u8 0, .int .u8 0, .int .u8 0, .int .u8 0, .int .u8 0] 94) = w29 at *
            have hS6 := hHeld.store hga (u8s (blurL xs)).toArray
            have hB6 := hb.farRow (Ne.symm hne) (u8s (blurL xs)).toArray
            refine wpAnyH_ready (rs := [6]) (by kernel_rfl) (by simp) ?_
            refine cStore 6 rfl rfl (by rfl) 94 _ _ rfl _ rfl (vs := u8s (blurL xs)) rfl ha info_b6 (by rw [u8s_length]; exact hlx) (by rw [u8s_length]; rfl) (u8s_one _) hS6 ?_ AllReadyH.nil
            refine wpAnyH_ready (rs := [7]) (by kernel_rfl) (by simp) ?_
            refine cStore 7 rfl rfl (by rfl) 94 _ _ rfl _ rfl (vs := u8s (blurL ys)) rfl hB6 info_b6 (by rw [u8s_length]; exact hly) (by rw [u8s_length]; rfl) (u8s_one _) (hS6.store hgb _) ?_ AllReadyH.nil
            refine wpAnyH_done (by kernel_rfl) ?_ _
            exact rest _ _ _ ((ha.setRow _).farRow hne _) (hB6.setRow _) (hS6.store hgb _).1
          exact AllReadyH.nil
        refine cVal 4 5 rfl rfl (by rfl) (v := .pointer (some ⟨w27.heap.size, 0, none⟩)) (w' := w27.alloc (.cells #[.int .u8 0, .int .u8 0, .int .u8 0, .int .u8 0, .int .u8 0, .int .u8 0] 94)) (by go_simp) (hHeld.alloc _) ?_ ?_
        · simp only [List.set_cons_zero, List.set_cons_succ]
          have hga := hHeld.2.2.2
          have ha : Blk (w27.alloc (.cells #[.int .u8 0, .int .u8 0, .int .u8 0, .int .u8 0, .int .u8 0, .int .u8 0] 94)) w27.heap.size (u8s zero6) 94 := Blk.mk _ (u8s zero6) _ rfl
          replace hHeld := hHeld.alloc (.cells #[.int .u8 0, .int .u8 0, .int .u8 0, .int .u8 0, .int .u8 0, .int .u8 0] 94)
          have hne := Nat.ne_of_gt hb.lt
          replace hb := hb.alloc (.cells #[.int .u8 0, .int .u8 0, .int .u8 0, .int .u8 0, .int .u8 0, .int .u8 0] 94)
          generalize w27.heap.size = B5 at *
          generalize w27.alloc (.cells #[.int .u8 0, .int .u8 0, .int .u8 0, .int .u8 0, .int .u8 0, .int .u8 0] 94) = w30 at *
          refine wpAnyH_ready (rs := [3]) (by kernel_rfl) (by simp) ?_
          refine cCall 3 10 84 rfl rfl (args := #[.agg (u8s ys).toArray]) (by rfl) (by go_simp) _ (ky _) (fun w31 hq => ⟨hHeld.call hq, ?_⟩) ?_
          · simp only [List.set_cons_zero, List.set_cons_succ]
            replace hHeld := hHeld.call hq
            replace ha := ha.kept hq
            replace hb := hb.kept hq
            clear hq
            have hS6 := hHeld.store hga (u8s (blurL xs)).toArray
            have hB6 := hb.farRow (Ne.symm hne) (u8s (blurL xs)).toArray
            refine wpAnyH_ready (rs := [6]) (by kernel_rfl) (by simp) ?_
            refine cStore 6 rfl rfl (by rfl) 94 _ _ rfl _ rfl (vs := u8s (blurL xs)) rfl ha info_b6 (by rw [u8s_length]; exact hlx) (by rw [u8s_length]; rfl) (u8s_one _) hS6 ?_ AllReadyH.nil
            refine wpAnyH_ready (rs := [7]) (by kernel_rfl) (by simp) ?_
            refine cStore 7 rfl rfl (by rfl) 94 _ _ rfl _ rfl (vs := u8s (blurL ys)) rfl hB6 info_b6 (by rw [u8s_length]; exact hly) (by rw [u8s_length]; rfl) (u8s_one _) (hS6.store hgb _) ?_ AllReadyH.nil
            refine wpAnyH_done (by kernel_rfl) ?_ _
            exact rest _ _ _ ((ha.setRow _).farRow hne _) (hB6.setRow _) (hS6.store hgb _).1
          exact AllReadyH.nil
        exact AllReadyH.nil
      refine cVal 4 5 rfl rfl (by rfl) (v := .pointer (some ⟨w26.heap.size, 0, none⟩)) (w' := w26.alloc (.cells #[.int .u8 0, .int .u8 0, .int .u8 0, .int .u8 0, .int .u8 0, .int .u8 0] 94)) (by go_simp) (hHeld.alloc _) ?_ ?_
      · simp only [List.set_cons_zero, List.set_cons_succ]
        have hga := hHeld.2.2.2
        have ha : Blk (w26.alloc (.cells #[.int .u8 0, .int .u8 0, .int .u8 0, .int .u8 0, .int .u8 0, .int .u8 0] 94)) w26.heap.size (u8s zero6) 94 := Blk.mk _ (u8s zero6) _ rfl
        replace hHeld := hHeld.alloc (.cells #[.int .u8 0, .int .u8 0, .int .u8 0, .int .u8 0, .int .u8 0, .int .u8 0] 94)
        have hne := Nat.ne_of_gt hb.lt
        replace hb := hb.alloc (.cells #[.int .u8 0, .int .u8 0, .int .u8 0, .int .u8 0, .int .u8 0, .int .u8 0] 94)
        generalize w26.heap.size = B5 at *
        generalize w26.alloc (.cells #[.int .u8 0, .int .u8 0, .int .u8 0, .int .u8 0, .int .u8 0, .int .u8 0] 94) = w32 at *
        refine wpAnyH_ready (rs := [1]) (by kernel_rfl) (by simp) ?_
        refine cCall 1 8 84 rfl rfl (args := #[.agg (u8s xs).toArray]) (by rfl) (by go_simp) _ (kx _) (fun w33 hq => ⟨hHeld.call hq, ?_⟩) ?_
        · simp only [List.set_cons_zero, List.set_cons_succ]
          replace hHeld := hHeld.call hq
          replace ha := ha.kept hq
          replace hb := hb.kept hq
          clear hq
          refine wpAnyH_ready (rs := [3]) (by kernel_rfl) (by simp) ?_
          refine cCall 3 10 84 rfl rfl (args := #[.agg (u8s ys).toArray]) (by rfl) (by go_simp) _ (ky _) (fun w34 hq => ⟨hHeld.call hq, ?_⟩) ?_
          · simp only [List.set_cons_zero, List.set_cons_succ]
            replace hHeld := hHeld.call hq
            replace ha := ha.kept hq
            replace hb := hb.kept hq
            clear hq
            have hS6 := hHeld.store hga (u8s (blurL xs)).toArray
            have hB6 := hb.farRow (Ne.symm hne) (u8s (blurL xs)).toArray
            refine wpAnyH_ready (rs := [6]) (by kernel_rfl) (by simp) ?_
            refine cStore 6 rfl rfl (by rfl) 94 _ _ rfl _ rfl (vs := u8s (blurL xs)) rfl ha info_b6 (by rw [u8s_length]; exact hlx) (by rw [u8s_length]; rfl) (u8s_one _) hS6 ?_ AllReadyH.nil
            refine wpAnyH_ready (rs := [7]) (by kernel_rfl) (by simp) ?_
            refine cStore 7 rfl rfl (by rfl) 94 _ _ rfl _ rfl (vs := u8s (blurL ys)) rfl hB6 info_b6 (by rw [u8s_length]; exact hly) (by rw [u8s_length]; rfl) (u8s_one _) (hS6.store hgb _) ?_ AllReadyH.nil
            refine wpAnyH_done (by kernel_rfl) ?_ _
            exact rest _ _ _ ((ha.setRow _).farRow hne _) (hB6.setRow _) (hS6.store hgb _).1
          exact AllReadyH.nil
        exact AllReadyH.nil
      exact AllReadyH.nil
    exact AllReadyH.nil
  subst hQ
  intro W B5 B6 h5 h6 hb
  have hu := fun q => unlike_any (blurL xs) (blurL ys) (by rw [hlx, hly]) (by rw [hlx]; omega) B5 0 6 B6 0 6 (World.drewN W q) h5.range h6.range
  rw [hlx] at hu
  have hz : 0 ≤ diffs (blurL xs) (blurL ys) 6 := (diffs_bd _ _ _).1
  clear A0 rx ry kx ky hi1 hi2
  go_wp2_with (fail)
  go_quiet ((go_at_call 85; exact Calls.quiet_of_same (hu _)))
  go_wp2
  go_ret
  exact ⟨rfl, bl_drewN hb _⟩
end Go.Proofs.Ytjppoejkfpeicaa

/- Contracts: spec.l01Far, BlurFlag and BlurDistance, both sides; rows of six bytes compared. -/
set_option linter.unusedVariables false
set_option linter.unusedSimpArgs false
namespace Go.Proofs.Ytjppoejkfpeicaa
open Go.RowKit

set_option maxHeartbeats 1000000 in
theorem l01Far_any (xs ys : List Int) (hx : xs.length = 24) (hy : ys.length = 24) (rx : Bytes xs) (ry : Bytes ys) (vx : vf xs = true) (vy : vf ys = true) (b o b' o' : Nat) (w : World) (hr : w.rangeAt b o (u8s xs)) (hr' : w.rangeAt b' o' (u8s ys)) :
    Calls Try.prog 80 #[.pointer (some ⟨b, o, none⟩), .pointer (some ⟨b', o', none⟩)] w fun e w' => e = .returned (.int .i64 (diffs (blurL xs) (blurL ys) 6)) ∧ Below w.heap.size w w' := by
  have hlx := blurL_length xs
  have hly := blurL_length ys
  have kx := fun W h => l01Blur_any xs hx rx vx b o W h
  have ky := fun W h => l01Blur_any ys hy ry vy b' o' W h
  generalize blurL xs = us at *
  generalize blurL ys = vs at *
  go_enter Try.func80, Try.ntmps80
  go_wp2_with (fail)
  refine (kx _ hr).mono ?_; rintro e w1 ⟨rfl, hb1⟩
  have C1 : Blk (w1.alloc (.cells #[.int .u8 0, .int .u8 0, .int .u8 0, .int .u8 0, .int .u8 0, .int .u8 0] 94)) w1.heap.size (u8s zero6) 94 := Blk.mk _ (u8s zero6) _ rfl
  have C2 := C1.setRow (u8s us)
  have b1 := bl_setRow (bl_new hb1 (.cells #[.int .u8 0, .int .u8 0, .int .u8 0, .int .u8 0, .int .u8 0, .int .u8 0] 94)) hb1.size (u8s us).toArray
  have hr2 := range_kept hr' b1
  go_wp2_with (refine store_blk rfl 94 _ _ rfl _ rfl (ds := u8s us) rfl C1 info_b6 (by rw [u8s_length]; exact hlx) (by rw [u8s_length]; exact rfl) (u8s_one _) ?_)
  refine (ky _ hr2).mono ?_; rintro e w2 ⟨rfl, hb2⟩
  have b2 := bl_call b1 hb2
  have C3 := C2.kept hb2
  have D1 : Blk (w2.alloc (.cells #[.int .u8 0, .int .u8 0, .int .u8 0, .int .u8 0, .int .u8 0, .int .u8 0] 94)) w2.heap.size (u8s zero6) 94 := Blk.mk _ (u8s zero6) _ rfl
  have D2 := D1.setRow (u8s vs)
  have hne := Nat.ne_of_lt C3.lt
  have C4 := (C3.alloc (.cells #[.int .u8 0, .int .u8 0, .int .u8 0, .int .u8 0, .int .u8 0, .int .u8 0] 94)).farRow hne (u8s vs).toArray
  have b3 := bl_setRow (bl_new b2 (.cells #[.int .u8 0, .int .u8 0, .int .u8 0, .int .u8 0, .int .u8 0, .int .u8 0] 94)) b2.size (u8s vs).toArray
  clear hr hr' hr2 C1 C2 C3 b1 b2 hb1 hb2
  go_wp2_with (refine store_blk rfl 94 _ _ rfl _ rfl (ds := u8s vs) rfl D1 info_b6 (by rw [u8s_length]; exact hly) (by rw [u8s_length]; exact rfl) (u8s_one _) ?_)
  generalize (w2.alloc (.cells #[.int .u8 0, .int .u8 0, .int .u8 0, .int .u8 0, .int .u8 0, .int .u8 0] 94)).setRow w2.heap.size (u8s vs).toArray = W at *
  clear D1
  generalize w1.heap.size = B1 at *
  generalize w2.heap.size = B2 at *
  go_loopw [7, 8] (fun n i wr => ∃ k q : Nat, k ≤ 6 ∧ i = .int .i64 k ∧ n = .int .i64 (diffs us vs k) ∧ wr = W.drewN q) (fun _ i _ => 6 - (intOf i).toNat)
  case atStart => exact ⟨0, 0, by omega, rfl, rfl, rfl⟩
  case round =>
    obtain ⟨k, q, hk, rfl, rfl, rfl⟩ := hrel
    have hbd := diffs_bd us vs k
    by_cases hlt : k < 6
    · have hlt' : (k : Int) < 6 := by omega
      have c0 : W.cell? ⟨B1, k, none⟩ = some (.int .u8 (nth us k)) := by rw [C4.at, u8s_get us k (by omega)]
      have c1 : W.cell? ⟨B2, k, none⟩ = some (.int .u8 (nth vs k)) := by rw [D2.at, u8s_get vs k (by omega)]
      go_wp2
      go_quiet (fail)
      go_wp2
      all_goals
        go_roundw
        case rel => exact ⟨k + 1, _, by omega, by go_num, by first | rw [diffs_t (by assumption)] | rw [diffs_f (by assumption)], rfl⟩
        case measure => simp [intOf]; omega
    · obtain rfl : k = 6 := by omega
      go_wp2
      go_ret
      exact ⟨rfl, bl_drewN b3 _⟩

/-- What BlurDistance answers. -/
def farN (xs ys : List Int) : Int := if vf xs && vf ys then diffs (blurL xs) (blurL ys) 6 else 0
set_option maxHeartbeats 800000 in
theorem BlurDistance_any (xs ys : List Int) (hx : xs.length = 24) (hy : ys.length = 24) (rx : Bytes xs) (ry : Bytes ys) (w : World) :
    Calls Try.prog 41 #[fl xs, fl ys] w fun e w' => e = .returned (.tuple #[.int .i64 (farN xs ys), .int .i64 (codeV (vf xs && vf ys))]) ∧ Below w.heap.size w w' := by
  unfold fl
  have B0 : Blk ((w.alloc (.cells (u8s xs).toArray 38)).alloc (.cells (u8s ys).toArray 38)) w.heap.size (u8s xs) 38 := (Blk.new _ _ _).alloc _
  have B1 : Blk ((w.alloc (.cells (u8s xs).toArray 38)).alloc (.cells (u8s ys).toArray 38)) (w.heap.size + 1) (u8s ys) 38 := Blk.mk _ _ _ (by simp)
  have b0 := bl_new (bl_new (Below.refl _ w) (.cells (u8s xs).toArray 38)) (.cells (u8s ys).toArray 38)
  cases h1 : vf xs
  · have hN := As.mk (show farN xs ys = if vf xs && vf ys then diffs (blurL xs) (blurL ys) 6 else 0 from rfl)
    go_enter Try.func41, Try.ntmps41
    go_wp2_with (refine load_blk rfl 38 _ rfl _ rfl B0 Try.underlying38 rfl info_fl (by rw [u8s_length]; exact hx) ?_)
    refine (ValidFlag_any xs hx _).mono ?_; rintro e w1 ⟨rfl, hb1⟩
    go_wp2_with (fail)
    go_ret2
    exact ⟨ret_2 (by rw [hN.out, h1]; rfl) rfl, bl_call b0 hb1⟩
  · cases h2 : vf ys
    · have hN := As.mk (show farN xs ys = if vf xs && vf ys then diffs (blurL xs) (blurL ys) 6 else 0 from rfl)
      go_enter Try.func41, Try.ntmps41
      go_wp2_with (refine load_blk rfl 38 _ rfl _ rfl B0 Try.underlying38 rfl info_fl (by rw [u8s_length]; exact hx) ?_)
      refine (ValidFlag_any xs hx _).mono ?_; rintro e w1 ⟨rfl, hb1⟩
      have B1' := B1.kept hb1
      go_wp2_with (refine load_blk rfl 38 _ rfl _ rfl B1' Try.underlying38 rfl info_fl (by rw [u8s_length]; exact hy) ?_)
      refine (ValidFlag_any ys hy _).mono ?_; rintro e w2 ⟨rfl, hb2⟩
      go_wp2_with (fail)
      go_ret2
      exact ⟨ret_2 (by rw [hN.out, h1, h2]; rfl) rfl, bl_call (bl_call b0 hb1) hb2⟩
    · have hN := As.mk (show farN xs ys = if vf xs && vf ys then diffs (blurL xs) (blurL ys) 6 else 0 from rfl)
      go_enter Try.func41, Try.ntmps41
      go_wp2_with (refine load_blk rfl 38 _ rfl _ rfl B0 Try.underlying38 rfl info_fl (by rw [u8s_length]; exact hx) ?_)
      refine (ValidFlag_any xs hx _).mono ?_; rintro e w1 ⟨rfl, hb1⟩
      have B1' := B1.kept hb1
      go_wp2_with (refine load_blk rfl 38 _ rfl _ rfl B1' Try.underlying38 rfl info_fl (by rw [u8s_length]; exact hy) ?_)
      refine (ValidFlag_any ys hy _).mono ?_; rintro e w2 ⟨rfl, hb2⟩
      have R0 := (B0.kept hb1).kept hb2
      have R1 := B1'.kept hb2
      go_wp2_with (first | (refine load_blk rfl 38 _ rfl _ rfl R0 Try.underlying38 rfl info_fl (by rw [u8s_length]; exact hx) ?_) | (refine load_blk rfl 38 _ rfl _ rfl R1 Try.underlying38 rfl info_fl (by rw [u8s_length]; exact hy) ?_))
      refine (afar_any xs ys hx hy rx ry h1 h2 _).mono ?_; rintro e w3 ⟨rfl, hb3⟩
      go_wp2_with (fail)
      go_ret2
      exact ⟨ret_2 (by rw [hN.out, h1, h2]; rfl) rfl, bl_call (bl_call (bl_call b0 hb1) hb2) hb3⟩

end Go.Proofs.Ytjppoejkfpeicaa

/- Contracts: MirrorFlag: both sides. -/
set_option linter.unusedVariables false
namespace Go.Proofs.Ytjppoejkfpeicaa
open Go.RowKit

end Go.Proofs.Ytjppoejkfpeicaa

/- Contracts: LooksLike, both sides. -/
set_option linter.unusedVariables false
set_option linter.unusedSimpArgs false
namespace Go.Proofs.Ytjppoejkfpeicaa
open Go.RowKit

section
variable {P : Program} {ops : Array Oper} {Q : Exit → Act → World → Prop} {S : World → Prop} {listed : Array Bool} {ts : List Value} {ds : List Deferred} {w : World} {fuel : Nat}
/-- The one operation that may come up is not wanted. -/
theorem hSkip (i d : Nat) {oi : Oper} (hi : ops[i]? = some oi) (hd : oi.dst = some d) (hr : Region.ready .any ops listed = [i])
    (hw : Region.wanted oi (yielded ops ts.toArray) = false) (hS : S w)
    (h : wpAnyH P .any ops Q S fuel (listed.setIfInBounds i true) ⟨(ts.set d undef).toArray, ds⟩ w) : wpAnyH P .any ops Q S (fuel + 1) listed ⟨ts.toArray, ds⟩ w := by
  refine wpAnyH_ready (rs := [i]) hr (by simp) (AllReadyH.cons hi (fun K hK => ?_) AllReadyH.nil)
  rw [if_neg (by rw [hw]; simp)]
  refine hK.out _ _ hS (fun _ => ?_)
  rw [hd]
  simpa [Act.put] using h
end

theorem vf_mirror {xs : List Int} (hx : xs.length = 24) (h : vf xs = true) : vf (mirrorL xs) = true := by
  unfold vf; rw [List.all_eq_true]
  intro x hx'
  obtain ⟨i, hi, rfl⟩ := List.mem_map.1 hx'
  rw [List.mem_range] at hi
  rw [decide_eq_true_eq]
  show mirF xs i ≤ 5
  exact vf_nth h _ (by omega)
theorem bytes_mirror {xs : List Int} (h : Bytes xs) : Bytes (mirrorL xs) := by
  intro x hx'
  obtain ⟨i, hi, rfl⟩ := List.mem_map.1 hx'
  exact h.nth _

/-- In how many blocks two flags differ from afar. -/
def farD (xs ys : List Int) : Int := diffs (blurL xs) (blurL ys) 6
def looksB (xs ys : List Int) (bt : Bool) : Bool := (vf xs && vf ys) && (farD xs ys == 0 || bt && farD (mirrorL xs) ys == 0)
theorem ret_b2 {a b : Bool} {n m : Int} (h : a = b) (h' : n = m) : Ending.returned (.tuple #[.bool a, .int .i64 n]) = .returned (.tuple #[.bool b, .int .i64 m]) := by rw [h, h']

end Go.Proofs.Ytjppoejkfpeicaa

/- Contracts: impl.LooksLike. -/
set_option linter.unusedVariables false
set_option linter.unusedSimpArgs false
namespace Go.Proofs.Ytjppoejkfpeicaa
open Go.RowKit

end Go.Proofs.Ytjppoejkfpeicaa

/- Slices of flags: blocks whose cells lie in runs of 24. -/
set_option linter.unusedVariables false
namespace Go.Proofs.Ytjppoejkfpeicaa
open Go.RowKit

theorem flat_length {α : Type} (f : α → List Value) (m : Nat) : ∀ (l : List α), (∀ x ∈ l, (f x).length = m) → (l.flatMap f).length = l.length * m
  | [], _ => by simp
  | x :: l, h => by
    rw [List.flatMap_cons, List.length_append, h x (by simp), flat_length f m l (fun y hy => h y (by simp [hy])), List.length_cons, Nat.add_mul, Nat.one_mul, Nat.add_comm]
theorem flat_get {α : Type} (f : α → List Value) (m : Nat) : ∀ (l : List α), (∀ x ∈ l, (f x).length = m) → ∀ (i : Nat) (x : α), l[i]? = some x → ∀ j, j < m → (l.flatMap f)[i * m + j]? = (f x)[j]?
  | [], _, i, x, h, _, _ => by simp at h
  | y :: l, hl, 0, x, h, j, hj => by
    have hy : y = x := by simpa using h
    subst hy
    rw [List.flatMap_cons, Nat.zero_mul, Nat.zero_add, List.getElem?_append_left (by rw [hl y (by simp)]; exact hj)]
  | y :: l, hl, i + 1, x, h, j, hj => by
    have h' : l[i]? = some x := by simpa using h
    rw [List.flatMap_cons, List.getElem?_append_right (by rw [hl y (by simp), Nat.add_mul, Nat.one_mul]; omega), hl y (by simp)]
    have := flat_get f m l (fun z hz => hl z (by simp [hz])) i x h' j hj
    rw [← this]
    congr 1
    rw [Nat.add_mul, Nat.one_mul]; omega
theorem flat_set {α : Type} (f : α → List Value) (m : Nat) (y : α) (hy : (f y).length = m) : ∀ (l : List α), (∀ x ∈ l, (f x).length = m) → ∀ (i : Nat), i < l.length →
    (l.flatMap f).take (i * m) ++ f y ++ (l.flatMap f).drop (i * m + m) = (l.set i y).flatMap f
  | [], _, i, h => by simp at h
  | z :: l, hl, 0, _ => by
    rw [List.flatMap_cons, Nat.zero_mul, List.take_zero, List.nil_append, Nat.zero_add, List.drop_left' (hl z (by simp)), List.set_cons_zero, List.flatMap_cons]
  | z :: l, hl, i + 1, h => by
    have hz := hl z (by simp)
    have ih := flat_set f m y hy l (fun x hx => hl x (by simp [hx])) i (by simpa using h)
    rw [List.set_cons_succ, List.flatMap_cons, List.flatMap_cons, ← ih]
    have e1 : (i + 1) * m = m + i * m := by rw [Nat.add_mul, Nat.one_mul]; omega
    rw [e1, List.take_append, List.drop_append, hz, List.take_of_length_le (by omega), List.drop_of_length_le (by omega)]
    simp only [List.nil_append, List.append_assoc]
    congr 3
    · congr 1; omega
    · congr 1; omega

/-- Stores of many cells into a block known whole. -/
theorem Blk.setCells {w : World} {b : Nat} {t : TypeId} : ∀ (vs : List Value) (o : Nat) (w : World) (cs : List Value), Blk w b cs t → o + vs.length ≤ cs.length → Blk (w.setCells b o vs) b (cs.take o ++ vs ++ cs.drop (o + vs.length)) t
  | [], o, w, cs, h, hl => by simpa [World.setCells] using h
  | v :: r, o, w, cs, h, hl => by
    have h1 := h.set o v
    have h2 := Blk.setCells (w := w) r (o + 1) _ _ h1 (by simp at hl ⊢; omega)
    rw [World.setCells]
    have e : (cs.set o v).take (o + 1) ++ r ++ (cs.set o v).drop (o + 1 + r.length) = cs.take o ++ (v :: r) ++ cs.drop (o + (v :: r).length) := by
      have hlo : o < cs.length := by simp at hl; omega
      apply List.ext_getElem?
      intro i
      simp only [List.getElem?_append, List.length_append, List.length_take, List.length_set, List.getElem?_take, List.getElem?_set, List.getElem?_drop, List.length_cons]
      rcases Nat.lt_trichotomy i o with hi | hi | hi
      · simp [show i < o + 1 by omega, show min (o + 1) cs.length = o + 1 by omega, show min o cs.length = o by omega, show o ≠ i by omega, hi, show i < o + 1 + r.length by omega, show i < o + (r.length + 1) by omega]
      · subst hi
        simp [show min (i + 1) cs.length = i + 1 by omega, show min i cs.length = i by omega, show i < i + 1 + r.length by omega, show i < i + (r.length + 1) by omega, hlo]
      · have e1 : min (o + 1) cs.length = o + 1 := by omega
        have e2 : min o cs.length = o := by omega
        by_cases h3 : i < o + 1 + r.length
        · simp [e1, e2, h3, show ¬ i < o + 1 by omega, show ¬ i < o by omega, show i < o + (r.length + 1) by omega]
          have : i - o = (i - (o + 1)) + 1 := by omega
          rw [this, List.getElem?_cons_succ]
        · simp [e1, e2, h3, show ¬ i < o + (r.length + 1) by omega]
          rw [if_neg (by omega)]
          congr 1; omega
    rw [e] at h2
    exact h2

/-- '.slice A fs.length c' is a slice that holds the flags fs. -/
def SlF (w : World) (A : Option Addr) (fs : List (List Int)) : Prop :=
  fs.length ≤ 9223372036854775807 ∧ (∀ f ∈ fs, f.length = 24) ∧ (∀ f ∈ fs, ∀ x ∈ f, 0 ≤ x ∧ x ≤ 255) ∧ (0 < fs.length → ∃ b o, A = some ⟨b, o, none⟩ ∧ ∀ i f, fs[i]? = some f → w.rangeAt b (o + i * 24) (u8s f))
theorem SlF.kept {w w' : World} {A : Option Addr} {fs : List (List Int)} (h : SlF w A fs) (hb : Below w.heap.size w w') : SlF w' A fs :=
  ⟨h.1, h.2.1, h.2.2.1, fun hp => by
    obtain ⟨b, o, e, hr⟩ := h.2.2.2 hp
    refine ⟨b, o, e, fun i f hf j v hv => ?_⟩
    have := hr i f hf j v hv
    rw [hb.cell (World.block_lt_of_cell? w _ this)]; exact this⟩
/-- A block of flags. -/
theorem Blk.slF {w : World} {b : Nat} {fs : List (List Int)} {t : TypeId} (h : Blk w b (fs.flatMap u8s) t) (hl : fs.length ≤ 9223372036854775807) (h24 : ∀ f ∈ fs, f.length = 24) (hb : ∀ f ∈ fs, ∀ x ∈ f, 0 ≤ x ∧ x ≤ 255) : SlF w (Option.some ⟨b, 0, none⟩) fs := by
  refine And.intro hl ⟨h24, hb, fun _ => ⟨b, 0, rfl, fun i f hf j v hv => ?_⟩⟩
  have hj : j < 24 := by
    have := (List.getElem?_eq_some_iff.1 hv).1
    rw [u8s_length, h24 f (List.mem_of_getElem? hf)] at this; exact this
  rw [Nat.zero_add, h.at, flat_get u8s 24 fs (fun x hx => by rw [u8s_length]; exact h24 x hx) i f hf j hj]
  exact hv
end Go.Proofs.Ytjppoejkfpeicaa
