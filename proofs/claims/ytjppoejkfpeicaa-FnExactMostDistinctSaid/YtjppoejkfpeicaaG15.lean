/- Contracts: impl.afar, spec.l01Far: in how many blocks two flags differ from afar. -/
import Derived.Test.YtjppoejkfpeicaaG14
import Derived.Test.YtjppoejkfpeicaaLw
import Derived.Test.YtjppoejkfpeicaaF4
set_option linter.unusedVariables false
namespace Go.Proofs.Ytjppoejkfpeicaa
open Go.RowKit

section
variable {P : Program} {ops : Array Oper} {Q : Exit → Act → World → Prop} {S : World → Prop} {listed : Array Bool} {ts : List Value} {ds : List Deferred} {w : World} {fuel : Nat}
/-- One of the operations that may come up: a call of function f. -/
theorem cCall (i d f : Nat) {oi : Oper} (hi : ops[i]? = some oi) (hd : oi.dst = some d) {args : Array Value}
    (hw : Region.wanted oi (yielded ops ts.toArray) = true) (he : (execOp (Act.mk ts.toArray ds).eval oi).run P w = .ok (.enter f args) w) (v : Value) {R : World → Prop}
    (hc : Calls P f args w fun e w' => e = .returned v ∧ R w') {rs : List Nat}
    (h : ∀ w', R w' → S w' ∧ wpAnyH P .any ops Q S fuel (listed.setIfInBounds i true) ⟨(ts.set d v).toArray, ds⟩ w')
    (hs : AllReadyH P .any ops Q S fuel listed ⟨ts.toArray, ds⟩ w rs) : AllReadyH P .any ops Q S fuel listed ⟨ts.toArray, ds⟩ w (i :: rs) := by
  refine AllReadyH.cons hi (fun K hK => ?_) hs
  rw [if_pos hw]
  unfold Oper.wp
  rw [he, Oper.upon_enter]
  refine hc.mono ?_
  rintro e w' ⟨rfl, hR⟩
  obtain ⟨h1, h2⟩ := h w' hR
  refine hK.out _ _ h1 (fun _ => ?_)
  rw [hd]
  simpa [Act.put] using h2
/-- One of the operations that may come up: it gives a value and another world. -/
theorem cVal (i d : Nat) {oi : Oper} (hi : ops[i]? = some oi) (hd : oi.dst = some d)
    (hw : Region.wanted oi (yielded ops ts.toArray) = true) {v : Value} {w' : World} (he : (execOp (Act.mk ts.toArray ds).eval oi).run P w = .ok (.value v) w') {rs : List Nat}
    (h1 : S w') (h2 : wpAnyH P .any ops Q S fuel (listed.setIfInBounds i true) ⟨(ts.set d v).toArray, ds⟩ w')
    (hs : AllReadyH P .any ops Q S fuel listed ⟨ts.toArray, ds⟩ w rs) : AllReadyH P .any ops Q S fuel listed ⟨ts.toArray, ds⟩ w (i :: rs) := by
  refine AllReadyH.cons hi (fun K hK => ?_) hs
  rw [if_pos hw]
  unfold Oper.wp
  rw [he, Oper.upon_value]
  refine hK.out _ _ h1 (fun _ => ?_)
  rw [hd]
  simpa [Act.put] using h2
/-- A whole array is stored. -/
theorem cStore (i : Nat) {oi : Oper} (hi : ops[i]? = some oi) (hd : oi.dst = none)
    (hw : Region.wanted oi (yielded ops ts.toArray) = true) (ty : TypeId) (x y : Operand) (ho : oi.op = .store ty x y) (b : Nat) (hx : (Act.mk ts.toArray ds).eval x = .pointer (some ⟨b, 0, none⟩)) {vs : List Value} (hy : (Act.mk ts.toArray ds).eval y = .agg vs.toArray)
    {cs : List Value} {t : TypeId} (hB : Blk w b cs t) {n : Nat} (hinf : (P.info? ty).map (·.size) = some n) (hn : vs.length = n) (hc : cs.length = n) (h1 : ∀ v ∈ vs, v.oneCell' = true) {rs : List Nat}
    (hS : S (w.setRow b vs.toArray)) (h2 : wpAnyH P .any ops Q S fuel (listed.setIfInBounds i true) ⟨ts.toArray, ds⟩ (w.setRow b vs.toArray))
    (hs : AllReadyH P .any ops Q S fuel listed ⟨ts.toArray, ds⟩ w rs) : AllReadyH P .any ops Q S fuel listed ⟨ts.toArray, ds⟩ w (i :: rs) := by
  refine AllReadyH.cons hi (fun K hK => ?_) hs
  rw [if_pos hw]
  refine wp_store_row ty x y ho b vs.toArray hx hy t cs.toArray hB (by rw [hinf]; simp [hn]) (by simp [hn, hc]) (all_oneCell_toArray h1) ?_
  refine hK.out _ _ hS (fun _ => ?_)
  rw [hd]
  exact h2
theorem range_setRow {W : World} {b g : Nat} {cs : List Value} (h : W.rangeAt b 0 cs) (hne : b ≠ g) (ds : Array Value) : (W.setRow g ds).rangeAt b 0 cs := fun j v hv => by
  rw [← h j v hv]
  unfold World.cell?
  rw [setRow_other W g b ds hne]
end
/-- What is kept through the region. -/
def S2 (w : World) (xs ys : List Int) (W : World) : Prop := Below w.heap.size w W ∧ W.rangeAt w.heap.size 0 (u8s xs) ∧ W.rangeAt (w.heap.size + 1) 0 (u8s ys) ∧ w.heap.size + 2 ≤ W.heap.size
section
variable {w W W' : World} {xs ys : List Int}
theorem S2.call (h : S2 w xs ys W) (hb : Below W.heap.size W W') : S2 w xs ys W' := ⟨bl_call h.1 hb, range_kept h.2.1 hb, range_kept h.2.2.1 hb, Nat.le_trans h.2.2.2 hb.size⟩
theorem S2.alloc (h : S2 w xs ys W) (o : Obj) : S2 w xs ys (W.alloc o) := ⟨bl_new h.1 _, World.rangeAt_alloc h.2.1 _, World.rangeAt_alloc h.2.2.1 _, by have := h.2.2.2; simp; omega⟩
theorem S2.store (h : S2 w xs ys W) {g : Nat} (hg : w.heap.size + 2 ≤ g) (ds : Array Value) : S2 w xs ys (W.setRow g ds) := ⟨bl_setRow h.1 (by omega) _, range_setRow h.2.1 (by omega) _, range_setRow h.2.2.1 (by omega) _, by have := h.2.2.2; simpa using this⟩
end

set_option maxRecDepth 100000 in
set_option maxHeartbeats 2000000 in
theorem afar_any (xs ys : List Int) (hx : xs.length = 24) (hy : ys.length = 24) (rx : Bytes xs) (ry : Bytes ys) (vx : vf xs = true) (vy : vf ys = true) (w : World) :
    Calls Try.prog 48 #[fl xs, fl ys] w fun e w' => e = .returned (.int .i64 (diffs (blurL xs) (blurL ys) 6)) ∧ Below w.heap.size w w' := by
  have hi1 : (Try.prog.info? 38).map (·.size) = some (u8s xs).length := by rw [u8s_length, hx]; exact info_fl
  have hi2 : (Try.prog.info? 38).map (·.size) = some (u8s ys).length := by rw [u8s_length, hy]; exact info_fl
  have kx := fun W => blur_any xs hx rx vx W
  have ky := fun W => blur_any ys hy ry vy W
  have hlx := blurL_length xs
  have hly := blurL_length ys
  unfold fl at *
  have A0 : S2 w xs ys ((w.alloc (.cells (u8s xs).toArray 38)).alloc (.cells (u8s ys).toArray 38)) := ⟨bl_new (bl_new (Below.refl _ _) _) _, ((Blk.new _ _ _).alloc _).range, (Blk.mk _ _ _ (by simp)).range, by simp⟩
  go_enter Try.func48, Try.ntmps48
  go_wp2_with (fail)
  generalize (w.alloc (.cells (u8s xs).toArray 38)).alloc (.cells (u8s ys).toArray 38) = W0 at *
  generalize hQ : Exit.then _ _ = QQ
  suffices rest : ∀ (W : World) (B5 B6 : Nat), Blk W B5 (u8s (blurL xs)) 94 → Blk W B6 (u8s (blurL ys)) 94 → Below w.heap.size w W →
      QQ .normal ⟨#[.agg (u8s xs).toArray, .agg (u8s ys).toArray, .pointer (some ⟨w.heap.size, 0, none⟩), .pointer (some ⟨w.heap.size + 1, 0, none⟩), .int .i64 0, .pointer (some ⟨B5, 0, none⟩), .pointer (some ⟨B6, 0, none⟩), .agg (u8s xs).toArray, .agg (u8s (blurL xs)).toArray, .agg (u8s ys).toArray, .agg (u8s (blurL ys)).toArray, undef, undef, undef], []⟩ W by
    have hQp : ∀ (c : List PanicEntry) (a : Act) (d : Nat) (v : Value) (w : World), QQ (.panic c) (a.put (some d) v) w → QQ (.panic c) a w := by subst hQ; intro c a d v w h; exact h
    clear hQ
    refine wp_region_held_drew (S := S2 w xs ys) (by kernel_rfl) ⟨A0.1.drew, A0.2.1, A0.2.2.1, A0.2.2.2⟩ (fun hHeld => ?_)
    generalize W0.drew = w0 at *
    (refine hTake 0 7 rfl rfl (by kernel_rfl) (by kernel_rfl) (by kernel_rfl) (fun _ _ _ h => hQp _ _ _ _ _ h) (yieldsIf_load_mid (by rfl) _ _ rfl _ _ rfl (u8s xs) _ (fun W h => h.2.1) Try.underlying38 rfl hi1) hHeld ?_; simp only [List.set_cons_zero, List.set_cons_succ])
    (refine hTake 2 9 rfl rfl (by kernel_rfl) (by kernel_rfl) (by kernel_rfl) (fun _ _ _ h => hQp _ _ _ _ _ h) (yieldsIf_load_mid (by rfl) _ _ rfl _ _ rfl (u8s ys) _ (fun W h => h.2.2.1) Try.underlying38 rfl hi2) hHeld ?_; simp only [List.set_cons_zero, List.set_cons_succ])
    refine wpAnyH_ready (rs := [1, 4, 5]) (by kernel_rfl) (by simp) ?_
    refine cCall 1 8 84 rfl rfl (args := #[.agg (u8s xs).toArray]) (by rfl) (by go_simp) _ (kx _) (fun w1 hq => ⟨hHeld.call hq, ?_⟩) ?_
    · simp only [List.set_cons_zero, List.set_cons_succ]
      replace hHeld := hHeld.call hq
      clear hq
      refine wpAnyH_ready (rs := [3, 4, 5]) (by kernel_rfl) (by simp) ?_
      refine cCall 3 10 84 rfl rfl (args := #[.agg (u8s ys).toArray]) (by rfl) (by go_simp) _ (ky _) (fun w2 hq => ⟨hHeld.call hq, ?_⟩) ?_
      · simp only [List.set_cons_zero, List.set_cons_succ]
        replace hHeld := hHeld.call hq
        clear hq
        refine wpAnyH_ready (rs := [4, 5]) (by kernel_rfl) (by simp) ?_
        refine cVal 4 5 rfl rfl (by rfl) (v := .pointer (some ⟨w2.heap.size, 0, none⟩)) (w' := w2.alloc (.cells #[.int .u8 0, .int .u8 0, .int .u8 0, .int .u8 0, .int .u8 0, .int .u8 0] 94)) (by go_simp) (hHeld.alloc _) ?_ ?_
        · simp only [List.set_cons_zero, List.set_cons_succ]
          have hga := hHeld.2.2.2
          have ha : Blk (w2.alloc (.cells #[.int .u8 0, .int .u8 0, .int .u8 0, .int .u8 0, .int .u8 0, .int .u8 0] 94)) w2.heap.size (u8s zero6) 94 := Blk.mk _ (u8s zero6) _ rfl
          replace hHeld := hHeld.alloc (.cells #[.int .u8 0, .int .u8 0, .int .u8 0, .int .u8 0, .int .u8 0, .int .u8 0] 94)
          generalize w2.heap.size = B5 at *
          generalize w2.alloc (.cells #[.int .u8 0, .int .u8 0, .int .u8 0, .int .u8 0, .int .u8 0, .int .u8 0] 94) = w3 at *
          refine wpAnyH_ready (rs := [5]) (by kernel_rfl) (by simp) ?_
          refine cVal 5 6 rfl rfl (by rfl) (v := .pointer (some ⟨w3.heap.size, 0, none⟩)) (w' := w3.alloc (.cells #[.int .u8 0, .int .u8 0, .int .u8 0, .int .u8 0, .int .u8 0, .int .u8 0] 94)) (by go_simp) (hHeld.alloc _) ?_ ?_
          · simp only [List.set_cons_zero, List.set_cons_succ]
            have hgb := hHeld.2.2.2
            have hb : Blk (w3.alloc (.cells #[.int .u8 0, .int .u8 0, .int .u8 0, .int .u8 0, .int .u8 0, .int .u8 0] 94)) w3.heap.size (u8s zero6) 94 := Blk.mk _ (u8s zero6) _ rfl
            replace hHeld := hHeld.alloc (.cells #[.int .u8 0, .int .u8 0, .int .u8 0, .int .u8 0, .int .u8 0, .int .u8 0] 94)
            have hne := Nat.ne_of_lt ha.lt
            replace ha := ha.alloc (.cells #[.int .u8 0, .int .u8 0, .int .u8 0, .int .u8 0, .int .u8 0, .int .u8 0] 94)
            generalize w3.heap.size = B6 at *
            generalize w3.alloc (.cells #[.int .u8 0, .int .u8 0, .int .u8 0, .int .u8 0, .int .u8 0, .int .u8 0] 94) = w4 at *
            have hS6 := hHeld.store hga (u8s (blurL xs)).toArray
            have hB6 := hb.farRow (Ne.symm hne) (u8s (blurL xs)).toArray
            refine wpAnyH_ready (rs := [6]) (by kernel_rfl) (by simp) ?_
            refine cStore 6 rfl rfl (by rfl) 94 _ _ rfl _ rfl (vs := u8s (blurL xs)) rfl ha info_b6 (by rw [u8s_length]; exact hlx) (by rw [u8s_length]; rfl) (u8s_one _) hS6 ?_ AllReadyH.nil
            refine wpAnyH_ready (rs := [7]) (by kernel_rfl) (by simp) ?_
            refine cStore 7 rfl rfl (by rfl) 94 _ _ rfl _ rfl (vs := u8s (blurL ys)) rfl hB6 info_b6 (by rw [u8s_length]; exact hly) (by rw [u8s_length]; rfl) (u8s_one _) (hS6.store hgb _) ?_ AllReadyH.nil
            refine wpAnyH_done (by kernel_rfl) ?_ _
            exact rest _ _ _ ((ha.setRow _).farRow hne _) (hB6.setRow _) (hS6.store hgb _).1
          exact AllReadyH.nil
        refine cVal 5 6 rfl rfl (by rfl) (v := .pointer (some ⟨w2.heap.size, 0, none⟩)) (w' := w2.alloc (.cells #[.int .u8 0, .int .u8 0, .int .u8 0, .int .u8 0, .int .u8 0, .int .u8 0] 94)) (by go_simp) (hHeld.alloc _) ?_ ?_
        · simp only [List.set_cons_zero, List.set_cons_succ]
          have hgb := hHeld.2.2.2
          have hb : Blk (w2.alloc (.cells #[.int .u8 0, .int .u8 0, .int .u8 0, .int .u8 0, .int .u8 0, .int .u8 0] 94)) w2.heap.size (u8s zero6) 94 := Blk.mk _ (u8s zero6) _ rfl
          replace hHeld := hHeld.alloc (.cells #[.int .u8 0, .int .u8 0, .int .u8 0, .int .u8 0, .int .u8 0, .int .u8 0] 94)
          generalize w2.heap.size = B6 at *
          generalize w2.alloc (.cells #[.int .u8 0, .int .u8 0, .int .u8 0, .int .u8 0, .int .u8 0, .int .u8 0] 94) = w5 at *
          refine wpAnyH_ready (rs := [4]) (by kernel_rfl) (by simp) ?_
          refine cVal 4 5 rfl rfl (by rfl) (v := .pointer (some ⟨w5.heap.size, 0, none⟩)) (w' := w5.alloc (.cells #[.int .u8 0, .int .u8 0, .int .u8 0, .int .u8 0, .int .u8 0, .int .u8 0] 94)) (by go_simp) (hHeld.alloc _) ?_ ?_
          · simp only [List.set_cons_zero, List.set_cons_succ]
            have hga := hHeld.2.2.2
            have ha : Blk (w5.alloc (.cells #[.int .u8 0, .int .u8 0, .int .u8 0, .int .u8 0, .int .u8 0, .int .u8 0] 94)) w5.heap.size (u8s zero6) 94 := Blk.mk _ (u8s zero6) _ rfl
            replace hHeld := hHeld.alloc (.cells #[.int .u8 0, .int .u8 0, .int .u8 0, .int .u8 0, .int .u8 0, .int .u8 0] 94)
            have hne := Nat.ne_of_gt hb.lt
            replace hb := hb.alloc (.cells #[.int .u8 0, .int .u8 0, .int .u8 0, .int .u8 0, .int .u8 0, .int .u8 0] 94)
            generalize w5.heap.size = B5 at *
            generalize w5.alloc (.cells #[.int .u8 0, .int .u8 0, .int .u8 0, .int .u8 0, .int .u8 0, .int .u8 0] 94) = w6 at *
            have hS6 := hHeld.store hga (u8s (blurL xs)).toArray
            have hB6 := hb.farRow (Ne.symm hne) (u8s (blurL xs)).toArray
            refine wpAnyH_ready (rs := [6]) (by kernel_rfl) (by simp) ?_
            refine cStore 6 rfl rfl (by rfl) 94 _ _ rfl _ rfl (vs := u8s (blurL xs)) rfl ha info_b6 (by rw [u8s_length]; exact hlx) (by rw [u8s_length]; rfl) (u8s_one _) hS6 ?_ AllReadyH.nil
            refine wpAnyH_ready (rs := [7]) (by kernel_rfl) (by simp) ?_
            refine cStore 7 rfl rfl (by rfl) 94 _ _ rfl _ rfl (vs := u8s (blurL ys)) rfl hB6 info_b6 (by rw [u8s_length]; exact hly) (by rw [u8s_length]; rfl) (u8s_one _) (hS6.store hgb _) ?_ AllReadyH.nil
            refine wpAnyH_done (by kernel_rfl) ?_ _
            exact rest _ _ _ ((ha.setRow _).farRow hne _) (hB6.setRow _) (hS6.store hgb _).1
          exact AllReadyH.nil
        exact AllReadyH.nil
      refine cVal 4 5 rfl rfl (by rfl) (v := .pointer (some ⟨w1.heap.size, 0, none⟩)) (w' := w1.alloc (.cells #[.int .u8 0, .int .u8 0, .int .u8 0, .int .u8 0, .int .u8 0, .int .u8 0] 94)) (by go_simp) (hHeld.alloc _) ?_ ?_
      · simp only [List.set_cons_zero, List.set_cons_succ]
        have hga := hHeld.2.2.2
        have ha : Blk (w1.alloc (.cells #[.int .u8 0, .int .u8 0, .int .u8 0, .int .u8 0, .int .u8 0, .int .u8 0] 94)) w1.heap.size (u8s zero6) 94 := Blk.mk _ (u8s zero6) _ rfl
        replace hHeld := hHeld.alloc (.cells #[.int .u8 0, .int .u8 0, .int .u8 0, .int .u8 0, .int .u8 0, .int .u8 0] 94)
        generalize w1.heap.size = B5 at *
        generalize w1.alloc (.cells #[.int .u8 0, .int .u8 0, .int .u8 0, .int .u8 0, .int .u8 0, .int .u8 0] 94) = w7 at *
        refine wpAnyH_ready (rs := [3, 5]) (by kernel_rfl) (by simp) ?_
        refine cCall 3 10 84 rfl rfl (args := #[.agg (u8s ys).toArray]) (by rfl) (by go_simp) _ (ky _) (fun w8 hq => ⟨hHeld.call hq, ?_⟩) ?_
        · simp only [List.set_cons_zero, List.set_cons_succ]
          replace hHeld := hHeld.call hq
          replace ha := ha.kept hq
          clear hq
          refine wpAnyH_ready (rs := [5]) (by kernel_rfl) (by simp) ?_
          refine cVal 5 6 rfl rfl (by rfl) (v := .pointer (some ⟨w8.heap.size, 0, none⟩)) (w' := w8.alloc (.cells #[.int .u8 0, .int .u8 0, .int .u8 0, .int .u8 0, .int .u8 0, .int .u8 0] 94)) (by go_simp) (hHeld.alloc _) ?_ ?_
          · simp only [List.set_cons_zero, List.set_cons_succ]
            have hgb := hHeld.2.2.2
            have hb : Blk (w8.alloc (.cells #[.int .u8 0, .int .u8 0, .int .u8 0, .int .u8 0, .int .u8 0, .int .u8 0] 94)) w8.heap.size (u8s zero6) 94 := Blk.mk _ (u8s zero6) _ rfl
            replace hHeld := hHeld.alloc (.cells #[.int .u8 0, .int .u8 0, .int .u8 0, .int .u8 0, .int .u8 0, .int .u8 0] 94)
            have hne := Nat.ne_of_lt ha.lt
            replace ha := ha.alloc (.cells #[.int .u8 0, .int .u8 0, .int .u8 0, .int .u8 0, .int .u8 0, .int .u8 0] 94)
            generalize w8.heap.size = B6 at *
            generalize w8.alloc (.cells #[.int .u8 0, .int .u8 0, .int .u8 0, .int .u8 0, .int .u8 0, .int .u8 0] 94) = w9 at *
            have hS6 := hHeld.store hga (u8s (blurL xs)).toArray
            have hB6 := hb.farRow (Ne.symm hne) (u8s (blurL xs)).toArray
            refine wpAnyH_ready (rs := [6]) (by kernel_rfl) (by simp) ?_
            refine cStore 6 rfl rfl (by rfl) 94 _ _ rfl _ rfl (vs := u8s (blurL xs)) rfl ha info_b6 (by rw [u8s_length]; exact hlx) (by rw [u8s_length]; rfl) (u8s_one _) hS6 ?_ AllReadyH.nil
            refine wpAnyH_ready (rs := [7]) (by kernel_rfl) (by simp) ?_
            refine cStore 7 rfl rfl (by rfl) 94 _ _ rfl _ rfl (vs := u8s (blurL ys)) rfl hB6 info_b6 (by rw [u8s_length]; exact hly) (by rw [u8s_length]; rfl) (u8s_one _) (hS6.store hgb _) ?_ AllReadyH.nil
            refine wpAnyH_done (by kernel_rfl) ?_ _
            exact rest _ _ _ ((ha.setRow _).farRow hne _) (hB6.setRow _) (hS6.store hgb _).1
          exact AllReadyH.nil
        refine cVal 5 6 rfl rfl (by rfl) (v := .pointer (some ⟨w7.heap.size, 0, none⟩)) (w' := w7.alloc (.cells #[.int .u8 0, .int .u8 0, .int .u8 0, .int .u8 0, .int .u8 0, .int .u8 0] 94)) (by go_simp) (hHeld.alloc _) ?_ ?_
        · simp only [List.set_cons_zero, List.set_cons_succ]
          have hgb := hHeld.2.2.2
          have hb : Blk (w7.alloc (.cells #[.int .u8 0, .int .u8 0, .int .u8 0, .int .u8 0, .int .u8 0, .int .u8 0] 94)) w7.heap.size (u8s zero6) 94 := Blk.mk _ (u8s zero6) _ rfl
          replace hHeld := hHeld.alloc (.cells #[.int .u8 0, .int .u8 0, .int .u8 0, .int .u8 0, .int .u8 0, .int .u8 0] 94)
          have hne := Nat.ne_of_lt ha.lt
          replace ha := ha.alloc (.cells #[.int .u8 0, .int .u8 0, .int .u8 0, .int .u8 0, .int .u8 0, .int .u8 0] 94)
          generalize w7.heap.size = B6 at *
          generalize w7.alloc (.cells #[.int .u8 0, .int .u8 0, .int .u8 0, .int .u8 0, .int .u8 0, .int .u8 0] 94) = w10 at *
          refine wpAnyH_ready (rs := [3]) (by kernel_rfl) (by simp) ?_
          refine cCall 3 10 84 rfl rfl (args := #[.agg (u8s ys).toArray]) (by rfl) (by go_simp) _ (ky _) (fun w11 hq => ⟨hHeld.call hq, ?_⟩) ?_
          · simp only [List.set_cons_zero, List.set_cons_succ]
            replace hHeld := hHeld.call hq
            replace ha := ha.kept hq
            replace hb := hb.kept hq
            clear hq
            have hS6 := hHeld.store hga (u8s (blurL xs)).toArray
            have hB6 := hb.farRow (Ne.symm hne) (u8s (blurL xs)).toArray
            refine wpAnyH_ready (rs := [6]) (by kernel_rfl) (by simp) ?_
            refine cStore 6 rfl rfl (by rfl) 94 _ _ rfl _ rfl (vs := u8s (blurL xs)) rfl ha info_b6 (by rw [u8s_length]; exact hlx) (by rw [u8s_length]; rfl) (u8s_one _) hS6 ?_ AllReadyH.nil
            refine wpAnyH_ready (rs := [7]) (by kernel_rfl) (by simp) ?_
            refine cStore 7 rfl rfl (by rfl) 94 _ _ rfl _ rfl (vs := u8s (blurL ys)) rfl hB6 info_b6 (by rw [u8s_length]; exact hly) (by rw [u8s_length]; rfl) (u8s_one _) (hS6.store hgb _) ?_ AllReadyH.nil
            refine wpAnyH_done (by kernel_rfl) ?_ _
            exact rest _ _ _ ((ha.setRow _).farRow hne _) (hB6.setRow _) (hS6.store hgb _).1
          exact AllReadyH.nil
        exact AllReadyH.nil
      refine cVal 5 6 rfl rfl (by rfl) (v := .pointer (some ⟨w1.heap.size, 0, none⟩)) (w' := w1.alloc (.cells #[.int .u8 0, .int .u8 0, .int .u8 0, .int .u8 0, .int .u8 0, .int .u8 0] 94)) (by go_simp) (hHeld.alloc _) ?_ ?_
      · simp only [List.set_cons_zero, List.set_cons_succ]
        have hgb := hHeld.2.2.2
        have hb : Blk (w1.alloc (.cells #[.int .u8 0, .int .u8 0, .int .u8 0, .int .u8 0, .int .u8 0, .int .u8 0] 94)) w1.heap.size (u8s zero6) 94 := Blk.mk _ (u8s zero6) _ rfl
        replace hHeld := hHeld.alloc (.cells #[.int .u8 0, .int .u8 0, .int .u8 0, .int .u8 0, .int .u8 0, .int .u8 0] 94)
        generalize w1.heap.size = B6 at *
        generalize w1.alloc (.cells #[.int .u8 0, .int .u8 0, .int .u8 0, .int .u8 0, .int .u8 0, .int .u8 0] 94) = w12 at *
        refine wpAnyH_ready (rs := [3, 4]) (by kernel_rfl) (by simp) ?_
        refine cCall 3 10 84 rfl rfl (args := #[.agg (u8s ys).toArray]) (by rfl) (by go_simp) _ (ky _) (fun w13 hq => ⟨hHeld.call hq, ?_⟩) ?_
        · simp only [List.set_cons_zero, List.set_cons_succ]
          replace hHeld := hHeld.call hq
          replace hb := hb.kept hq
          clear hq
          refine wpAnyH_ready (rs := [4]) (by kernel_rfl) (by simp) ?_
          refine cVal 4 5 rfl rfl (by rfl) (v := .pointer (some ⟨w13.heap.size, 0, none⟩)) (w' := w13.alloc (.cells #[.int .u8 0, .int .u8 0, .int .u8 0, .int .u8 0, .int .u8 0, .int .u8 0] 94)) (by go_simp) (hHeld.alloc _) ?_ ?_
          · simp only [List.set_cons_zero, List.set_cons_succ]
            have hga := hHeld.2.2.2
            have ha : Blk (w13.alloc (.cells #[.int .u8 0, .int .u8 0, .int .u8 0, .int .u8 0, .int .u8 0, .int .u8 0] 94)) w13.heap.size (u8s zero6) 94 := Blk.mk _ (u8s zero6) _ rfl
            replace hHeld := hHeld.alloc (.cells #[.int .u8 0, .int .u8 0, .int .u8 0, .int .u8 0, .int .u8 0, .int .u8 0] 94)
            have hne := Nat.ne_of_gt hb.lt
            replace hb := hb.alloc (.cells #[.int .u8 0, .int .u8 0, .int .u8 0, .int .u8 0, .int .u8 0, .int .u8 0] 94)
            generalize w13.heap.size = B5 at *
            generalize w13.alloc (.cells #[.int .u8 0, .int .u8 0, .int .u8 0, .int .u8 0, .int .u8 0, .int .u8 0] 94) = w14 at *
            have hS6 := hHeld.store hga (u8s (blurL xs)).toArray
            have hB6 := hb.farRow (Ne.symm hne) (u8s (blurL xs)).toArray
            refine wpAnyH_ready (rs := [6]) (by kernel_rfl) (by simp) ?_
            refine cStore 6 rfl rfl (by rfl) 94 _ _ rfl _ rfl (vs := u8s (blurL xs)) rfl ha info_b6 (by rw [u8s_length]; exact hlx) (by rw [u8s_length]; rfl) (u8s_one _) hS6 ?_ AllReadyH.nil
            refine wpAnyH_ready (rs := [7]) (by kernel_rfl) (by simp) ?_
            refine cStore 7 rfl rfl (by rfl) 94 _ _ rfl _ rfl (vs := u8s (blurL ys)) rfl hB6 info_b6 (by rw [u8s_length]; exact hly) (by rw [u8s_length]; rfl) (u8s_one _) (hS6.store hgb _) ?_ AllReadyH.nil
            refine wpAnyH_done (by kernel_rfl) ?_ _
            exact rest _ _ _ ((ha.setRow _).farRow hne _) (hB6.setRow _) (hS6.store hgb _).1
          exact AllReadyH.nil
        refine cVal 4 5 rfl rfl (by rfl) (v := .pointer (some ⟨w12.heap.size, 0, none⟩)) (w' := w12.alloc (.cells #[.int .u8 0, .int .u8 0, .int .u8 0, .int .u8 0, .int .u8 0, .int .u8 0] 94)) (by go_simp) (hHeld.alloc _) ?_ ?_
        · simp only [List.set_cons_zero, List.set_cons_succ]
          have hga := hHeld.2.2.2
          have ha : Blk (w12.alloc (.cells #[.int .u8 0, .int .u8 0, .int .u8 0, .int .u8 0, .int .u8 0, .int .u8 0] 94)) w12.heap.size (u8s zero6) 94 := Blk.mk _ (u8s zero6) _ rfl
          replace hHeld := hHeld.alloc (.cells #[.int .u8 0, .int .u8 0, .int .u8 0, .int .u8 0, .int .u8 0, .int .u8 0] 94)
          have hne := Nat.ne_of_gt hb.lt
          replace hb := hb.alloc (.cells #[.int .u8 0, .int .u8 0, .int .u8 0, .int .u8 0, .int .u8 0, .int .u8 0] 94)
          generalize w12.heap.size = B5 at *
          generalize w12.alloc (.cells #[.int .u8 0, .int .u8 0, .int .u8 0, .int .u8 0, .int .u8 0, .int .u8 0] 94) = w15 at *
          refine wpAnyH_ready (rs := [3]) (by kernel_rfl) (by simp) ?_
          refine cCall 3 10 84 rfl rfl (args := #[.agg (u8s ys).toArray]) (by rfl) (by go_simp) _ (ky _) (fun w16 hq => ⟨hHeld.call hq, ?_⟩) ?_
          · simp only [List.set_cons_zero, List.set_cons_succ]
            replace hHeld := hHeld.call hq
            replace ha := ha.kept hq
            replace hb := hb.kept hq
            clear hq
            have hS6 := hHeld.store hga (u8s (blurL xs)).toArray
            have hB6 := hb.farRow (Ne.symm hne) (u8s (blurL xs)).toArray
            refine wpAnyH_ready (rs := [6]) (by kernel_rfl) (by simp) ?_
            refine cStore 6 rfl rfl (by rfl) 94 _ _ rfl _ rfl (vs := u8s (blurL xs)) rfl ha info_b6 (by rw [u8s_length]; exact hlx) (by rw [u8s_length]; rfl) (u8s_one _) hS6 ?_ AllReadyH.nil
            refine wpAnyH_ready (rs := [7]) (by kernel_rfl) (by simp) ?_
            refine cStore 7 rfl rfl (by rfl) 94 _ _ rfl _ rfl (vs := u8s (blurL ys)) rfl hB6 info_b6 (by rw [u8s_length]; exact hly) (by rw [u8s_length]; rfl) (u8s_one _) (hS6.store hgb _) ?_ AllReadyH.nil
            refine wpAnyH_done (by kernel_rfl) ?_ _
            exact rest _ _ _ ((ha.setRow _).farRow hne _) (hB6.setRow _) (hS6.store hgb _).1
          exact AllReadyH.nil
        exact AllReadyH.nil
      exact AllReadyH.nil
    refine cVal 4 5 rfl rfl (by rfl) (v := .pointer (some ⟨w0.heap.size, 0, none⟩)) (w' := w0.alloc (.cells #[.int .u8 0, .int .u8 0, .int .u8 0, .int .u8 0, .int .u8 0, .int .u8 0] 94)) (by go_simp) (hHeld.alloc _) ?_ ?_
    · simp only [List.set_cons_zero, List.set_cons_succ]
      have hga := hHeld.2.2.2
      have ha : Blk (w0.alloc (.cells #[.int .u8 0, .int .u8 0, .int .u8 0, .int .u8 0, .int .u8 0, .int .u8 0] 94)) w0.heap.size (u8s zero6) 94 := Blk.mk _ (u8s zero6) _ rfl
      replace hHeld := hHeld.alloc (.cells #[.int .u8 0, .int .u8 0, .int .u8 0, .int .u8 0, .int .u8 0, .int .u8 0] 94)
      generalize w0.heap.size = B5 at *
      generalize w0.alloc (.cells #[.int .u8 0, .int .u8 0, .int .u8 0, .int .u8 0, .int .u8 0, .int .u8 0] 94) = w17 at *
      refine wpAnyH_ready (rs := [1, 5]) (by kernel_rfl) (by simp) ?_
      refine cCall 1 8 84 rfl rfl (args := #[.agg (u8s xs).toArray]) (by rfl) (by go_simp) _ (kx _) (fun w18 hq => ⟨hHeld.call hq, ?_⟩) ?_
      · simp only [List.set_cons_zero, List.set_cons_succ]
        replace hHeld := hHeld.call hq
        replace ha := ha.kept hq
        clear hq
        refine wpAnyH_ready (rs := [3, 5]) (by kernel_rfl) (by simp) ?_
        refine cCall 3 10 84 rfl rfl (args := #[.agg (u8s ys).toArray]) (by rfl) (by go_simp) _ (ky _) (fun w19 hq => ⟨hHeld.call hq, ?_⟩) ?_
        · simp only [List.set_cons_zero, List.set_cons_succ]
          replace hHeld := hHeld.call hq
          replace ha := ha.kept hq
          clear hq
          refine wpAnyH_ready (rs := [5]) (by kernel_rfl) (by simp) ?_
          refine cVal 5 6 rfl rfl (by rfl) (v := .pointer (some ⟨w19.heap.size, 0, none⟩)) (w' := w19.alloc (.cells #[.int .u8 0, .int .u8 0, .int .u8 0, .int .u8 0, .int .u8 0, .int .u8 0] 94)) (by go_simp) (hHeld.alloc _) ?_ ?_
          · simp only [List.set_cons_zero, List.set_cons_succ]
            have hgb := hHeld.2.2.2
            have hb : Blk (w19.alloc (.cells #[.int .u8 0, .int .u8 0, .int .u8 0, .int .u8 0, .int .u8 0, .int .u8 0] 94)) w19.heap.size (u8s zero6) 94 := Blk.mk _ (u8s zero6) _ rfl
            replace hHeld := hHeld.alloc (.cells #[.int .u8 0, .int .u8 0, .int .u8 0, .int .u8 0, .int .u8 0, .int .u8 0] 94)
            have hne := Nat.ne_of_lt ha.lt
            replace ha := ha.alloc (.cells #[.int .u8 0, .int .u8 0, .int .u8 0, .int .u8 0, .int .u8 0, .int .u8 0] 94)
            generalize w19.heap.size = B6 at *
            generalize w19.alloc (.cells #[.int .u8 0, .int .u8 0, .int .u8 0, .int .u8 0, .int .u8 0, .int .u8 0] 94) = w20 at *
            have hS6 := hHeld.store hga (u8s (blurL xs)).toArray
            have hB6 := hb.farRow (Ne.symm hne) (u8s (blurL xs)).toArray
            refine wpAnyH_ready (rs := [6]) (by kernel_rfl) (by simp) ?_
            refine cStore 6 rfl rfl (by rfl) 94 _ _ rfl _ rfl (vs := u8s (blurL xs)) rfl ha info_b6 (by rw [u8s_length]; exact hlx) (by rw [u8s_length]; rfl) (u8s_one _) hS6 ?_ AllReadyH.nil
            refine wpAnyH_ready (rs := [7]) (by kernel_rfl) (by simp) ?_
            refine cStore 7 rfl rfl (by rfl) 94 _ _ rfl _ rfl (vs := u8s (blurL ys)) rfl hB6 info_b6 (by rw [u8s_length]; exact hly) (by rw [u8s_length]; rfl) (u8s_one _) (hS6.store hgb _) ?_ AllReadyH.nil
            refine wpAnyH_done (by kernel_rfl) ?_ _
            exact rest _ _ _ ((ha.setRow _).farRow hne _) (hB6.setRow _) (hS6.store hgb _).1
          exact AllReadyH.nil
        refine cVal 5 6 rfl rfl (by rfl) (v := .pointer (some ⟨w18.heap.size, 0, none⟩)) (w' := w18.alloc (.cells #[.int .u8 0, .int .u8 0, .int .u8 0, .int .u8 0, .int .u8 0, .int .u8 0] 94)) (by go_simp) (hHeld.alloc _) ?_ ?_
        · simp only [List.set_cons_zero, List.set_cons_succ]
          have hgb := hHeld.2.2.2
          have hb : Blk (w18.alloc (.cells #[.int .u8 0, .int .u8 0, .int .u8 0, .int .u8 0, .int .u8 0, .int .u8 0] 94)) w18.heap.size (u8s zero6) 94 := Blk.mk _ (u8s zero6) _ rfl
          replace hHeld := hHeld.alloc (.cells #[.int .u8 0, .int .u8 0, .int .u8 0, .int .u8 0, .int .u8 0, .int .u8 0] 94)
          have hne := Nat.ne_of_lt ha.lt
          replace ha := ha.alloc (.cells #[.int .u8 0, .int .u8 0, .int .u8 0, .int .u8 0, .int .u8 0, .int .u8 0] 94)
          generalize w18.heap.size = B6 at *
          generalize w18.alloc (.cells #[.int .u8 0, .int .u8 0, .int .u8 0, .int .u8 0, .int .u8 0, .int .u8 0] 94) = w21 at *
          refine wpAnyH_ready (rs := [3]) (by kernel_rfl) (by simp) ?_
          refine cCall 3 10 84 rfl rfl (args := #[.agg (u8s ys).toArray]) (by rfl) (by go_simp) _ (ky _) (fun w22 hq => ⟨hHeld.call hq, ?_⟩) ?_
          · simp only [List.set_cons_zero, List.set_cons_succ]
            replace hHeld := hHeld.call hq
            replace ha := ha.kept hq
            replace hb := hb.kept hq
            clear hq
            have hS6 := hHeld.store hga (u8s (blurL xs)).toArray
            have hB6 := hb.farRow (Ne.symm hne) (u8s (blurL xs)).toArray
            refine wpAnyH_ready (rs := [6]) (by kernel_rfl) (by simp) ?_
            refine cStore 6 rfl rfl (by rfl) 94 _ _ rfl _ rfl (vs := u8s (blurL xs)) rfl ha info_b6 (by rw [u8s_length]; exact hlx) (by rw [u8s_length]; rfl) (u8s_one _) hS6 ?_ AllReadyH.nil
            refine wpAnyH_ready (rs := [7]) (by kernel_rfl) (by simp) ?_
            refine cStore 7 rfl rfl (by rfl) 94 _ _ rfl _ rfl (vs := u8s (blurL ys)) rfl hB6 info_b6 (by rw [u8s_length]; exact hly) (by rw [u8s_length]; rfl) (u8s_one _) (hS6.store hgb _) ?_ AllReadyH.nil
            refine wpAnyH_done (by kernel_rfl) ?_ _
            exact rest _ _ _ ((ha.setRow _).farRow hne _) (hB6.setRow _) (hS6.store hgb _).1
          exact AllReadyH.nil
        exact AllReadyH.nil
      refine cVal 5 6 rfl rfl (by rfl) (v := .pointer (some ⟨w17.heap.size, 0, none⟩)) (w' := w17.alloc (.cells #[.int .u8 0, .int .u8 0, .int .u8 0, .int .u8 0, .int .u8 0, .int .u8 0] 94)) (by go_simp) (hHeld.alloc _) ?_ ?_
      · simp only [List.set_cons_zero, List.set_cons_succ]
        have hgb := hHeld.2.2.2
        have hb : Blk (w17.alloc (.cells #[.int .u8 0, .int .u8 0, .int .u8 0, .int .u8 0, .int .u8 0, .int .u8 0] 94)) w17.heap.size (u8s zero6) 94 := Blk.mk _ (u8s zero6) _ rfl
        replace hHeld := hHeld.alloc (.cells #[.int .u8 0, .int .u8 0, .int .u8 0, .int .u8 0, .int .u8 0, .int .u8 0] 94)
        have hne := Nat.ne_of_lt ha.lt
        replace ha := ha.alloc (.cells #[.int .u8 0, .int .u8 0, .int .u8 0, .int .u8 0, .int .u8 0, .int .u8 0] 94)
        generalize w17.heap.size = B6 at *
        generalize w17.alloc (.cells #[.int .u8 0, .int .u8 0, .int .u8 0, .int .u8 0, .int .u8 0, .int .u8 0] 94) = w23 at *
        refine wpAnyH_ready (rs := [1]) (by kernel_rfl) (by simp) ?_
        refine cCall 1 8 84 rfl rfl (args := #[.agg (u8s xs).toArray]) (by rfl) (by go_simp) _ (kx _) (fun w24 hq => ⟨hHeld.call hq, ?_⟩) ?_
        · simp only [List.set_cons_zero, List.set_cons_succ]
          replace hHeld := hHeld.call hq
          replace ha := ha.kept hq
          replace hb := hb.kept hq
          clear hq
          refine wpAnyH_ready (rs := [3]) (by kernel_rfl) (by simp) ?_
          refine cCall 3 10 84 rfl rfl (args := #[.agg (u8s ys).toArray]) (by rfl) (by go_simp) _ (ky _) (fun w25 hq => ⟨hHeld.call hq, ?_⟩) ?_
          · simp only [List.set_cons_zero, List.set_cons_succ]
            replace hHeld := hHeld.call hq
            replace ha := ha.kept hq
            replace hb := hb.kept hq
            clear hq
            have hS6 := hHeld.store hga (u8s (blurL xs)).toArray
            have hB6 := hb.farRow (Ne.symm hne) (u8s (blurL xs)).toArray
            refine wpAnyH_ready (rs := [6]) (by kernel_rfl) (by simp) ?_
            refine cStore 6 rfl rfl (by rfl) 94 _ _ rfl _ rfl (vs := u8s (blurL xs)) rfl ha info_b6 (by rw [u8s_length]; exact hlx) (by rw [u8s_length]; rfl) (u8s_one _) hS6 ?_ AllReadyH.nil
            refine wpAnyH_ready (rs := [7]) (by kernel_rfl) (by simp) ?_
            refine cStore 7 rfl rfl (by rfl) 94 _ _ rfl _ rfl (vs := u8s (blurL ys)) rfl hB6 info_b6 (by rw [u8s_length]; exact hly) (by rw [u8s_length]; rfl) (u8s_one _) (hS6.store hgb _) ?_ AllReadyH.nil
            refine wpAnyH_done (by kernel_rfl) ?_ _
            exact rest _ _ _ ((ha.setRow _).farRow hne _) (hB6.setRow _) (hS6.store hgb _).1
          exact AllReadyH.nil
        exact AllReadyH.nil
      exact AllReadyH.nil
    refine cVal 5 6 rfl rfl (by rfl) (v := .pointer (some ⟨w0.heap.size, 0, none⟩)) (w' := w0.alloc (.cells #[.int .u8 0, .int .u8 0, .int .u8 0, .int .u8 0, .int .u8 0, .int .u8 0] 94)) (by go_simp) (hHeld.alloc _) ?_ ?_
    · simp only [List.set_cons_zero, List.set_cons_succ]
      have hgb := hHeld.2.2.2
      have hb : Blk (w0.alloc (.cells #[.int .u8 0, .int .u8 0, .int .u8 0, .int .u8 0, .int .u8 0, .int .u8 0] 94)) w0.heap.size (u8s zero6) 94 := Blk.mk _ (u8s zero6) _ rfl
      replace hHeld := hHeld.alloc (.cells #[.int .u8 0, .int .u8 0, .int .u8 0, .int .u8 0, .int .u8 0, .int .u8 0] 94)
      generalize w0.heap.size = B6 at *
      generalize w0.alloc (.cells #[.int .u8 0, .int .u8 0, .int .u8 0, .int .u8 0, .int .u8 0, .int .u8 0] 94) = w26 at *
      refine wpAnyH_ready (rs := [1, 4]) (by kernel_rfl) (by simp) ?_
      refine cCall 1 8 84 rfl rfl (args := #[.agg (u8s xs).toArray]) (by rfl) (by go_simp) _ (kx _) (fun w27 hq => ⟨hHeld.call hq, ?_⟩) ?_
      · simp only [List.set_cons_zero, List.set_cons_succ]
        replace hHeld := hHeld.call hq
        replace hb := hb.kept hq
        clear hq
        refine wpAnyH_ready (rs := [3, 4]) (by kernel_rfl) (by simp) ?_
        refine cCall 3 10 84 rfl rfl (args := #[.agg (u8s ys).toArray]) (by rfl) (by go_simp) _ (ky _) (fun w28 hq => ⟨hHeld.call hq, ?_⟩) ?_
        · simp only [List.set_cons_zero, List.set_cons_succ]
          replace hHeld := hHeld.call hq
          replace hb := hb.kept hq
          clear hq
          refine wpAnyH_ready (rs := [4]) (by kernel_rfl) (by simp) ?_
          refine cVal 4 5 rfl rfl (by rfl) (v := .pointer (some ⟨w28.heap.size, 0, none⟩)) (w' := w28.alloc (.cells #[.int .u8 0, .int .u8 0, .int .u8 0, .int .u8 0, .int .u8 0, .int .u8 0] 94)) (by go_simp) (hHeld.alloc _) ?_ ?_
          · simp only [List.set_cons_zero, List.set_cons_succ]
            have hga := hHeld.2.2.2
            have ha : Blk (w28.alloc (.cells #[.int .u8 0, .int .u8 0, .int .u8 0, .int .u8 0, .int .u8 0, .int .u8 0] 94)) w28.heap.size (u8s zero6) 94 := Blk.mk _ (u8s zero6) _ rfl
            replace hHeld := hHeld.alloc (.cells #[.int .u8 0, .int .u8 0, .int .u8 0, .int .u8 0, .int .u8 0, .int .u8 0] 94)
            have hne := Nat.ne_of_gt hb.lt
            replace hb := hb.alloc (.cells #[.int .u8 0, .int .u8 0, .int .u8 0, .int .u8 0, .int .u8 0, .int .u8 0] 94)
            generalize w28.heap.size = B5 at *
            generalize w28.alloc (.cells #[.int .u8 0, .int .u8 0, .int .u8 0, .int .u8 0, .int .u8 0, .int .u8 0] 94) = w29 at *
            have hS6 := hHeld.store hga (u8s (blurL xs)).toArray
            have hB6 := hb.farRow (Ne.symm hne) (u8s (blurL xs)).toArray
            refine wpAnyH_ready (rs := [6]) (by kernel_rfl) (by simp) ?_
            refine cStore 6 rfl rfl (by rfl) 94 _ _ rfl _ rfl (vs := u8s (blurL xs)) rfl ha info_b6 (by rw [u8s_length]; exact hlx) (by rw [u8s_length]; rfl) (u8s_one _) hS6 ?_ AllReadyH.nil
            refine wpAnyH_ready (rs := [7]) (by kernel_rfl) (by simp) ?_
            refine cStore 7 rfl rfl (by rfl) 94 _ _ rfl _ rfl (vs := u8s (blurL ys)) rfl hB6 info_b6 (by rw [u8s_length]; exact hly) (by rw [u8s_length]; rfl) (u8s_one _) (hS6.store hgb _) ?_ AllReadyH.nil
            refine wpAnyH_done (by kernel_rfl) ?_ _
            exact rest _ _ _ ((ha.setRow _).farRow hne _) (hB6.setRow _) (hS6.store hgb _).1
          exact AllReadyH.nil
        refine cVal 4 5 rfl rfl (by rfl) (v := .pointer (some ⟨w27.heap.size, 0, none⟩)) (w' := w27.alloc (.cells #[.int .u8 0, .int .u8 0, .int .u8 0, .int .u8 0, .int .u8 0, .int .u8 0] 94)) (by go_simp) (hHeld.alloc _) ?_ ?_
        · simp only [List.set_cons_zero, List.set_cons_succ]
          have hga := hHeld.2.2.2
          have ha : Blk (w27.alloc (.cells #[.int .u8 0, .int .u8 0, .int .u8 0, .int .u8 0, .int .u8 0, .int .u8 0] 94)) w27.heap.size (u8s zero6) 94 := Blk.mk _ (u8s zero6) _ rfl
          replace hHeld := hHeld.alloc (.cells #[.int .u8 0, .int .u8 0, .int .u8 0, .int .u8 0, .int .u8 0, .int .u8 0] 94)
          have hne := Nat.ne_of_gt hb.lt
          replace hb := hb.alloc (.cells #[.int .u8 0, .int .u8 0, .int .u8 0, .int .u8 0, .int .u8 0, .int .u8 0] 94)
          generalize w27.heap.size = B5 at *
          generalize w27.alloc (.cells #[.int .u8 0, .int .u8 0, .int .u8 0, .int .u8 0, .int .u8 0, .int .u8 0] 94) = w30 at *
          refine wpAnyH_ready (rs := [3]) (by kernel_rfl) (by simp) ?_
          refine cCall 3 10 84 rfl rfl (args := #[.agg (u8s ys).toArray]) (by rfl) (by go_simp) _ (ky _) (fun w31 hq => ⟨hHeld.call hq, ?_⟩) ?_
          · simp only [List.set_cons_zero, List.set_cons_succ]
            replace hHeld := hHeld.call hq
            replace ha := ha.kept hq
            replace hb := hb.kept hq
            clear hq
            have hS6 := hHeld.store hga (u8s (blurL xs)).toArray
            have hB6 := hb.farRow (Ne.symm hne) (u8s (blurL xs)).toArray
            refine wpAnyH_ready (rs := [6]) (by kernel_rfl) (by simp) ?_
            refine cStore 6 rfl rfl (by rfl) 94 _ _ rfl _ rfl (vs := u8s (blurL xs)) rfl ha info_b6 (by rw [u8s_length]; exact hlx) (by rw [u8s_length]; rfl) (u8s_one _) hS6 ?_ AllReadyH.nil
            refine wpAnyH_ready (rs := [7]) (by kernel_rfl) (by simp) ?_
            refine cStore 7 rfl rfl (by rfl) 94 _ _ rfl _ rfl (vs := u8s (blurL ys)) rfl hB6 info_b6 (by rw [u8s_length]; exact hly) (by rw [u8s_length]; rfl) (u8s_one _) (hS6.store hgb _) ?_ AllReadyH.nil
            refine wpAnyH_done (by kernel_rfl) ?_ _
            exact rest _ _ _ ((ha.setRow _).farRow hne _) (hB6.setRow _) (hS6.store hgb _).1
          exact AllReadyH.nil
        exact AllReadyH.nil
      refine cVal 4 5 rfl rfl (by rfl) (v := .pointer (some ⟨w26.heap.size, 0, none⟩)) (w' := w26.alloc (.cells #[.int .u8 0, .int .u8 0, .int .u8 0, .int .u8 0, .int .u8 0, .int .u8 0] 94)) (by go_simp) (hHeld.alloc _) ?_ ?_
      · simp only [List.set_cons_zero, List.set_cons_succ]
        have hga := hHeld.2.2.2
        have ha : Blk (w26.alloc (.cells #[.int .u8 0, .int .u8 0, .int .u8 0, .int .u8 0, .int .u8 0, .int .u8 0] 94)) w26.heap.size (u8s zero6) 94 := Blk.mk _ (u8s zero6) _ rfl
        replace hHeld := hHeld.alloc (.cells #[.int .u8 0, .int .u8 0, .int .u8 0, .int .u8 0, .int .u8 0, .int .u8 0] 94)
        have hne := Nat.ne_of_gt hb.lt
        replace hb := hb.alloc (.cells #[.int .u8 0, .int .u8 0, .int .u8 0, .int .u8 0, .int .u8 0, .int .u8 0] 94)
        generalize w26.heap.size = B5 at *
        generalize w26.alloc (.cells #[.int .u8 0, .int .u8 0, .int .u8 0, .int .u8 0, .int .u8 0, .int .u8 0] 94) = w32 at *
        refine wpAnyH_ready (rs := [1]) (by kernel_rfl) (by simp) ?_
        refine cCall 1 8 84 rfl rfl (args := #[.agg (u8s xs).toArray]) (by rfl) (by go_simp) _ (kx _) (fun w33 hq => ⟨hHeld.call hq, ?_⟩) ?_
        · simp only [List.set_cons_zero, List.set_cons_succ]
          replace hHeld := hHeld.call hq
          replace ha := ha.kept hq
          replace hb := hb.kept hq
          clear hq
          refine wpAnyH_ready (rs := [3]) (by kernel_rfl) (by simp) ?_
          refine cCall 3 10 84 rfl rfl (args := #[.agg (u8s ys).toArray]) (by rfl) (by go_simp) _ (ky _) (fun w34 hq => ⟨hHeld.call hq, ?_⟩) ?_
          · simp only [List.set_cons_zero, List.set_cons_succ]
            replace hHeld := hHeld.call hq
            replace ha := ha.kept hq
            replace hb := hb.kept hq
            clear hq
            have hS6 := hHeld.store hga (u8s (blurL xs)).toArray
            have hB6 := hb.farRow (Ne.symm hne) (u8s (blurL xs)).toArray
            refine wpAnyH_ready (rs := [6]) (by kernel_rfl) (by simp) ?_
            refine cStore 6 rfl rfl (by rfl) 94 _ _ rfl _ rfl (vs := u8s (blurL xs)) rfl ha info_b6 (by rw [u8s_length]; exact hlx) (by rw [u8s_length]; rfl) (u8s_one _) hS6 ?_ AllReadyH.nil
            refine wpAnyH_ready (rs := [7]) (by kernel_rfl) (by simp) ?_
            refine cStore 7 rfl rfl (by rfl) 94 _ _ rfl _ rfl (vs := u8s (blurL ys)) rfl hB6 info_b6 (by rw [u8s_length]; exact hly) (by rw [u8s_length]; rfl) (u8s_one _) (hS6.store hgb _) ?_ AllReadyH.nil
            refine wpAnyH_done (by kernel_rfl) ?_ _
            exact rest _ _ _ ((ha.setRow _).farRow hne _) (hB6.setRow _) (hS6.store hgb _).1
          exact AllReadyH.nil
        exact AllReadyH.nil
      exact AllReadyH.nil
    exact AllReadyH.nil
  subst hQ
  intro W B5 B6 h5 h6 hb
  have hu := fun q => unlike_any (blurL xs) (blurL ys) (by rw [hlx, hly]) (by rw [hlx]; omega) B5 0 6 B6 0 6 (World.drewN W q) h5.range h6.range
  rw [hlx] at hu
  have hz : 0 ≤ diffs (blurL xs) (blurL ys) 6 := (diffs_bd _ _ _).1
  clear A0 rx ry kx ky hi1 hi2
  go_wp2_with (fail)
  go_quiet ((go_at_call 85; exact Calls.quiet_of_same (hu _)))
  go_wp2
  go_ret
  exact ⟨rfl, bl_drewN hb _⟩
end Go.Proofs.Ytjppoejkfpeicaa

