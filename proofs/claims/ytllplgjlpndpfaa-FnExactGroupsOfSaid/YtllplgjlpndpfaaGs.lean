/- Contracts: GroupsOf (spec). -/
import Derived.Test.YtllplgjlpndpfaaGr
set_option linter.unusedVariables false
namespace Go.Proofs.Ytllplgjlpndpfaa
open Go.RowKit

section
variable {P : Program} {ops : Array Oper} {Q : Exit → Act → World → Prop} {S : World → Prop} {listed : Array Bool} {ts : List Value} {ds : List Deferred} {w : World} {fuel : Nat}
/-- append(v, ys...), with all that is known of what it leaves. -/
theorem kApp2 {w0 : World} (i d : Nat) (base : Nat) {oi : Oper} (hi : ops[i]? = some oi) (hd : oi.dst = some d) (s x : Operand) (t e : TypeId) (z : Value) (bytes : Nat)
    (ho : oi.op = .call { callee := .builtin .append, args := #[s, x], argTypes := #[t, t] })
    (hw : Region.wanted oi (yielded ops ts.toArray) = true)
    (ht : P.underlying t = some (.slice e)) (hinfo : (P.info? e).map (fun i => (i.zero, i.size, i.bytes)) = some (some z, 1, bytes)) (hz : z.cells.size = 1) (hb0 : 0 < bytes)
    (v : Value) (cs : List Value) (ys : List Value) (b o c m : Nat) (hs : (Act.mk ts.toArray ds).eval s = v) (hx : (Act.mk ts.toArray ds).eval x = .slice (some ⟨b, o, none⟩) m c) (hm : ys.length = m) (h1 : ∀ u ∈ ys, u.oneCell' = true)
    (HO : Own w base e v cs) (hr : w.rangeAt b o ys) (HB : Below base w0 w) (hbase : base ≤ w.heap.size) (hl : (cs.length + m) * bytes ≤ 140737488355328) {rs : List Nat}
    (h : ∀ v1 w1, Own w1 base e v1 (cs ++ ys) → Below base w0 w1 → w.grownBy w1 v.ownBlock → (v1.ownBlock = v.ownBlock ∨ ∃ b, v1.ownBlock = some b ∧ w.heap.size ≤ b) → S w1 ∧ wpAnyH P .any ops Q S fuel (listed.setIfInBounds i true) ⟨(ts.set d v1).toArray, ds⟩ w1)
    (hrest : AllReadyH P .any ops Q S fuel listed ⟨ts.toArray, ds⟩ w rs) : AllReadyH P .any ops Q S fuel listed ⟨ts.toArray, ds⟩ w (i :: rs) := by
  obtain ⟨i0, hi0, hzz⟩ := Option.map_eq_some_iff.1 hinfo
  simp only [Prod.mk.injEq] at hzz
  obtain ⟨hz0, hz1, hz2⟩ := hzz
  have hlen : cs.length + m ≤ 140737488355328 := Nat.le_trans (Nat.le_mul_of_pos_right _ hb0) hl
  refine AllReadyH.cons hi (fun K hK => ?_) hrest
  rw [if_pos hw]
  obtain ⟨v', w', hrun, h2, h3, h4, h5⟩ := run_append_own_at (P := P) w base t oi.type e i0 z 1 bytes ht hi0 hz0 hz1 hz2 hz (by omega) v cs.length cs HO ⟨b, o, none⟩ m c ys (by omega)
    (fun j u hu => by have := hr j u hu; rwa [show (⟨b, o, none⟩ : Addr).add j = ⟨b, o + j, none⟩ from Addr.add_mid _ _ _]) h1 (by simp only [maxLen]; omega) hl hbase
  unfold Oper.wp execOp
  simp only [ho, resolve, invoke, builtin, Sem.run_bind, Sem.run_pure, Result.andThen_ok, List.map_toArray, List.map_cons, List.map_nil, hs, hx, hrun]
  have hO1 : Own w' base e v' (cs ++ ys) := by unfold Own; rw [List.length_append, hm]; exact h2
  obtain ⟨hS, hN⟩ := h v' w' hO1 (HB.grown h3 hbase (fun k hk => Own.ge HO k hk)) h3 (by
    rcases h5 with h5 | h5
    · exact .inl h5
    · exact .inr ⟨_, h5, Nat.le_refl _⟩)
  refine hK.out _ _ hS (fun _ => ?_)
  rw [hd]
  simpa [Act.put] using hN
/-- An operation that hands back nothing: a store. -/
theorem kDo (i : Nat) {oi : Oper} (hi : ops[i]? = some oi) (hd : oi.dst = none)
    (hw : Region.wanted oi (yielded ops ts.toArray) = true) {w' : World} (he : (execOp (Act.mk ts.toArray ds).eval oi).run P w = .ok .skip w') {rs : List Nat}
    (h1 : S w') (h2 : wpAnyH P .any ops Q S fuel (listed.setIfInBounds i true) ⟨ts.toArray, ds⟩ w')
    (hs : AllReadyH P .any ops Q S fuel listed ⟨ts.toArray, ds⟩ w rs) : AllReadyH P .any ops Q S fuel listed ⟨ts.toArray, ds⟩ w (i :: rs) := by
  refine AllReadyH.cons hi (fun K hK => ?_) hs
  rw [if_pos hw]
  unfold Oper.wp
  rw [he]
  refine hK.out _ _ h1 (fun _ => ?_)
  rw [hd]
  exact h2
end
set_option maxRecDepth 100000 in
set_option maxHeartbeats 4000000 in
theorem sGroupsOf_any (m : List Int) (rm : ∀ n ∈ m, -128 ≤ n ∧ n ≤ 127) (A : Option Addr) (cm : Nat) (w : World) (hs : Sl .i8 w A m) :
    Calls Try.prog 35 #[.slice A m.length cm] w fun e w' => GaveM (goL m) (goC m) w.heap.size e w' ∧ Below w.heap.size w w' := by
  have key := l02Plain_any m A cm w hs rm
  unfold goL goC
  cases hk : mOk m
  · rw [hk] at key
    go_enter Try.func35, Try.ntmps35
    go_wp2_with (fail)
    refine key.mono ?_; rintro e w1 ⟨rfl, hb⟩
    go_wp2_with (fail)
    go_ret2
    refine ⟨⟨_, rfl, [], ?_, ⟨rfl, fun i hi => by simp at hi⟩, fun i j u x _ h => by simp at h⟩, bl_new hb _⟩
    have := Own.lit w1 w.heap.size 29 [] hb.size (by simp)
    exact this
  rw [hk] at key
  have h8 := (mOk_len' hk).2
  simp only [if_true]
  have hgl := As.mk (grT_len m)
  have hgi := As.mk (grT_in m)
  have hst := As.mk (show ∀ k, grT m (k + 1) = if nth m k = -10 then grT m k ++ [[]] else (grT m k).set ((grT m k).length - 1) (nthL (grT m k) ((grT m k).length - 1) ++ [nth m k]) from fun _ => rfl)
  have hg0 := As.mk (show grT m 0 = [[]] from rfl)
  clear hk
  generalize hml : m.length = n at *
  have hml := As.mk hml
  have h8' : (n : Int) ≤ 8 := by omega
  go_enter Try.func35, Try.ntmps35
  go_wp2_with (fail)
  refine key.mono ?_; rintro e w1 ⟨rfl, hb1⟩
  have hs1 := hs.kept hb1
  have hM0 := (MD.first w1).lower hb1.size
  have hb0 := bl_new (bl_new hb1 (.cells #[] 62)) (.cells #[.slice (some ⟨w1.heap.size, 0, none⟩) 0 0] 29)
  rw [← hg0.out] at hM0
  go_wp2_with (fail)
  go_loopw [4, 5] (fun v0 i wr => ∃ (k : Nat) (v : Value), k ≤ n ∧ v = v0 ∧ i = .int .i64 k ∧ MD wr w.heap.size v (grT m k) ∧ Below w.heap.size w wr) (fun _ i _ => n - (intOf i).toNat)
  case atStart => exact ⟨0, _, by omega, rfl, rfl, hM0, hb0⟩
  case round =>
    obtain ⟨k, v, hk, rfl, rfl, hM, hb⟩ := hrel
    clear hM0 hb0 key
    by_cases hlt : k < n
    · have hlt' : (k : Int) < (n : Int) := by omega
      obtain ⟨b1, o, hA, hr1⟩ := (hs.kept hb).2 (by rw [hml.out]; omega)
      subst hA
      have c0 := hr1 k _ (i8s_get m k (by rw [hml.out]; exact hlt))
      have hstk := As.mk (hst.out k)
      have hglk := hgl.out k
      have hgik := hgi.out k ((grT m k).length - 1)
      clear hr1
      generalize nth m k = x at *
      generalize hgs : grT m k = gs at *
      have hgs := As.mk hgs
      obtain ⟨l, hl⟩ : ∃ l, gs.length = l + 1 := ⟨gs.length - 1, by omega⟩
      have hl1 : gs.length - 1 = l := by omega
      rw [hl1] at hstk hgik
      obtain ⟨vs, h1, h2, h3⟩ := hM
      have hvl : vs.length = l + 1 := by rw [h2.1]; exact hl
      obtain ⟨g, c', e, hOi⟩ := h2.2 l (by omega)
      obtain ⟨A4, c4, rfl⟩ := h1.slice
      obtain ⟨G, rfl⟩ := h1.addr (by omega)
      have cl : wr.cell? ⟨G, l, none⟩ = some (.slice (some ⟨g, 0, none⟩) (nthL gs l).length c') := by rw [h1.cellAt l (by omega)]; exact e
      have bB : w.heap.size ≤ wr.heap.size := hb.size
      rw [hvl] at h1 ⊢
      have hlI : ((l + 1 : Nat) : Int) = (l : Int) + 1 := by omega
      have hl9 : (l : Int) ≤ 9 := by omega
      have hlp : (l : Int) < (l : Int) + 1 := by omega
      by_cases hx : x = -10
      · have hstk2 := As.mk (show grT m (k + 1) = gs ++ [[]] by rw [hstk.out, if_pos hx])
        clear hstk
        subst hx
        have hOn := Own.lit wr w.heap.size 62 [] bB (by simp)
        have hbn := bl_new (Below.refl _ wr) (.cells #[] 62)
        have h1n := h1.kept hbn
        have h2n := h2.kept hbn
        have hbw := bl_new hb (.cells #[] 62)
        have hnew : ∀ (i : Nat) (y : Value), vs[i]? = some y → Ap y (.slice (some ⟨wr.heap.size, 0, none⟩) 0 0) := fun i y hy a ha hc => by
          obtain ⟨g2, c2, e2, hO2⟩ := h2.2 i (by rw [← h2.1]; exact (List.getElem?_eq_some_iff.1 hy).1)
          rw [hy] at e2
          simp only [Option.some.injEq] at e2
          subst e2
          have := hO2.lt a ha
          simp [Value.ownBlock] at hc; omega
        have hOn : Own (wr.alloc (.cells #[] 62)) w.heap.size 62 (.slice (some ⟨wr.heap.size, 0, none⟩) ([] : List Int).length 0) (i8s []) := hOn
        have hszz : (wr.alloc (.cells #[] 62)).heap.size = wr.heap.size + 1 := by simp
        go_wp2_with (at_builtin; refine app1 (w0 := w) (w.heap.size) rfl (.tmp 27) (.tmp 29) 45 29 (.slice none 0 0) 24 rfl Try.underlying45 info_m rfl (by omega) (.slice (some ⟨G, 0, none⟩) (l + 1) c4) (vs) (.slice (some ⟨wr.heap.size, 0, none⟩) 0 0) rfl (by rw [hszz]; rfl) rfl h1n hbw hbw.size (by omega) ?_)
        intro v3 w3 hO3 hb3 hg3 _
        have hMn := MD.snoc h1n h2n h3 hOn hnew hO3 hg3
        rw [← hstk2.out] at hMn
        go_wp2_with (fail)
        go_roundw
        case rel => exact ⟨k + 1, _, by omega, rfl, by go_num, hMn, hb3⟩
        case measure => simp [intOf]; omega
      · have hstk2 := As.mk (show grT m (k + 1) = gs.set l (nthL gs l ++ [x]) by rw [hstk.out, if_neg hx])
        clear hstk
        have hxb : (x == -10) = false := by rw [beq_eq_false_iff_ne]; exact hx
        clear hx
        have hml2 := i8s_length (nthL gs l)
        have hl2 : (nthL gs l ++ [x]).length = (nthL gs l).length + 1 := by simp
        generalize hmm : nthL gs l = mm at *
        have hmm := As.mk hmm
        generalize hmn : mm.length = mn at *
        have hmn := As.mk hmn
        have hXm := As.mk hmm
        go_wp2_with (fail)
        have cld : wr.drew.cell? ⟨G, l, none⟩ = some (.slice (some ⟨g, 0, none⟩) mn c') := cl
        have c0d : wr.drew.cell? ⟨b1, o + k, none⟩ = some (.int .i8 x) := c0
        have hOd : Own wr.drew w.heap.size 62 (.slice (some ⟨g, 0, none⟩) mn c') (i8s mm) := hOi
        have h1d : Own wr.drew w.heap.size 29 (.slice (some ⟨G, 0, none⟩) (l + 1) c4) vs := h1
        have h2d : Inn wr.drew w.heap.size vs gs := h2
        have hbd : Below w.heap.size w wr.drew := hb.drew
        have bBd : w.heap.size ≤ wr.drew.heap.size := bB
        have hMod : (IntKind.i64.wrap (l : Int)) = (l : Int) := by simp [IntKind.wrap, IntKind.bits, IntKind.signed]; omega
        refine wp_region_held_drew (S := (Below w.heap.size w)) (by kernel_rfl) hbd (fun hHeld => ?_)
        generalize wr.drew = wd at *
        (refine hTake 0 31 (v := .slice (some ⟨G, 0, none⟩) (l + 1) c4) rfl rfl (by kernel_rfl) (by kernel_rfl) (by kernel_rfl) (fun _ _ _ h => h) (Or.inl ⟨by rfl, fun W h => by go_simp⟩) hHeld ?_; simp only [List.set_cons_zero, List.set_cons_succ])
        (refine hTake 1 32 (v := .int .i64 l) rfl rfl (by kernel_rfl) (by kernel_rfl) (by kernel_rfl) (fun _ _ _ h => h) (Or.inl ⟨by rfl, fun W h => by go_simp⟩) hHeld ?_; simp only [List.set_cons_zero, List.set_cons_succ])
        (refine hTake 2 33 (v := .slice (some ⟨G, 0, none⟩) (l + 1) c4) rfl rfl (by kernel_rfl) (by kernel_rfl) (by kernel_rfl) (fun _ _ _ h => h) (Or.inl ⟨by rfl, fun W h => by go_simp⟩) hHeld ?_; simp only [List.set_cons_zero, List.set_cons_succ])
        (refine hTake 3 34 (v := .int .i64 l) rfl rfl (by kernel_rfl) (by kernel_rfl) (by kernel_rfl) (fun _ _ _ h => h) (Or.inl ⟨by rfl, fun W h => by go_simp⟩) hHeld ?_; simp only [List.set_cons_zero, List.set_cons_succ])
        (refine hTake 4 35 (v := .pointer (some ⟨G, l, none⟩)) rfl rfl (by kernel_rfl) (by kernel_rfl) (by kernel_rfl) (fun _ _ _ h => h) (Or.inl ⟨by rfl, fun W h => by go_simp⟩) hHeld ?_; simp only [List.set_cons_zero, List.set_cons_succ])
        (refine hTake 6 37 (v := .slice (some ⟨b1, o, none⟩) n cm) rfl rfl (by kernel_rfl) (by kernel_rfl) (by kernel_rfl) (fun _ _ _ h => h) (Or.inl ⟨by rfl, fun W h => by go_simp⟩) hHeld ?_; simp only [List.set_cons_zero, List.set_cons_succ])
        (refine hTake 7 38 (v := .int .i64 k) rfl rfl (by kernel_rfl) (by kernel_rfl) (by kernel_rfl) (fun _ _ _ h => h) (Or.inl ⟨by rfl, fun W h => by go_simp⟩) hHeld ?_; simp only [List.set_cons_zero, List.set_cons_succ])
        (refine hTake 8 39 (v := .pointer (some ⟨b1, o + k, none⟩)) rfl rfl (by kernel_rfl) (by kernel_rfl) (by kernel_rfl) (fun _ _ _ h => h) (Or.inl ⟨by rfl, fun W h => by go_simp⟩) hHeld ?_; simp only [List.set_cons_zero, List.set_cons_succ])
        have hbn : Below w.heap.size w (wd.alloc (.cells #[.int .i8 x] 62)) := hbd.alloc bBd _
        have cl2 : (wd.alloc (.cells #[.int .i8 x] 62)).cell? ⟨G, l, none⟩ = some (.slice (some ⟨g, 0, none⟩) mn c') := by
          rw [(bl_new (Below.refl _ wd) _).cell (World.block_lt_of_cell? wd _ cld)]; exact cld
        have hBx : Blk (wd.alloc (.cells #[.int .i8 x] 62)) wd.heap.size [.int .i8 x] 62 := Blk.mk _ [_] _ rfl
        have h1b := h1d.alloc (.cells #[.int .i8 x] 62)
        have h2b := h2d.kept (bl_new (Below.refl _ wd) (.cells #[.int .i8 x] 62))
        have hOb := hOd.alloc (.cells #[.int .i8 x] 62)
        have hGe := h1d.ge G rfl
        refine wpAnyH_ready (rs := [5, 9]) (by kernel_rfl) (by simp) ?_
        refine kVal 5 36 rfl rfl (by rfl) (v := .slice (some ⟨g, 0, none⟩) mn c') (by clear cl2; go_simp) hHeld ?_ ?_
        · simp only [List.set_cons_zero, List.set_cons_succ]
          refine wpAnyH_ready (rs := [9]) (by kernel_rfl) (by simp) ?_
          refine kVal 9 40 rfl rfl (by rfl) (v := .int .i8 x) (by go_simp) hHeld ?_ AllReadyH.nil
          simp only [List.set_cons_zero, List.set_cons_succ]
          refine wpAnyH_ready (rs := [10]) (by kernel_rfl) (by simp) ?_
          refine kVal 10 41 rfl rfl (by rfl) (v := .slice (some ⟨wd.heap.size, 0, none⟩) 1 1) (w' := wd.alloc (.cells #[.int .i8 x] 62)) (by go_simp) hbn ?_ AllReadyH.nil
          simp only [List.set_cons_zero, List.set_cons_succ]
          clear cl2 cld c0d h1d h2d hOd h1 h2 hOi cl c0 hHeld
          generalize wd.alloc (.cells #[.int .i8 x] 62) = wb at *
          generalize wd.heap.size = bx at *
          refine wpAnyH_ready (rs := [11]) (by kernel_rfl) (by simp) ?_
          refine kApp2 (w0 := w) 11 42 w.heap.size rfl rfl (.tmp 36) (.tmp 41) 29 62 (.int .i8 0) 1 rfl (by rfl) Try.underlying29 info_i8 rfl (by omega) (.slice (some ⟨g, 0, none⟩) mn c') (i8s mm) [.int .i8 x] bx 0 1 1 rfl rfl rfl (by simp [Value.oneCell']) hOb (by exact hBx.range) hbn hbn.size (by rw [hml2]; omega) (fun v2 w4 hO2 hb4 hg4 hat4 => ⟨hb4, ?_⟩) AllReadyH.nil
          simp only [List.set_cons_zero, List.set_cons_succ]
          rw [i8_snoc'] at hO2
          obtain ⟨A2, c2, rfl⟩ := hO2.slice
          rw [i8s_length] at hO2 hat4 ⊢
          obtain ⟨g2, rfl⟩ := hO2.addr (by rw [i8s_length, hl2]; omega)
          have h1' : Own w4 w.heap.size 29 (.slice (some ⟨G, 0, none⟩) (l + 1) c4) vs := h1b.grown hg4 ((Ap.of_typ hOb h1b im_ne).symm).ne
          obtain ⟨u0, cu⟩ := h1'.someAt l (by omega)
          have fu := h1'.frozenAt l
          have hMn := MD.put h1b h2b h3 hvl.symm l (by omega) e hO2 hg4 (by rw [hmm.out]; exact hOb) hat4
          rw [← hstk2.out] at hMn
          rw [hl2] at hMn ⊢
          have hbS : Below w.heap.size w (w4.setCell ⟨G, l, none⟩ (.slice (some ⟨g2, 0, none⟩) (mn + 1) c2)) := hb4.setCell hGe _
          clear h1b h2b hOb hO2 hg4 hat4 h1'
          replace hHeld := hb4
          (refine hTake 12 43 (v := .pointer (some ⟨G, l, none⟩)) rfl rfl (by kernel_rfl) (by kernel_rfl) (by kernel_rfl) (fun _ _ _ h => h) (Or.inl ⟨by rfl, fun W h => by go_simp⟩) hHeld ?_; simp only [List.set_cons_zero, List.set_cons_succ])
          refine wpAnyH_ready (rs := [13]) (by kernel_rfl) (by simp) ?_
          refine kDo 13 rfl rfl (by rfl) (w' := w4.setCell ⟨G, l, none⟩ (.slice (some ⟨g2, 0, none⟩) (mn + 1) c2)) (by clear hMn; go_simp) hbS ?_ AllReadyH.nil
          refine wpAnyH_done (by kernel_rfl) ?_ _
          clear hb4 hHeld cu fu
          generalize w4.setCell ⟨G, l, none⟩ (.slice (some ⟨g2, 0, none⟩) (mn + 1) c2) = w5 at *
          go_wp2_with (fail)
          go_roundw
          case rel => exact ⟨k + 1, _, by omega, rfl, by go_num, hMn, hbS⟩
          case measure => simp [intOf]; omega
        · refine kVal 9 40 rfl rfl (by rfl) (v := .int .i8 x) (by go_simp) hHeld ?_ AllReadyH.nil
          simp only [List.set_cons_zero, List.set_cons_succ]
          refine wpAnyH_ready (rs := [5, 10]) (by kernel_rfl) (by simp) ?_
          refine kVal 5 36 rfl rfl (by rfl) (v := .slice (some ⟨g, 0, none⟩) mn c') (by clear cl2; go_simp) hHeld ?_ ?_
          · simp only [List.set_cons_zero, List.set_cons_succ]
            refine wpAnyH_ready (rs := [10]) (by kernel_rfl) (by simp) ?_
            refine kVal 10 41 rfl rfl (by rfl) (v := .slice (some ⟨wd.heap.size, 0, none⟩) 1 1) (w' := wd.alloc (.cells #[.int .i8 x] 62)) (by go_simp) hbn ?_ AllReadyH.nil
            simp only [List.set_cons_zero, List.set_cons_succ]
            clear cl2 cld c0d h1d h2d hOd h1 h2 hOi cl c0 hHeld
            generalize wd.alloc (.cells #[.int .i8 x] 62) = wb at *
            generalize wd.heap.size = bx at *
            refine wpAnyH_ready (rs := [11]) (by kernel_rfl) (by simp) ?_
            refine kApp2 (w0 := w) 11 42 w.heap.size rfl rfl (.tmp 36) (.tmp 41) 29 62 (.int .i8 0) 1 rfl (by rfl) Try.underlying29 info_i8 rfl (by omega) (.slice (some ⟨g, 0, none⟩) mn c') (i8s mm) [.int .i8 x] bx 0 1 1 rfl rfl rfl (by simp [Value.oneCell']) hOb (by exact hBx.range) hbn hbn.size (by rw [hml2]; omega) (fun v2 w4 hO2 hb4 hg4 hat4 => ⟨hb4, ?_⟩) AllReadyH.nil
            simp only [List.set_cons_zero, List.set_cons_succ]
            rw [i8_snoc'] at hO2
            obtain ⟨A2, c2, rfl⟩ := hO2.slice
            rw [i8s_length] at hO2 hat4 ⊢
            obtain ⟨g2, rfl⟩ := hO2.addr (by rw [i8s_length, hl2]; omega)
            have h1' : Own w4 w.heap.size 29 (.slice (some ⟨G, 0, none⟩) (l + 1) c4) vs := h1b.grown hg4 ((Ap.of_typ hOb h1b im_ne).symm).ne
            obtain ⟨u0, cu⟩ := h1'.someAt l (by omega)
            have fu := h1'.frozenAt l
            have hMn := MD.put h1b h2b h3 hvl.symm l (by omega) e hO2 hg4 (by rw [hmm.out]; exact hOb) hat4
            rw [← hstk2.out] at hMn
            rw [hl2] at hMn ⊢
            have hbS : Below w.heap.size w (w4.setCell ⟨G, l, none⟩ (.slice (some ⟨g2, 0, none⟩) (mn + 1) c2)) := hb4.setCell hGe _
            clear h1b h2b hOb hO2 hg4 hat4 h1'
            replace hHeld := hb4
            (refine hTake 12 43 (v := .pointer (some ⟨G, l, none⟩)) rfl rfl (by kernel_rfl) (by kernel_rfl) (by kernel_rfl) (fun _ _ _ h => h) (Or.inl ⟨by rfl, fun W h => by go_simp⟩) hHeld ?_; simp only [List.set_cons_zero, List.set_cons_succ])
            refine wpAnyH_ready (rs := [13]) (by kernel_rfl) (by simp) ?_
            refine kDo 13 rfl rfl (by rfl) (w' := w4.setCell ⟨G, l, none⟩ (.slice (some ⟨g2, 0, none⟩) (mn + 1) c2)) (by clear hMn; go_simp) hbS ?_ AllReadyH.nil
            refine wpAnyH_done (by kernel_rfl) ?_ _
            clear hb4 hHeld cu fu
            generalize w4.setCell ⟨G, l, none⟩ (.slice (some ⟨g2, 0, none⟩) (mn + 1) c2) = w5 at *
            go_wp2_with (fail)
            go_roundw
            case rel => exact ⟨k + 1, _, by omega, rfl, by go_num, hMn, hbS⟩
            case measure => simp [intOf]; omega
          · refine kVal 10 41 rfl rfl (by rfl) (v := .slice (some ⟨wd.heap.size, 0, none⟩) 1 1) (w' := wd.alloc (.cells #[.int .i8 x] 62)) (by go_simp) hbn ?_ AllReadyH.nil
            simp only [List.set_cons_zero, List.set_cons_succ]
            refine wpAnyH_ready (rs := [5]) (by kernel_rfl) (by simp) ?_
            refine kVal 5 36 rfl rfl (by rfl) (v := .slice (some ⟨g, 0, none⟩) mn c') (by go_simp) hbn ?_ AllReadyH.nil
            simp only [List.set_cons_zero, List.set_cons_succ]
            clear cl2 cld c0d h1d h2d hOd h1 h2 hOi cl c0 hHeld
            generalize wd.alloc (.cells #[.int .i8 x] 62) = wb at *
            generalize wd.heap.size = bx at *
            refine wpAnyH_ready (rs := [11]) (by kernel_rfl) (by simp) ?_
            refine kApp2 (w0 := w) 11 42 w.heap.size rfl rfl (.tmp 36) (.tmp 41) 29 62 (.int .i8 0) 1 rfl (by rfl) Try.underlying29 info_i8 rfl (by omega) (.slice (some ⟨g, 0, none⟩) mn c') (i8s mm) [.int .i8 x] bx 0 1 1 rfl rfl rfl (by simp [Value.oneCell']) hOb (by exact hBx.range) hbn hbn.size (by rw [hml2]; omega) (fun v2 w4 hO2 hb4 hg4 hat4 => ⟨hb4, ?_⟩) AllReadyH.nil
            simp only [List.set_cons_zero, List.set_cons_succ]
            rw [i8_snoc'] at hO2
            obtain ⟨A2, c2, rfl⟩ := hO2.slice
            rw [i8s_length] at hO2 hat4 ⊢
            obtain ⟨g2, rfl⟩ := hO2.addr (by rw [i8s_length, hl2]; omega)
            have h1' : Own w4 w.heap.size 29 (.slice (some ⟨G, 0, none⟩) (l + 1) c4) vs := h1b.grown hg4 ((Ap.of_typ hOb h1b im_ne).symm).ne
            obtain ⟨u0, cu⟩ := h1'.someAt l (by omega)
            have fu := h1'.frozenAt l
            have hMn := MD.put h1b h2b h3 hvl.symm l (by omega) e hO2 hg4 (by rw [hmm.out]; exact hOb) hat4
            rw [← hstk2.out] at hMn
            rw [hl2] at hMn ⊢
            have hbS : Below w.heap.size w (w4.setCell ⟨G, l, none⟩ (.slice (some ⟨g2, 0, none⟩) (mn + 1) c2)) := hb4.setCell hGe _
            clear h1b h2b hOb hO2 hg4 hat4 h1'
            replace hHeld := hb4
            (refine hTake 12 43 (v := .pointer (some ⟨G, l, none⟩)) rfl rfl (by kernel_rfl) (by kernel_rfl) (by kernel_rfl) (fun _ _ _ h => h) (Or.inl ⟨by rfl, fun W h => by go_simp⟩) hHeld ?_; simp only [List.set_cons_zero, List.set_cons_succ])
            refine wpAnyH_ready (rs := [13]) (by kernel_rfl) (by simp) ?_
            refine kDo 13 rfl rfl (by rfl) (w' := w4.setCell ⟨G, l, none⟩ (.slice (some ⟨g2, 0, none⟩) (mn + 1) c2)) (by clear hMn; go_simp) hbS ?_ AllReadyH.nil
            refine wpAnyH_done (by kernel_rfl) ?_ _
            clear hb4 hHeld cu fu
            generalize w4.setCell ⟨G, l, none⟩ (.slice (some ⟨g2, 0, none⟩) (mn + 1) c2) = w5 at *
            go_wp2_with (fail)
            go_roundw
            case rel => exact ⟨k + 1, _, by omega, rfl, by go_num, hMn, hbS⟩
            case measure => simp [intOf]; omega
    · obtain rfl : k = n := by omega
      go_wp2_with (fail)
      go_ret2
      exact ⟨⟨_, rfl, hM⟩, hb⟩
end Go.Proofs.Ytllplgjlpndpfaa
