/- Contracts: the texts of numbers below 100: spec.Decimal. -/
import Derived.Test.YtllplgjlpndpfaaDoorLw
import Derived.Test.YtllplgjlpndpfaaDoorF17
set_option linter.unusedVariables false
namespace Go.Proofs.YtllplgjlpndpfaaDoor
open Go.RowKit
section
variable {P : Program} {ops : Array Oper} {Q : Exit → Act → World → Prop} {S : World → Prop} {listed : Array Bool} {ts : List Value} {ds : List Deferred} {w : World} {fuel : Nat}
/-- One of the operations that may come up: a call of function f. -/
theorem kCall (i d f : Nat) {oi : Oper} (hi : ops[i]? = some oi) (hd : oi.dst = some d) {args : Array Value}
    (hw : Region.wanted oi (yielded ops ts.toArray) = true) (he : (execOp (Act.mk ts.toArray ds).eval oi).run P w = .ok (.enter f args) w) (v : Value) {R : World → Prop}
    (hc : Calls P f args w fun e w' => e = .returned v ∧ R w') {rs : List Nat}
    (h : ∀ w', R w' → S w' ∧ wpAnyH P .any ops Q S fuel (listed.setIfInBounds i true) ⟨(ts.set d v).toArray, ds⟩ w')
    (hs : AllReadyH P .any ops Q S fuel listed ⟨ts.toArray, ds⟩ w rs) : AllReadyH P .any ops Q S fuel listed ⟨ts.toArray, ds⟩ w (i :: rs) := by
  refine AllReadyH.cons hi (fun K hK => ?_) hs
  rw [if_pos hw]
  unfold Oper.wp
  rw [he, Oper.upon_enter]
  refine hc.mono ?_
  rintro e w' ⟨rfl, hR⟩
  obtain ⟨h1, h2⟩ := h w' hR
  refine hK.out _ _ h1 (fun _ => ?_)
  rw [hd]
  simpa [Act.put] using h2
/-- One of the operations that may come up: it gives a value and maybe another world. -/
theorem kVal (i d : Nat) {oi : Oper} (hi : ops[i]? = some oi) (hd : oi.dst = some d)
    (hw : Region.wanted oi (yielded ops ts.toArray) = true) {v : Value} {w' : World} (he : (execOp (Act.mk ts.toArray ds).eval oi).run P w = .ok (.value v) w') {rs : List Nat}
    (h1 : S w') (h2 : wpAnyH P .any ops Q S fuel (listed.setIfInBounds i true) ⟨(ts.set d v).toArray, ds⟩ w')
    (hs : AllReadyH P .any ops Q S fuel listed ⟨ts.toArray, ds⟩ w rs) : AllReadyH P .any ops Q S fuel listed ⟨ts.toArray, ds⟩ w (i :: rs) := by
  refine AllReadyH.cons hi (fun K hK => ?_) hs
  rw [if_pos hw]
  unfold Oper.wp
  rw [he, Oper.upon_value]
  refine hK.out _ _ h1 (fun _ => ?_)
  rw [hd]
  simpa [Act.put] using h2
end
/-- The text of a number below 100. -/
def dig (n : Nat) : ByteArray := if n < 10 then strOfNums [48 + (n : Int)] else strOfNums [48 + ((n : Int) / 10)] ++ strOfNums [48 + ((n : Int) % 10)]
theorem dig_small (n : Nat) (h : n < 10) : dig n = strOfNums [48 + (n : Int)] := by unfold dig; rw [if_pos h]
theorem dig_big (n : Nat) (h : ¬ n < 10) : dig n = strOfNums [48 + ((n : Int) / 10)] ++ strOfNums [48 + ((n : Int) % 10)] := by unfold dig; rw [if_neg h]
theorem dig_size (n : Nat) : (dig n).size ≤ 2 := by
  unfold dig
  split
  · rw [strOfNums_size]; simp
  · rw [ByteArray.size_append, strOfNums_size, strOfNums_size]; simp

theorem byte_string (x : Int) (w : World) (b : Nat) (h : Blk w b [.int .u8 x] 5) : (convert 55 9 (.slice (some ⟨b, 0, none⟩) 1 1)).run Tryd.prog w = .ok (.string (strOfNums [x])) w := by
  have hO : Own w 0 5 (.slice (some ⟨b, 0, none⟩) 1 1) (u8s [x]) := ⟨rfl, .inr ⟨b, 1, #[.int .u8 x], rfl, Nat.zero_le _, h, Nat.le_refl _, by simp [maxLen], rfl, rfl⟩⟩
  exact own_string (P := Tryd.prog) Tryd.underlying55 Tryd.underlying5 Tryd.underlying9 hO

set_option maxHeartbeats 400000 in
theorem Decimal_small (n : Nat) (h : n < 10) (w : World) : Calls Tryd.prog 32 #[.int .i64 n] w fun e w' => e = .returned (.string (dig n)) ∧ Below w.heap.size w w' := by
  have h1 : (n : Int) < 10 := by omega
  have hm : (n : Int) % 10 = n := by omega
  have hcv := byte_string (48 + (n : Int)) (w.alloc (.cells #[.int .u8 (48 + (n : Int))] 5)) w.heap.size (Blk.mk _ [_] _ rfl)
  have HD := As.mk (dig_small n h)
  clear h
  go_enter Tryd.func32, Tryd.ntmps32
  go_wp2_with (fail)
  go_ret
  exact ⟨ret_s HD.out.symm, bl_new (Below.refl _ _) _⟩

set_option maxRecDepth 100000 in
set_option maxHeartbeats 2000000 in
theorem Decimal_any (n : Nat) (hn : n < 100) (w : World) : Calls Tryd.prog 32 #[.int .i64 n] w fun e w' => e = .returned (.string (dig n)) ∧ Below w.heap.size w w' := by
  by_cases h : n < 10
  · exact Decimal_small n h w
  · obtain ⟨q, hq⟩ : ∃ q : Nat, (n : Int) / 10 = q := ⟨((n : Int) / 10).toNat, by omega⟩
    obtain ⟨r, hr⟩ : ∃ r : Nat, (n : Int) % 10 = r := ⟨((n : Int) % 10).toNat, by omega⟩
    have q10 : q < 10 := by omega
    have r10 : r < 10 := by omega
    have hc := fun W => Decimal_small q q10 W
    have hD := dig_big n h
    rw [hq, hr, ← dig_small q q10] at hD
    have HD := As.mk hD
    have hcv := fun W b hB => byte_string (48 + (r : Int)) W b hB
    have hz := dig_size q
    have hz2 : (strOfNums [48 + (r : Int)]).size = 1 := by rw [strOfNums_size]; rfl
    have h1 : ¬ ((n : Int) < 10) := by omega
    generalize dig q = dq at *
    generalize hd : strOfNums [48 + (r : Int)] = dr at *
    clear hd
    have hadd : ∀ W, (binOp .add 9 (.string dq) (.string dr)).run Tryd.prog W = .ok (.string (dq ++ dr)) W := fun W => by
      go_simp
      omega
    have wq : IntKind.i64.wrap (q : Int) = q := by simp [IntKind.wrap, IntKind.bits, IntKind.signed]; omega
    have wm : Int.tmod (n : Int) 10 = r := by rw [Int.tmod_eq_emod_of_nonneg (by omega)]; exact hr
    have w48 : IntKind.i64.wrap (48 + (r : Int)) = 48 + r := by simp [IntKind.wrap, IntKind.bits, IntKind.signed]; omega
    have w8 : IntKind.u8.wrap (48 + (r : Int)) = 48 + r := by simp [IntKind.wrap, IntKind.bits, IntKind.signed]; omega
    go_enter Tryd.func32, Tryd.ntmps32
    go_wp2_with (fail)
    refine wp_region_held_drew (S := (fun W => Below w.heap.size w W)) (by kernel_rfl) (Below.refl w.heap.size w).drew (fun hHeld => ?_)
    (refine hTake 0 11 (v := .int .i64 (n : Int)) rfl rfl (by kernel_rfl) (by kernel_rfl) (by kernel_rfl) (fun _ _ _ h => h) (Or.inl ⟨by rfl, fun W _ => rfl⟩) hHeld ?_; simp only [List.set_cons_zero, List.set_cons_succ])
    (refine hTake 3 14 (v := .int .i64 (n : Int)) rfl rfl (by kernel_rfl) (by kernel_rfl) (by kernel_rfl) (fun _ _ _ h => h) (Or.inl ⟨by rfl, fun W _ => rfl⟩) hHeld ?_; simp only [List.set_cons_zero, List.set_cons_succ])
    (refine hTake 1 12 (v := .int .i64 (q : Int)) rfl rfl (by kernel_rfl) (by kernel_rfl) (by kernel_rfl) (fun _ _ _ h => h) (Or.inl ⟨by rfl, fun W h => by go_simp⟩) hHeld ?_; simp only [List.set_cons_zero, List.set_cons_succ])
    (refine hTake 4 15 (v := .int .i64 (r : Int)) rfl rfl (by kernel_rfl) (by kernel_rfl) (by kernel_rfl) (fun _ _ _ h => h) (Or.inl ⟨by rfl, fun W h => by go_simp⟩) hHeld ?_; simp only [List.set_cons_zero, List.set_cons_succ])
    (refine hTake 5 16 (v := .int .i64 (48 + (r : Int))) rfl rfl (by kernel_rfl) (by kernel_rfl) (by kernel_rfl) (fun _ _ _ h => h) (Or.inl ⟨by rfl, fun W h => by go_simp⟩) hHeld ?_; simp only [List.set_cons_zero, List.set_cons_succ])
    (refine hTake 6 17 (v := .int .u8 (48 + (r : Int))) rfl rfl (by kernel_rfl) (by kernel_rfl) (by kernel_rfl) (fun _ _ _ h => h) (Or.inl ⟨by rfl, fun W h => by go_simp⟩) hHeld ?_; simp only [List.set_cons_zero, List.set_cons_succ])
    generalize w.drew = w0 at *
    refine wpAnyH_ready (rs := [2, 7]) (by kernel_rfl) (by simp) ?_
    refine kCall 2 13 32 rfl rfl (args := #[.int .i64 (q : Int)]) (by rfl) (by go_simp) (.string dq) (hc w0) (fun w1 hb1 => ⟨bl_call hHeld hb1, ?_⟩) ?_
    · simp only [List.set_cons_zero, List.set_cons_succ]
      replace hHeld := bl_call hHeld hb1
      clear hb1
      have hB := Blk.mk w1 [.int .u8 (48 + (r : Int))] 5 rfl
      refine wpAnyH_ready (rs := [7]) (by kernel_rfl) (by simp) ?_
      refine kVal 7 18 rfl rfl (by rfl) (v := .slice (some ⟨w1.heap.size, 0, none⟩) 1 1) (w' := w1.alloc (.cells #[.int .u8 (48 + (r : Int))] 5)) (by go_simp) (bl_new hHeld _) ?_ AllReadyH.nil
      simp only [List.set_cons_zero, List.set_cons_succ]
      replace hHeld := bl_new hHeld (.cells #[.int .u8 (48 + (r : Int))] 5)
      have hcw := hcv _ _ hB
      refine wpAnyH_ready (rs := [8]) (by kernel_rfl) (by simp) ?_
      refine kVal 8 19 rfl rfl (by rfl) (v := .string dr) (by go_simp) hHeld ?_ AllReadyH.nil
      simp only [List.set_cons_zero, List.set_cons_succ]
      refine wpAnyH_ready (rs := [9]) (by kernel_rfl) (by simp) ?_
      refine kVal 9 20 rfl rfl (by rfl) (v := .string (dq ++ dr)) (by go_simp; omega) hHeld ?_ AllReadyH.nil
      simp only [List.set_cons_zero, List.set_cons_succ]
      refine wpAnyH_ready (rs := [10]) (by kernel_rfl) (by simp) ?_
      refine kVal 10 2 rfl rfl (by rfl) (v := .string (dq ++ dr)) (by rfl) hHeld ?_ AllReadyH.nil
      simp only [List.set_cons_zero, List.set_cons_succ]
      refine wpAnyH_done (by kernel_rfl) ?_ _
      go_wp2
      go_ret
      exact ⟨ret_s HD.out.symm, hHeld⟩
    · refine kVal 7 18 rfl rfl (by rfl) (v := .slice (some ⟨w0.heap.size, 0, none⟩) 1 1) (w' := w0.alloc (.cells #[.int .u8 (48 + (r : Int))] 5)) (by go_simp) (bl_new hHeld _) ?_ AllReadyH.nil
      simp only [List.set_cons_zero, List.set_cons_succ]
      have hB := Blk.mk w0 [.int .u8 (48 + (r : Int))] 5 rfl
      replace hHeld := bl_new hHeld (.cells #[.int .u8 (48 + (r : Int))] 5)
      have hB : Blk (w0.alloc (.cells #[.int .u8 (48 + (r : Int))] 5)) w0.heap.size [.int .u8 (48 + (r : Int))] 5 := hB
      generalize w0.heap.size = b0 at *
      generalize w0.alloc (.cells #[.int .u8 (48 + (r : Int))] 5) = w1 at *
      refine wpAnyH_ready (rs := [2, 8]) (by kernel_rfl) (by simp) ?_
      refine kCall 2 13 32 rfl rfl (args := #[.int .i64 (q : Int)]) (by rfl) (by go_simp) (.string dq) (hc w1) (fun w2 hb1 => ⟨bl_call hHeld hb1, ?_⟩) ?_
      · simp only [List.set_cons_zero, List.set_cons_succ]
        replace hHeld := bl_call hHeld hb1
        have hcw := hcv _ _ (hB.kept hb1)
        refine wpAnyH_ready (rs := [8]) (by kernel_rfl) (by simp) ?_
        refine kVal 8 19 rfl rfl (by rfl) (v := .string dr) (by go_simp) hHeld ?_ AllReadyH.nil
        simp only [List.set_cons_zero, List.set_cons_succ]
        refine wpAnyH_ready (rs := [9]) (by kernel_rfl) (by simp) ?_
        refine kVal 9 20 rfl rfl (by rfl) (v := .string (dq ++ dr)) (by go_simp; omega) hHeld ?_ AllReadyH.nil
        simp only [List.set_cons_zero, List.set_cons_succ]
        refine wpAnyH_ready (rs := [10]) (by kernel_rfl) (by simp) ?_
        refine kVal 10 2 rfl rfl (by rfl) (v := .string (dq ++ dr)) (by rfl) hHeld ?_ AllReadyH.nil
        simp only [List.set_cons_zero, List.set_cons_succ]
        refine wpAnyH_done (by kernel_rfl) ?_ _
        go_wp2
        go_ret
        exact ⟨ret_s HD.out.symm, hHeld⟩
      · have hcw := hcv _ _ hB
        refine kVal 8 19 rfl rfl (by rfl) (v := .string dr) (by go_simp) hHeld ?_ AllReadyH.nil
        simp only [List.set_cons_zero, List.set_cons_succ]
        refine wpAnyH_ready (rs := [2]) (by kernel_rfl) (by simp) ?_
        refine kCall 2 13 32 rfl rfl (args := #[.int .i64 (q : Int)]) (by rfl) (by go_simp) (.string dq) (hc w1) (fun w2 hb1 => ⟨bl_call hHeld hb1, ?_⟩) AllReadyH.nil
        simp only [List.set_cons_zero, List.set_cons_succ]
        replace hHeld := bl_call hHeld hb1
        refine wpAnyH_ready (rs := [9]) (by kernel_rfl) (by simp) ?_
        refine kVal 9 20 rfl rfl (by rfl) (v := .string (dq ++ dr)) (by go_simp; omega) hHeld ?_ AllReadyH.nil
        simp only [List.set_cons_zero, List.set_cons_succ]
        refine wpAnyH_ready (rs := [10]) (by kernel_rfl) (by simp) ?_
        refine kVal 10 2 rfl rfl (by rfl) (v := .string (dq ++ dr)) (by rfl) hHeld ?_ AllReadyH.nil
        simp only [List.set_cons_zero, List.set_cons_succ]
        refine wpAnyH_done (by kernel_rfl) ?_ _
        go_wp2
        go_ret
        exact ⟨ret_s HD.out.symm, hHeld⟩
end Go.Proofs.YtllplgjlpndpfaaDoor
