/- Contracts: IsUpsideDown: both sides. -/
import Derived.Test.YtlgpelcnhdalpaaF10
import Derived.Test.YtlgpelcnhdalpaaEq
import Derived.Test.YtlgpelcnhdalpaaLw
set_option linter.unusedVariables false
namespace Go.Proofs.Ytlgpelcnhdalpaa
open Go.RowKit

theorem guard_fl : Try.prog.eqGuardType Try.prog.depth 27 = false := by kernel_rfl
theorem eql_fl (xs ys : List Int) (hx : xs.length = 24) (hy : ys.length = 24) (w : World) : (binOp .eql 27 (.agg (u8s xs).toArray) (.agg (u8s ys).toArray)).run Try.prog w = .ok (.bool (decide (xs = ys))) w :=
  run_eql_u8s 27 5 24 Try.underlying27 Try.underlying5 (by kernel_rfl) (fun w => Try.isAgg5 w) xs ys hx hy w
theorem neq_fl (xs ys : List Int) (hx : xs.length = 24) (hy : ys.length = 24) (w : World) : (binOp .neq 27 (.agg (u8s xs).toArray) (.agg (u8s ys).toArray)).run Try.prog w = .ok (.bool (!decide (xs = ys))) w :=
  run_neq_u8s 27 5 24 Try.underlying27 Try.underlying5 (by kernel_rfl) (fun w => Try.isAgg5 w) xs ys hx hy w

def downB (xs ys : List Int) : Bool := vf xs && vf ys && decide (turnL xs = ys)
theorem ret_bn {a b : Bool} {n m : Int} (h : a = b) (h' : n = m) : Ending.returned (.tuple #[.bool a, .int .i64 n]) = .returned (.tuple #[.bool b, .int .i64 m]) := by rw [h, h']

set_option maxRecDepth 100000 in
set_option maxHeartbeats 1000000 in
theorem sIsUpsideDown_any (xs ys : List Int) (hx : xs.length = 24) (hy : ys.length = 24) (w : World) :
    Calls Try.prog 40 #[fl xs, fl ys] w fun e w' => e = .returned (.tuple #[.bool (downB xs ys), .int .i64 (codeV (vf xs && vf ys))]) ∧ Below w.heap.size w w' := by
  unfold fl
  have S0 := start2 w (u8s xs) (u8s ys) 27 27
  have hi2 : (Try.prog.info? 27).map (·.size) = some (u8s ys).length := by rw [u8s_length, hy]; exact info_fl
  have hg := guard_fl
  have he := eql_fl (turnL xs) ys (turnL_length xs) hy
  have hD := As.mk (show downB xs ys = (vf xs && vf ys && decide (turnL xs = ys)) from rfl)
  cases h1 : vf xs
  · go_enter Try.func40, Try.ntmps40
    go_wp2_with (go_at_call 47; refine (l01Ok_any xs hx _ 0 _ S0.2.1).mono ?_; rintro e w' ⟨rfl, rfl⟩)
    go_ret2
    exact ⟨ret_bn (by rw [hD.out, h1]; rfl) rfl, S0.1⟩
  · cases h2 : vf ys
    · go_enter Try.func40, Try.ntmps40
      go_wp2_with (first | (go_at_call_of 47 (Value.pointer (some ⟨w.heap.size, 0, none⟩)); refine (l01Ok_any xs hx _ 0 _ S0.2.1).mono ?_; rintro e w' ⟨rfl, rfl⟩) | (go_at_call 47; refine (l01Ok_any ys hy _ 0 _ S0.2.2).mono ?_; rintro e w' ⟨rfl, rfl⟩))
      go_ret2
      exact ⟨ret_bn (by rw [hD.out, h1, h2]; rfl) rfl, S0.1⟩
    · go_enter Try.func40, Try.ntmps40
      go_wp2_with (first | (go_at_call_of 47 (Value.pointer (some ⟨w.heap.size, 0, none⟩)); refine (l01Ok_any xs hx _ 0 _ S0.2.1).mono ?_; rintro e w' ⟨rfl, rfl⟩) | (go_at_call 47; refine (l01Ok_any ys hy _ 0 _ S0.2.2).mono ?_; rintro e w' ⟨rfl, rfl⟩))
      refine wp_region_held_drew (S := (fun W => Below w.heap.size w W ∧ W.rangeAt w.heap.size 0 (u8s xs) ∧ W.rangeAt (w.heap.size + 1) 0 (u8s ys))) (by kernel_rfl) (drew2 S0) (fun hHeld => ?_)
      (refine hTake 1 13 rfl rfl (by kernel_rfl) (by kernel_rfl) (by kernel_rfl) (fun _ _ _ h => h) (yieldsIf_load_mid (by rfl) _ _ rfl _ _ rfl (u8s ys) _ (fun W h => h.2.2) Try.underlying27 rfl hi2) hHeld ?_; simp only [List.set_cons_zero, List.set_cons_succ])
      (refine hCall 0 12 57 rfl rfl (by kernel_rfl) (args := #[.pointer (some ⟨w.heap.size, 0, none⟩)]) (by rfl) (by go_simp) (.agg (u8s (turnL xs)).toArray) (l01Turn_any xs hx _ 0 _ hHeld.2.1) (fun wq hb => ⟨keep2 hHeld hb, ?_⟩); simp only [List.set_cons_zero, List.set_cons_succ]; replace hHeld := keep2 hHeld hb; clear hb)
      (refine hTake 2 14 (v := .bool (decide (turnL xs = ys))) rfl rfl (by kernel_rfl) (by kernel_rfl) (by kernel_rfl) (fun _ _ _ h => h) (Or.inl ⟨by rfl, fun W _ => by go_simp⟩) hHeld ?_; simp only [List.set_cons_zero, List.set_cons_succ])
      (refine hTake 3 4 (v := .bool (decide (turnL xs = ys))) rfl rfl (by kernel_rfl) (by kernel_rfl) (by kernel_rfl) (fun _ _ _ h => h) (Or.inl ⟨by rfl, fun W _ => rfl⟩) hHeld ?_; simp only [List.set_cons_zero, List.set_cons_succ])
      (refine hTake 4 5 (v := .int .i64 0) rfl rfl (by kernel_rfl) (by kernel_rfl) (by kernel_rfl) (fun _ _ _ h => h) (Or.inl ⟨by rfl, fun W _ => rfl⟩) hHeld ?_; simp only [List.set_cons_zero, List.set_cons_succ])
      refine wpAnyH_done (by kernel_rfl) ?_ _
      go_wp2_with (fail)
      go_ret2
      exact ⟨ret_bn (by rw [hD.out, h1, h2]; rfl) rfl, hHeld.1⟩

set_option maxRecDepth 100000 in
set_option maxHeartbeats 1000000 in
theorem IsUpsideDown_any (xs ys : List Int) (hx : xs.length = 24) (hy : ys.length = 24) (w : World) :
    Calls Try.prog 41 #[fl xs, fl ys] w fun e w' => e = .returned (.tuple #[.bool (downB xs ys), .int .i64 (codeV (vf xs && vf ys))]) ∧ Below w.heap.size w w' := by
  unfold fl
  have B0 : Blk ((w.alloc (.cells (u8s xs).toArray 27)).alloc (.cells (u8s ys).toArray 27)) w.heap.size (u8s xs) 27 := (Blk.new _ _ _).alloc _
  have B1 : Blk ((w.alloc (.cells (u8s xs).toArray 27)).alloc (.cells (u8s ys).toArray 27)) (w.heap.size + 1) (u8s ys) 27 := Blk.mk _ _ _ (by simp)
  have b0 := bl_new (bl_new (Below.refl _ w) (.cells (u8s xs).toArray 27)) (.cells (u8s ys).toArray 27)
  have hi1 : (Try.prog.info? 27).map (·.size) = some (u8s xs).length := by rw [u8s_length, hx]; exact info_fl
  have hi2 : (Try.prog.info? 27).map (·.size) = some (u8s ys).length := by rw [u8s_length, hy]; exact info_fl
  have hg := guard_fl
  have he := eql_fl (turnL xs) ys (turnL_length xs) hy
  have hD := As.mk (show downB xs ys = (vf xs && vf ys && decide (turnL xs = ys)) from rfl)
  cases h1 : vf xs
  · go_enter Try.func41, Try.ntmps41
    go_wp2_with (refine load_blk rfl 27 _ rfl _ rfl B0 Try.underlying27 rfl info_fl (by rw [u8s_length]; exact hx) ?_)
    refine (ValidFlag_any xs hx _).mono ?_; rintro e w1 ⟨rfl, hb1⟩
    go_wp2_with (fail)
    go_ret2
    exact ⟨ret_bn (by rw [hD.out, h1]; rfl) rfl, bl_call b0 hb1⟩
  · cases h2 : vf ys
    · go_enter Try.func41, Try.ntmps41
      go_wp2_with (refine load_blk rfl 27 _ rfl _ rfl B0 Try.underlying27 rfl info_fl (by rw [u8s_length]; exact hx) ?_)
      refine (ValidFlag_any xs hx _).mono ?_; rintro e w1 ⟨rfl, hb1⟩
      have B1' := B1.kept hb1
      go_wp2_with (refine load_blk rfl 27 _ rfl _ rfl B1' Try.underlying27 rfl info_fl (by rw [u8s_length]; exact hy) ?_)
      refine (ValidFlag_any ys hy _).mono ?_; rintro e w2 ⟨rfl, hb2⟩
      go_wp2_with (fail)
      go_ret2
      exact ⟨ret_bn (by rw [hD.out, h1, h2]; rfl) rfl, bl_call (bl_call b0 hb1) hb2⟩
    · go_enter Try.func41, Try.ntmps41
      go_wp2_with (refine load_blk rfl 27 _ rfl _ rfl B0 Try.underlying27 rfl info_fl (by rw [u8s_length]; exact hx) ?_)
      refine (ValidFlag_any xs hx _).mono ?_; rintro e w1 ⟨rfl, hb1⟩
      have B1' := B1.kept hb1
      go_wp2_with (refine load_blk rfl 27 _ rfl _ rfl B1' Try.underlying27 rfl info_fl (by rw [u8s_length]; exact hy) ?_)
      refine (ValidFlag_any ys hy _).mono ?_; rintro e w2 ⟨rfl, hb2⟩
      have S2 : Below w.heap.size w w2 ∧ w2.rangeAt w.heap.size 0 (u8s xs) ∧ w2.rangeAt (w.heap.size + 1) 0 (u8s ys) := ⟨bl_call (bl_call b0 hb1) hb2, ((B0.kept hb1).kept hb2).range, (B1'.kept hb2).range⟩
      go_wp2_with (fail)
      refine wp_region_held_drew (S := (fun W => Below w.heap.size w W ∧ W.rangeAt w.heap.size 0 (u8s xs) ∧ W.rangeAt (w.heap.size + 1) 0 (u8s ys))) (by kernel_rfl) (drew2 S2) (fun hHeld => ?_)
      (refine hTake 0 14 rfl rfl (by kernel_rfl) (by kernel_rfl) (by kernel_rfl) (fun _ _ _ h => h) (yieldsIf_load_mid (by rfl) _ _ rfl _ _ rfl (u8s xs) _ (fun W h => h.2.1) Try.underlying27 rfl hi1) hHeld ?_; simp only [List.set_cons_zero, List.set_cons_succ])
      (refine hTake 2 16 rfl rfl (by kernel_rfl) (by kernel_rfl) (by kernel_rfl) (fun _ _ _ h => h) (yieldsIf_load_mid (by rfl) _ _ rfl _ _ rfl (u8s ys) _ (fun W h => h.2.2) Try.underlying27 rfl hi2) hHeld ?_; simp only [List.set_cons_zero, List.set_cons_succ])
      (refine hCall 1 15 58 rfl rfl (by kernel_rfl) (args := #[.agg (u8s xs).toArray]) (by rfl) (by go_simp) (.agg (u8s (turnL xs)).toArray) (turned_any xs hx _) (fun wq hb => ⟨keep2 hHeld hb, ?_⟩); simp only [List.set_cons_zero, List.set_cons_succ]; replace hHeld := keep2 hHeld hb; clear hb)
      (refine hTake 3 17 (v := .bool (decide (turnL xs = ys))) rfl rfl (by kernel_rfl) (by kernel_rfl) (by kernel_rfl) (fun _ _ _ h => h) (Or.inl ⟨by rfl, fun W _ => by go_simp⟩) hHeld ?_; simp only [List.set_cons_zero, List.set_cons_succ])
      (refine hTake 4 4 (v := .bool (decide (turnL xs = ys))) rfl rfl (by kernel_rfl) (by kernel_rfl) (by kernel_rfl) (fun _ _ _ h => h) (Or.inl ⟨by rfl, fun W _ => rfl⟩) hHeld ?_; simp only [List.set_cons_zero, List.set_cons_succ])
      (refine hTake 5 5 (v := .int .i64 0) rfl rfl (by kernel_rfl) (by kernel_rfl) (by kernel_rfl) (fun _ _ _ h => h) (Or.inl ⟨by rfl, fun W _ => rfl⟩) hHeld ?_; simp only [List.set_cons_zero, List.set_cons_succ])
      refine wpAnyH_done (by kernel_rfl) ?_ _
      go_wp2_with (fail)
      go_ret2
      exact ⟨ret_bn (by rw [hD.out, h1, h2]; rfl) rfl, hHeld.1⟩
end Go.Proofs.Ytlgpelcnhdalpaa
