/- Walks: the law of BlurDistance. -/
import Derived.Test.YtbekebjmnccbkaaG16
import Derived.Test.YtbekebjmnccbkaaLw
set_option linter.unusedVariables false
namespace Go.Proofs.Ytbekebjmnccbkaa
open Go.RowKit
set_option maxRecDepth 100000 in
set_option maxHeartbeats 2000000 in
theorem walk_FnExactBlurDistance (xs : List Int) (hx : xs.length = 24) (rx : ∀ x ∈ xs, 0 ≤ x ∧ x ≤ 255) (ys : List Int) (hy : ys.length = 24) (ry : ∀ x ∈ ys, 0 ≤ x ∧ x ≤ 255) (w : World) :
    Calls Try.prog 11 #[fl xs, fl ys] w fun e w' => e = .returned (.bool true) ∧ Below w.heap.size w w' := by
  unfold fl
  have S0 := start2 w (u8s xs) (u8s ys) 22 22
  have hi1 : (Try.prog.info? 22).map (·.size) = some (u8s xs).length := by rw [u8s_length, hx]; exact info_fl'
  have hi2 : (Try.prog.info? 22).map (·.size) = some (u8s ys).length := by rw [u8s_length, hy]; exact info_fl'
  go_enter Try.func11, Try.ntmps11
  unfold fl at *
  go_wp2_with (fail)
  refine wp_region_held_drew (S := (fun W => Below w.heap.size w W ∧ W.rangeAt w.heap.size 0 (u8s xs) ∧ W.rangeAt (w.heap.size + 1) 0 (u8s ys))) (by kernel_rfl) (drew2 S0) (fun hHeld => ?_)
  (refine hTake 0 10 rfl rfl (by kernel_rfl) (by kernel_rfl) (by kernel_rfl) (fun _ _ _ h => h) (yieldsIf_load_mid (by rfl) _ _ rfl _ _ rfl (u8s xs) _ (fun W h => h.2.1) Try.underlying22 rfl hi1) hHeld ?_; simp only [List.set_cons_zero, List.set_cons_succ])
  (refine hTake 2 12 rfl rfl (by kernel_rfl) (by kernel_rfl) (by kernel_rfl) (fun _ _ _ h => h) (yieldsIf_load_mid (by rfl) _ _ rfl _ _ rfl (u8s ys) _ (fun W h => h.2.2) Try.underlying22 rfl hi2) hHeld ?_; simp only [List.set_cons_zero, List.set_cons_succ])
  (refine hCall 1 11 19 rfl rfl (by kernel_rfl) (args := #[.agg (u8s xs).toArray]) (by rfl) (by go_simp) _ (toFlag_any xs hx _) (fun wq hb => ⟨keep2 hHeld hb, ?_⟩); simp only [List.set_cons_zero, List.set_cons_succ]; replace hHeld := keep2 hHeld hb; clear hb)
  (refine hCall 3 13 19 rfl rfl (by kernel_rfl) (args := #[.agg (u8s ys).toArray]) (by rfl) (by go_simp) _ (toFlag_any ys hy _) (fun wq hb => ⟨keep2 hHeld hb, ?_⟩); simp only [List.set_cons_zero, List.set_cons_succ]; replace hHeld := keep2 hHeld hb; clear hb)
  (refine hCall 4 14 36 rfl rfl (by kernel_rfl) (args := #[fl xs, fl ys]) (by rfl) (by go_simp) _ (sBlurDistance_any xs ys hx hy rx ry _) (fun wq hb => ⟨keep2 hHeld hb, ?_⟩); simp only [List.set_cons_zero, List.set_cons_succ]; replace hHeld := keep2 hHeld hb; clear hb)
  (refine hTake 5 9 (v := .tuple #[.int .i64 (farN xs ys), .int .i64 (codeV (vf xs && vf ys))]) rfl rfl (by kernel_rfl) (by kernel_rfl) (by kernel_rfl) (fun _ _ _ h => h) (Or.inl ⟨by rfl, fun W _ => rfl⟩) hHeld ?_; simp only [List.set_cons_zero, List.set_cons_succ])
  (refine hTake 6 15 (v := .int .i64 (farN xs ys)) rfl rfl (by kernel_rfl) (by kernel_rfl) (by kernel_rfl) (fun _ _ _ h => h) (Or.inl ⟨by rfl, fun W _ => rfl⟩) hHeld ?_; simp only [List.set_cons_zero, List.set_cons_succ])
  (refine hTake 7 16 (v := .int .i64 (codeV (vf xs && vf ys))) rfl rfl (by kernel_rfl) (by kernel_rfl) (by kernel_rfl) (fun _ _ _ h => h) (Or.inl ⟨by rfl, fun W _ => rfl⟩) hHeld ?_; simp only [List.set_cons_zero, List.set_cons_succ])
  (refine hTake 8 5 (v := .int .i64 (farN xs ys)) rfl rfl (by kernel_rfl) (by kernel_rfl) (by kernel_rfl) (fun _ _ _ h => h) (Or.inl ⟨by rfl, fun W _ => rfl⟩) hHeld ?_; simp only [List.set_cons_zero, List.set_cons_succ])
  (refine hTake 9 6 (v := .int .i64 (codeV (vf xs && vf ys))) rfl rfl (by kernel_rfl) (by kernel_rfl) (by kernel_rfl) (fun _ _ _ h => h) (Or.inl ⟨by rfl, fun W _ => rfl⟩) hHeld ?_; simp only [List.set_cons_zero, List.set_cons_succ])
  refine wpAnyH_done (by kernel_rfl) ?_ _
  go_wp2_with (fail)
  refine wp_region_held_drew (S := (fun W => Below w.heap.size w W ∧ W.rangeAt w.heap.size 0 (u8s xs) ∧ W.rangeAt (w.heap.size + 1) 0 (u8s ys))) (by kernel_rfl) (drew2 hHeld) (fun hHeld => ?_)
  (refine hTake 0 18 rfl rfl (by kernel_rfl) (by kernel_rfl) (by kernel_rfl) (fun _ _ _ h => h) (yieldsIf_load_mid (by rfl) _ _ rfl _ _ rfl (u8s xs) _ (fun W h => h.2.1) Try.underlying22 rfl hi1) hHeld ?_; simp only [List.set_cons_zero, List.set_cons_succ])
  (refine hTake 2 20 rfl rfl (by kernel_rfl) (by kernel_rfl) (by kernel_rfl) (fun _ _ _ h => h) (yieldsIf_load_mid (by rfl) _ _ rfl _ _ rfl (u8s ys) _ (fun W h => h.2.2) Try.underlying22 rfl hi2) hHeld ?_; simp only [List.set_cons_zero, List.set_cons_succ])
  (refine hCall 1 19 19 rfl rfl (by kernel_rfl) (args := #[.agg (u8s xs).toArray]) (by rfl) (by go_simp) _ (toFlag_any xs hx _) (fun wq hb => ⟨keep2 hHeld hb, ?_⟩); simp only [List.set_cons_zero, List.set_cons_succ]; replace hHeld := keep2 hHeld hb; clear hb)
  (refine hCall 3 21 19 rfl rfl (by kernel_rfl) (args := #[.agg (u8s ys).toArray]) (by rfl) (by go_simp) _ (toFlag_any ys hy _) (fun wq hb => ⟨keep2 hHeld hb, ?_⟩); simp only [List.set_cons_zero, List.set_cons_succ]; replace hHeld := keep2 hHeld hb; clear hb)
  (refine hCall 4 22 37 rfl rfl (by kernel_rfl) (args := #[fl xs, fl ys]) (by rfl) (by go_simp) _ (BlurDistance_any xs ys hx hy rx ry _) (fun wq hb => ⟨keep2 hHeld hb, ?_⟩); simp only [List.set_cons_zero, List.set_cons_succ]; replace hHeld := keep2 hHeld hb; clear hb)
  (refine hTake 5 17 (v := .tuple #[.int .i64 (farN xs ys), .int .i64 (codeV (vf xs && vf ys))]) rfl rfl (by kernel_rfl) (by kernel_rfl) (by kernel_rfl) (fun _ _ _ h => h) (Or.inl ⟨by rfl, fun W _ => rfl⟩) hHeld ?_; simp only [List.set_cons_zero, List.set_cons_succ])
  (refine hTake 6 23 (v := .int .i64 (farN xs ys)) rfl rfl (by kernel_rfl) (by kernel_rfl) (by kernel_rfl) (fun _ _ _ h => h) (Or.inl ⟨by rfl, fun W _ => rfl⟩) hHeld ?_; simp only [List.set_cons_zero, List.set_cons_succ])
  (refine hTake 7 24 (v := .int .i64 (codeV (vf xs && vf ys))) rfl rfl (by kernel_rfl) (by kernel_rfl) (by kernel_rfl) (fun _ _ _ h => h) (Or.inl ⟨by rfl, fun W _ => rfl⟩) hHeld ?_; simp only [List.set_cons_zero, List.set_cons_succ])
  (refine hTake 8 7 (v := .int .i64 (farN xs ys)) rfl rfl (by kernel_rfl) (by kernel_rfl) (by kernel_rfl) (fun _ _ _ h => h) (Or.inl ⟨by rfl, fun W _ => rfl⟩) hHeld ?_; simp only [List.set_cons_zero, List.set_cons_succ])
  (refine hTake 9 8 (v := .int .i64 (codeV (vf xs && vf ys))) rfl rfl (by kernel_rfl) (by kernel_rfl) (by kernel_rfl) (fun _ _ _ h => h) (Or.inl ⟨by rfl, fun W _ => rfl⟩) hHeld ?_; simp only [List.set_cons_zero, List.set_cons_succ])
  refine wpAnyH_done (by kernel_rfl) ?_ _
  go_wp2_with (fail)
  go_ret
  exact ⟨rfl, hHeld.1⟩
end Go.Proofs.Ytbekebjmnccbkaa
