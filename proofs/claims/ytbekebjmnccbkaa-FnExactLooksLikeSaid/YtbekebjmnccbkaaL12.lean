/- Walks: the law of LooksLike. -/
import Derived.Test.YtbekebjmnccbkaaG18
set_option linter.unusedVariables false
namespace Go.Proofs.Ytbekebjmnccbkaa
open Go.RowKit
set_option maxRecDepth 100000 in
set_option maxHeartbeats 2000000 in
theorem walk_FnExactLooksLike (xs : List Int) (hx : xs.length = 24) (rx : ∀ x ∈ xs, 0 ≤ x ∧ x ≤ 255) (ys : List Int) (hy : ys.length = 24) (ry : ∀ x ∈ ys, 0 ≤ x ∧ x ≤ 255) (bt : Bool) (w : World) :
    Calls Try.prog 12 #[fl xs, fl ys, .bool bt] w fun e w' => e = .returned (.bool true) ∧ Below w.heap.size w w' := by
  unfold fl
  have S0 := start2 w (u8s xs) (u8s ys) 22 22
  have hi1 : (Try.prog.info? 22).map (·.size) = some (u8s xs).length := by rw [u8s_length, hx]; exact info_fl'
  have hi2 : (Try.prog.info? 22).map (·.size) = some (u8s ys).length := by rw [u8s_length, hy]; exact info_fl'
  go_enter Try.func12, Try.ntmps12
  unfold fl at *
  go_wp2_with (fail)
  refine wp_region_held_drew (S := (fun W => Below w.heap.size w W ∧ W.rangeAt w.heap.size 0 (u8s xs) ∧ W.rangeAt (w.heap.size + 1) 0 (u8s ys))) (by kernel_rfl) (drew2 S0) (fun hHeld => ?_)
  (refine hTake 0 12 rfl rfl (by kernel_rfl) (by kernel_rfl) (by kernel_rfl) (fun _ _ _ h => h) (yieldsIf_load_mid (by rfl) _ _ rfl _ _ rfl (u8s xs) _ (fun W h => h.2.1) Try.underlying22 rfl hi1) hHeld ?_; simp only [List.set_cons_zero, List.set_cons_succ])
  (refine hTake 2 14 rfl rfl (by kernel_rfl) (by kernel_rfl) (by kernel_rfl) (fun _ _ _ h => h) (yieldsIf_load_mid (by rfl) _ _ rfl _ _ rfl (u8s ys) _ (fun W h => h.2.2) Try.underlying22 rfl hi2) hHeld ?_; simp only [List.set_cons_zero, List.set_cons_succ])
  (refine hTake 4 16 (v := .bool bt) rfl rfl (by kernel_rfl) (by kernel_rfl) (by kernel_rfl) (fun _ _ _ h => h) (Or.inl ⟨by rfl, fun W _ => rfl⟩) hHeld ?_; simp only [List.set_cons_zero, List.set_cons_succ])
  (refine hCall 1 13 19 rfl rfl (by kernel_rfl) (args := #[.agg (u8s xs).toArray]) (by rfl) (by go_simp) _ (toFlag_any xs hx _) (fun wq hb => ⟨keep2 hHeld hb, ?_⟩); simp only [List.set_cons_zero, List.set_cons_succ]; replace hHeld := keep2 hHeld hb; clear hb)
  (refine hCall 3 15 19 rfl rfl (by kernel_rfl) (args := #[.agg (u8s ys).toArray]) (by rfl) (by go_simp) _ (toFlag_any ys hy _) (fun wq hb => ⟨keep2 hHeld hb, ?_⟩); simp only [List.set_cons_zero, List.set_cons_succ]; replace hHeld := keep2 hHeld hb; clear hb)
  (refine hCall 5 17 38 rfl rfl (by kernel_rfl) (args := #[fl xs, fl ys, .bool bt]) (by rfl) (by go_simp) _ (sLooksLike_any xs ys hx hy rx ry bt _) (fun wq hb => ⟨keep2 hHeld hb, ?_⟩); simp only [List.set_cons_zero, List.set_cons_succ]; replace hHeld := keep2 hHeld hb; clear hb)
  (refine hTake 6 11 (v := .tuple #[.bool (looksB xs ys bt), .int .i64 (codeV (vf xs && vf ys))]) rfl rfl (by kernel_rfl) (by kernel_rfl) (by kernel_rfl) (fun _ _ _ h => h) (Or.inl ⟨by rfl, fun W _ => rfl⟩) hHeld ?_; simp only [List.set_cons_zero, List.set_cons_succ])
  (refine hTake 7 18 (v := .bool (looksB xs ys bt)) rfl rfl (by kernel_rfl) (by kernel_rfl) (by kernel_rfl) (fun _ _ _ h => h) (Or.inl ⟨by rfl, fun W _ => rfl⟩) hHeld ?_; simp only [List.set_cons_zero, List.set_cons_succ])
  (refine hTake 8 19 (v := .int .i64 (codeV (vf xs && vf ys))) rfl rfl (by kernel_rfl) (by kernel_rfl) (by kernel_rfl) (fun _ _ _ h => h) (Or.inl ⟨by rfl, fun W _ => rfl⟩) hHeld ?_; simp only [List.set_cons_zero, List.set_cons_succ])
  (refine hTake 9 7 (v := .bool (looksB xs ys bt)) rfl rfl (by kernel_rfl) (by kernel_rfl) (by kernel_rfl) (fun _ _ _ h => h) (Or.inl ⟨by rfl, fun W _ => rfl⟩) hHeld ?_; simp only [List.set_cons_zero, List.set_cons_succ])
  (refine hTake 10 8 (v := .int .i64 (codeV (vf xs && vf ys))) rfl rfl (by kernel_rfl) (by kernel_rfl) (by kernel_rfl) (fun _ _ _ h => h) (Or.inl ⟨by rfl, fun W _ => rfl⟩) hHeld ?_; simp only [List.set_cons_zero, List.set_cons_succ])
  refine wpAnyH_done (by kernel_rfl) ?_ _
  go_wp2_with (fail)
  refine wp_region_held_drew (S := (fun W => Below w.heap.size w W ∧ W.rangeAt w.heap.size 0 (u8s xs) ∧ W.rangeAt (w.heap.size + 1) 0 (u8s ys))) (by kernel_rfl) (drew2 hHeld) (fun hHeld => ?_)
  (refine hTake 0 21 rfl rfl (by kernel_rfl) (by kernel_rfl) (by kernel_rfl) (fun _ _ _ h => h) (yieldsIf_load_mid (by rfl) _ _ rfl _ _ rfl (u8s xs) _ (fun W h => h.2.1) Try.underlying22 rfl hi1) hHeld ?_; simp only [List.set_cons_zero, List.set_cons_succ])
  (refine hTake 2 23 rfl rfl (by kernel_rfl) (by kernel_rfl) (by kernel_rfl) (fun _ _ _ h => h) (yieldsIf_load_mid (by rfl) _ _ rfl _ _ rfl (u8s ys) _ (fun W h => h.2.2) Try.underlying22 rfl hi2) hHeld ?_; simp only [List.set_cons_zero, List.set_cons_succ])
  (refine hTake 4 25 (v := .bool bt) rfl rfl (by kernel_rfl) (by kernel_rfl) (by kernel_rfl) (fun _ _ _ h => h) (Or.inl ⟨by rfl, fun W _ => rfl⟩) hHeld ?_; simp only [List.set_cons_zero, List.set_cons_succ])
  (refine hCall 1 22 19 rfl rfl (by kernel_rfl) (args := #[.agg (u8s xs).toArray]) (by rfl) (by go_simp) _ (toFlag_any xs hx _) (fun wq hb => ⟨keep2 hHeld hb, ?_⟩); simp only [List.set_cons_zero, List.set_cons_succ]; replace hHeld := keep2 hHeld hb; clear hb)
  (refine hCall 3 24 19 rfl rfl (by kernel_rfl) (args := #[.agg (u8s ys).toArray]) (by rfl) (by go_simp) _ (toFlag_any ys hy _) (fun wq hb => ⟨keep2 hHeld hb, ?_⟩); simp only [List.set_cons_zero, List.set_cons_succ]; replace hHeld := keep2 hHeld hb; clear hb)
  (refine hCall 5 26 39 rfl rfl (by kernel_rfl) (args := #[fl xs, fl ys, .bool bt]) (by rfl) (by go_simp) _ (LooksLike_any xs ys hx hy rx ry bt _) (fun wq hb => ⟨keep2 hHeld hb, ?_⟩); simp only [List.set_cons_zero, List.set_cons_succ]; replace hHeld := keep2 hHeld hb; clear hb)
  (refine hTake 6 20 (v := .tuple #[.bool (looksB xs ys bt), .int .i64 (codeV (vf xs && vf ys))]) rfl rfl (by kernel_rfl) (by kernel_rfl) (by kernel_rfl) (fun _ _ _ h => h) (Or.inl ⟨by rfl, fun W _ => rfl⟩) hHeld ?_; simp only [List.set_cons_zero, List.set_cons_succ])
  (refine hTake 7 27 (v := .bool (looksB xs ys bt)) rfl rfl (by kernel_rfl) (by kernel_rfl) (by kernel_rfl) (fun _ _ _ h => h) (Or.inl ⟨by rfl, fun W _ => rfl⟩) hHeld ?_; simp only [List.set_cons_zero, List.set_cons_succ])
  (refine hTake 8 28 (v := .int .i64 (codeV (vf xs && vf ys))) rfl rfl (by kernel_rfl) (by kernel_rfl) (by kernel_rfl) (fun _ _ _ h => h) (Or.inl ⟨by rfl, fun W _ => rfl⟩) hHeld ?_; simp only [List.set_cons_zero, List.set_cons_succ])
  (refine hTake 9 9 (v := .bool (looksB xs ys bt)) rfl rfl (by kernel_rfl) (by kernel_rfl) (by kernel_rfl) (fun _ _ _ h => h) (Or.inl ⟨by rfl, fun W _ => rfl⟩) hHeld ?_; simp only [List.set_cons_zero, List.set_cons_succ])
  (refine hTake 10 10 (v := .int .i64 (codeV (vf xs && vf ys))) rfl rfl (by kernel_rfl) (by kernel_rfl) (by kernel_rfl) (fun _ _ _ h => h) (Or.inl ⟨by rfl, fun W _ => rfl⟩) hHeld ?_; simp only [List.set_cons_zero, List.set_cons_succ])
  refine wpAnyH_done (by kernel_rfl) ?_ _
  go_wp2_with (fail)
  go_ret
  exact ⟨rfl, hHeld.1⟩
end Go.Proofs.Ytbekebjmnccbkaa
