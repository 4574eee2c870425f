/- Contracts and plain facts, several texts in one. -/
import Derived.Test.YtjppoejkfpeicaaDoorQP6
/- Contracts: MirrorFlag: both sides. -/
set_option linter.unusedVariables false
namespace Go.Proofs.YtjppoejkfpeicaaDoor
open Go.RowKit
set_option maxHeartbeats 800000 in
theorem sMirrorFlag_any (xs : List Int) (hx : xs.length = 24) (w : World) :
    Calls Tryd.prog 12 #[fl xs] w fun e w' => e = .returned (.tuple #[fl (okF (vf xs) (mirrorL xs)), .int .i64 (codeV (vf xs))]) ∧ Below w.heap.size w w' := by
  unfold fl
  have B0 : Blk ((w.alloc (.cells (u8s xs).toArray 23)).alloc (.cells #[.int .u8 0, .int .u8 0, .int .u8 0, .int .u8 0, .int .u8 0, .int .u8 0, .int .u8 0, .int .u8 0, .int .u8 0, .int .u8 0, .int .u8 0, .int .u8 0, .int .u8 0, .int .u8 0, .int .u8 0, .int .u8 0, .int .u8 0, .int .u8 0, .int .u8 0, .int .u8 0, .int .u8 0, .int .u8 0, .int .u8 0, .int .u8 0] 23)) w.heap.size (u8s xs) 23 := (Blk.new _ _ _).alloc _
  have B1 : Blk ((w.alloc (.cells (u8s xs).toArray 23)).alloc (.cells #[.int .u8 0, .int .u8 0, .int .u8 0, .int .u8 0, .int .u8 0, .int .u8 0, .int .u8 0, .int .u8 0, .int .u8 0, .int .u8 0, .int .u8 0, .int .u8 0, .int .u8 0, .int .u8 0, .int .u8 0, .int .u8 0, .int .u8 0, .int .u8 0, .int .u8 0, .int .u8 0, .int .u8 0, .int .u8 0, .int .u8 0, .int .u8 0] 23)) (w.heap.size + 1) (u8s zero24) 23 := Blk.mk _ (u8s zero24) _ (by simp)
  have b0 : Below w.heap.size w ((w.alloc (.cells (u8s xs).toArray 23)).alloc (.cells #[.int .u8 0, .int .u8 0, .int .u8 0, .int .u8 0, .int .u8 0, .int .u8 0, .int .u8 0, .int .u8 0, .int .u8 0, .int .u8 0, .int .u8 0, .int .u8 0, .int .u8 0, .int .u8 0, .int .u8 0, .int .u8 0, .int .u8 0, .int .u8 0, .int .u8 0, .int .u8 0, .int .u8 0, .int .u8 0, .int .u8 0, .int .u8 0] 23)) := bl_new (bl_new (Below.refl _ _) _) _
  have hl : (mirrorL xs).length = 24 := mirrorL_length xs
  cases h1 : vf xs
  · go_enter Tryd.func12, Tryd.ntmps12
    go_wp2_with (first | (go_at_call 35; refine (l01Ok_any xs hx _ 0 _ B0.range).mono ?_; rintro e w' ⟨rfl, rfl⟩) | (refine store_blk rfl 23 _ _ rfl _ rfl (ds := u8s zero24) rfl B1 info_fl (by rfl) (by rfl) (u8s_one _) ?_))
    refine ret_blk_tmp rfl _ rfl (B1.setRow _) Tryd.underlying23 rfl info_fl (by rfl) rfl ⟨rfl, bl_setRow b0 (by omega) _⟩
  · go_enter Tryd.func12, Tryd.ntmps12
    go_wp2_with (go_at_call 35; refine (l01Ok_any xs hx _ 0 _ B0.range).mono ?_; rintro e w' ⟨rfl, rfl⟩)
    refine (l01Mirror_any xs hx _ 0 _ B0.range).mono ?_; rintro e w1 ⟨rfl, hb1⟩
    have h2 := B1.kept hb1
    go_wp2_with (refine store_blk rfl 23 _ _ rfl _ rfl rfl h2 info_fl (by rw [u8s_length]; exact hl) (by rw [u8s_length]; exact zero24_length) (u8s_one _) ?_)
    refine ret_blk_tmp rfl _ rfl (h2.setRow _) Tryd.underlying23 rfl info_fl (by rw [u8s_length]; exact hl) rfl ⟨rfl, bl_setRow (bl_call b0 hb1) (by omega) _⟩

set_option maxHeartbeats 800000 in
theorem MirrorFlag_any (xs : List Int) (hx : xs.length = 24) (rx : Bytes xs) (w : World) :
    Calls Tryd.prog 11 #[fl xs] w fun e w' => e = .returned (.tuple #[fl (okF (vf xs) (mirrorL xs)), .int .i64 (codeV (vf xs))]) ∧ Below w.heap.size w w' := by
  unfold fl
  have B0 : Blk ((w.alloc (.cells (u8s xs).toArray 23)).alloc (.cells #[.int .u8 0, .int .u8 0, .int .u8 0, .int .u8 0, .int .u8 0, .int .u8 0, .int .u8 0, .int .u8 0, .int .u8 0, .int .u8 0, .int .u8 0, .int .u8 0, .int .u8 0, .int .u8 0, .int .u8 0, .int .u8 0, .int .u8 0, .int .u8 0, .int .u8 0, .int .u8 0, .int .u8 0, .int .u8 0, .int .u8 0, .int .u8 0] 23)) w.heap.size (u8s xs) 23 := (Blk.new _ _ _).alloc _
  have B1 : Blk ((w.alloc (.cells (u8s xs).toArray 23)).alloc (.cells #[.int .u8 0, .int .u8 0, .int .u8 0, .int .u8 0, .int .u8 0, .int .u8 0, .int .u8 0, .int .u8 0, .int .u8 0, .int .u8 0, .int .u8 0, .int .u8 0, .int .u8 0, .int .u8 0, .int .u8 0, .int .u8 0, .int .u8 0, .int .u8 0, .int .u8 0, .int .u8 0, .int .u8 0, .int .u8 0, .int .u8 0, .int .u8 0] 23)) (w.heap.size + 1) (u8s zero24) 23 := Blk.mk _ (u8s zero24) _ (by simp)
  have b0 : Below w.heap.size w ((w.alloc (.cells (u8s xs).toArray 23)).alloc (.cells #[.int .u8 0, .int .u8 0, .int .u8 0, .int .u8 0, .int .u8 0, .int .u8 0, .int .u8 0, .int .u8 0, .int .u8 0, .int .u8 0, .int .u8 0, .int .u8 0, .int .u8 0, .int .u8 0, .int .u8 0, .int .u8 0, .int .u8 0, .int .u8 0, .int .u8 0, .int .u8 0, .int .u8 0, .int .u8 0, .int .u8 0, .int .u8 0] 23)) := bl_new (bl_new (Below.refl _ _) _) _
  have hl : (mirrorL xs).length = 24 := mirrorL_length xs
  cases h1 : vf xs
  · go_enter Tryd.func11, Tryd.ntmps11
    go_wp2_with (refine load_blk rfl 23 _ rfl _ rfl B0 Tryd.underlying23 rfl info_fl (by rw [u8s_length]; exact hx) ?_)
    refine (ValidFlag_any xs hx _).mono ?_; rintro e w1 ⟨rfl, hb1⟩
    have h2 := B1.kept hb1
    go_wp2_with (refine store_blk rfl 23 _ _ rfl _ rfl (ds := u8s zero24) rfl h2 info_fl (by rfl) (by rfl) (u8s_one _) ?_)
    refine ret_blk_tmp rfl _ rfl (h2.setRow _) Tryd.underlying23 rfl info_fl (by rfl) rfl ⟨rfl, bl_setRow (bl_call b0 hb1) (by omega) _⟩
  · go_enter Tryd.func11, Tryd.ntmps11
    go_wp2_with (refine load_blk rfl 23 _ rfl _ rfl B0 Tryd.underlying23 rfl info_fl (by rw [u8s_length]; exact hx) ?_)
    refine (ValidFlag_any xs hx _).mono ?_; rintro e w1 ⟨rfl, hb1⟩
    have h0 := B0.kept hb1
    go_wp2_with (refine load_blk rfl 23 _ rfl _ rfl h0 Tryd.underlying23 rfl info_fl (by rw [u8s_length]; exact hx) ?_)
    refine (mirrored_any xs hx rx _).mono ?_; rintro e w2 ⟨rfl, hb2⟩
    have h2 := (B1.kept hb1).kept hb2
    go_wp2_with (refine store_blk rfl 23 _ _ rfl _ rfl rfl h2 info_fl (by rw [u8s_length]; exact hl) (by rw [u8s_length]; exact zero24_length) (u8s_one _) ?_)
    refine ret_blk_tmp rfl _ rfl (h2.setRow _) Tryd.underlying23 rfl info_fl (by rw [u8s_length]; exact hl) rfl ⟨rfl, bl_setRow (bl_call (bl_call b0 hb1) hb2) (by omega) _⟩
end Go.Proofs.YtjppoejkfpeicaaDoor

/- Contracts: impl.LooksLike. -/
set_option linter.unusedVariables false
set_option linter.unusedSimpArgs false
namespace Go.Proofs.YtjppoejkfpeicaaDoor
open Go.RowKit

set_option maxRecDepth 100000 in
set_option maxHeartbeats 2000000 in
theorem LooksLike_any (xs ys : List Int) (hx : xs.length = 24) (hy : ys.length = 24) (rx : Bytes xs) (ry : Bytes ys) (bt : Bool) (w : World) :
    Calls Tryd.prog 23 #[fl xs, fl ys, .bool bt] w fun e w' => e = .returned (.tuple #[.bool (looksB xs ys bt), .int .i64 (codeV (vf xs && vf ys))]) ∧ Below w.heap.size w w' := by
  unfold fl
  have hi1 : (Tryd.prog.info? 23).map (·.size) = some (u8s xs).length := by rw [u8s_length, hx]; exact info_fl
  have hi2 : (Tryd.prog.info? 23).map (·.size) = some (u8s ys).length := by rw [u8s_length, hy]; exact info_fl
  have B0 : Blk ((w.alloc (.cells (u8s xs).toArray 23)).alloc (.cells (u8s ys).toArray 23)) w.heap.size (u8s xs) 23 := (Blk.new _ _ _).alloc _
  have B1 : Blk ((w.alloc (.cells (u8s xs).toArray 23)).alloc (.cells (u8s ys).toArray 23)) (w.heap.size + 1) (u8s ys) 23 := Blk.mk _ _ _ (by simp)
  have b0 := bl_new (bl_new (Below.refl _ w) (.cells (u8s xs).toArray 23)) (.cells (u8s ys).toArray 23)
  have hN := As.mk (show looksB xs ys bt = ((vf xs && vf ys) && (farD xs ys == 0 || bt && farD (mirrorL xs) ys == 0)) from rfl)
  cases h1 : vf xs
  · go_enter Tryd.func23, Tryd.ntmps23
    go_wp2_with (refine load_blk rfl 23 _ rfl _ rfl B0 Tryd.underlying23 rfl info_fl (by rw [u8s_length]; exact hx) ?_)
    refine (ValidFlag_any xs hx _).mono ?_; rintro e w1 ⟨rfl, hb1⟩
    go_wp2_with (fail)
    go_ret2
    exact ⟨ret_b2 (by rw [hN.out, h1]; rfl) rfl, bl_call b0 hb1⟩
  · cases h2 : vf ys
    · go_enter Tryd.func23, Tryd.ntmps23
      go_wp2_with (refine load_blk rfl 23 _ rfl _ rfl B0 Tryd.underlying23 rfl info_fl (by rw [u8s_length]; exact hx) ?_)
      refine (ValidFlag_any xs hx _).mono ?_; rintro e w1 ⟨rfl, hb1⟩
      have B1' := B1.kept hb1
      go_wp2_with (refine load_blk rfl 23 _ rfl _ rfl B1' Tryd.underlying23 rfl info_fl (by rw [u8s_length]; exact hy) ?_)
      refine (ValidFlag_any ys hy _).mono ?_; rintro e w2 ⟨rfl, hb2⟩
      go_wp2_with (fail)
      go_ret2
      exact ⟨ret_b2 (by rw [hN.out, h1, h2]; rfl) rfl, bl_call (bl_call b0 hb1) hb2⟩
    · have hm := mirrorL_length xs
      have k1 := fun W => afar_any xs ys hx hy rx ry h1 h2 W
      have k2 := fun W => afar_any (mirrorL xs) ys hm hy (bytes_mirror rx) ry (vf_mirror hx h1) h2 W
      rw [show diffs (blurL xs) (blurL ys) 6 = farD xs ys from rfl] at k1
      rw [show diffs (blurL (mirrorL xs)) (blurL ys) 6 = farD (mirrorL xs) ys from rfl] at k2
      have hN2 : looksB xs ys bt = (farD xs ys == 0 || bt && farD (mirrorL xs) ys == 0) := by rw [hN.out, h1, h2]; rfl
      rw [hN2]
      clear hN hN2
      generalize farD xs ys = d1 at *
      generalize farD (mirrorL xs) ys = d2 at *
      cases hd1 : (d1 == 0)
      · cases bt
        · go_enter Tryd.func23, Tryd.ntmps23
          go_wp2_with (refine load_blk rfl 23 _ rfl _ rfl B0 Tryd.underlying23 rfl info_fl (by rw [u8s_length]; exact hx) ?_)
          refine (ValidFlag_any xs hx _).mono ?_; rintro e w1 ⟨rfl, hb1⟩
          have B1' := B1.kept hb1
          go_wp2_with (refine load_blk rfl 23 _ rfl _ rfl B1' Tryd.underlying23 rfl info_fl (by rw [u8s_length]; exact hy) ?_)
          refine (ValidFlag_any ys hy _).mono ?_; rintro e w2 ⟨rfl, hb2⟩
          have S0 : Below w.heap.size w w2 ∧ w2.rangeAt w.heap.size 0 (u8s xs) ∧ w2.rangeAt (w.heap.size + 1) 0 (u8s ys) := ⟨bl_call (bl_call b0 hb1) hb2, ((B0.kept hb1).kept hb2).range, (B1'.kept hb2).range⟩
          go_wp2_with (fail)
          unfold fl at *
          refine wp_region_held_drew (S := (fun W => Below w.heap.size w W ∧ W.rangeAt w.heap.size 0 (u8s xs) ∧ W.rangeAt (w.heap.size + 1) 0 (u8s ys))) (by kernel_rfl) (drew2 S0) (fun hHeld => ?_)
          (refine hTake 0 16 rfl rfl (by kernel_rfl) (by kernel_rfl) (by kernel_rfl) (fun _ _ _ h => h) (yieldsIf_load_mid (by rfl) _ _ rfl _ _ rfl (u8s xs) _ (fun W h => h.2.1) Tryd.underlying23 rfl hi1) hHeld ?_; simp only [List.set_cons_zero, List.set_cons_succ])
          (refine hTake 1 17 rfl rfl (by kernel_rfl) (by kernel_rfl) (by kernel_rfl) (fun _ _ _ h => h) (yieldsIf_load_mid (by rfl) _ _ rfl _ _ rfl (u8s ys) _ (fun W h => h.2.2) Tryd.underlying23 rfl hi2) hHeld ?_; simp only [List.set_cons_zero, List.set_cons_succ])
          (refine hCall 2 18 45 rfl rfl (by kernel_rfl) (args := #[.agg (u8s xs).toArray, .agg (u8s ys).toArray]) (by rfl) (by go_simp) (.int .i64 d1) (k1 _) (fun wq hb => ⟨keep2 hHeld hb, ?_⟩); simp only [List.set_cons_zero, List.set_cons_succ]; replace hHeld := keep2 hHeld hb; clear hb)
          (refine hTake 3 19 (v := .bool false) rfl rfl (by kernel_rfl) (by kernel_rfl) (by kernel_rfl) (fun _ _ _ h => h) (Or.inl ⟨by rfl, fun W _ => by go_simp⟩) hHeld ?_; simp only [List.set_cons_zero, List.set_cons_succ])
          (refine hTake 4 20 (v := .bool false) rfl rfl (by kernel_rfl) (by kernel_rfl) (by kernel_rfl) (fun _ _ _ h => h) (Or.inl ⟨by rfl, fun W _ => rfl⟩) hHeld ?_; simp only [List.set_cons_zero, List.set_cons_succ])
          (refine hTake 5 21 (v := .bool false) rfl rfl (by kernel_rfl) (by kernel_rfl) (by kernel_rfl) (fun _ _ _ h => h) (Or.inl ⟨by rfl, fun W _ => rfl⟩) hHeld ?_; simp only [List.set_cons_zero, List.set_cons_succ])
          (refine hTake 6 22 (v := .bool false) rfl rfl (by kernel_rfl) (by kernel_rfl) (by kernel_rfl) (fun _ _ _ h => h) (Or.inl ⟨by rfl, fun W _ => rfl⟩) hHeld ?_; simp only [List.set_cons_zero, List.set_cons_succ])
          (refine hTake 7 23 (v := undef) rfl rfl (by kernel_rfl) (by kernel_rfl) (by kernel_rfl) (fun _ _ _ h => h) (Or.inr ⟨by rfl, rfl⟩) hHeld ?_; simp only [List.set_cons_zero, List.set_cons_succ])
          (refine hTake 9 25 (v := undef) rfl rfl (by kernel_rfl) (by kernel_rfl) (by kernel_rfl) (fun _ _ _ h => h) (Or.inr ⟨by rfl, rfl⟩) hHeld ?_; simp only [List.set_cons_zero, List.set_cons_succ])
          (refine hSkip 8 24 rfl rfl (by kernel_rfl) (by rfl) hHeld ?_; simp only [List.set_cons_zero, List.set_cons_succ])
          (refine hSkip 10 26 rfl rfl (by kernel_rfl) (by rfl) hHeld ?_; simp only [List.set_cons_zero, List.set_cons_succ])
          (refine hTake 11 27 (v := undef) rfl rfl (by kernel_rfl) (by kernel_rfl) (by kernel_rfl) (fun _ _ _ h => h) (Or.inr ⟨by rfl, rfl⟩) hHeld ?_; simp only [List.set_cons_zero, List.set_cons_succ])
          (refine hTake 12 28 (v := .bool false) rfl rfl (by kernel_rfl) (by kernel_rfl) (by kernel_rfl) (fun _ _ _ h => h) (Or.inl ⟨by rfl, fun W _ => rfl⟩) hHeld ?_; simp only [List.set_cons_zero, List.set_cons_succ])
          (refine hTake 13 29 (v := .bool false) rfl rfl (by kernel_rfl) (by kernel_rfl) (by kernel_rfl) (fun _ _ _ h => h) (Or.inl ⟨by rfl, fun W _ => rfl⟩) hHeld ?_; simp only [List.set_cons_zero, List.set_cons_succ])
          (refine hTake 14 6 (v := .bool false) rfl rfl (by kernel_rfl) (by kernel_rfl) (by kernel_rfl) (fun _ _ _ h => h) (Or.inl ⟨by rfl, fun W _ => rfl⟩) hHeld ?_; simp only [List.set_cons_zero, List.set_cons_succ])
          (refine hTake 15 7 (v := .int .i64 0) rfl rfl (by kernel_rfl) (by kernel_rfl) (by kernel_rfl) (fun _ _ _ h => h) (Or.inl ⟨by rfl, fun W _ => rfl⟩) hHeld ?_; simp only [List.set_cons_zero, List.set_cons_succ])
          refine wpAnyH_done (by kernel_rfl) ?_ _
          go_wp2_with (fail)
          go_ret2
          exact ⟨rfl, hHeld.1⟩
        · go_enter Tryd.func23, Tryd.ntmps23
          go_wp2_with (refine load_blk rfl 23 _ rfl _ rfl B0 Tryd.underlying23 rfl info_fl (by rw [u8s_length]; exact hx) ?_)
          refine (ValidFlag_any xs hx _).mono ?_; rintro e w1 ⟨rfl, hb1⟩
          have B1' := B1.kept hb1
          go_wp2_with (refine load_blk rfl 23 _ rfl _ rfl B1' Tryd.underlying23 rfl info_fl (by rw [u8s_length]; exact hy) ?_)
          refine (ValidFlag_any ys hy _).mono ?_; rintro e w2 ⟨rfl, hb2⟩
          have S0 : Below w.heap.size w w2 ∧ w2.rangeAt w.heap.size 0 (u8s xs) ∧ w2.rangeAt (w.heap.size + 1) 0 (u8s ys) := ⟨bl_call (bl_call b0 hb1) hb2, ((B0.kept hb1).kept hb2).range, (B1'.kept hb2).range⟩
          go_wp2_with (fail)
          unfold fl at *
          refine wp_region_held_drew (S := (fun W => Below w.heap.size w W ∧ W.rangeAt w.heap.size 0 (u8s xs) ∧ W.rangeAt (w.heap.size + 1) 0 (u8s ys))) (by kernel_rfl) (drew2 S0) (fun hHeld => ?_)
          (refine hTake 0 16 rfl rfl (by kernel_rfl) (by kernel_rfl) (by kernel_rfl) (fun _ _ _ h => h) (yieldsIf_load_mid (by rfl) _ _ rfl _ _ rfl (u8s xs) _ (fun W h => h.2.1) Tryd.underlying23 rfl hi1) hHeld ?_; simp only [List.set_cons_zero, List.set_cons_succ])
          (refine hTake 1 17 rfl rfl (by kernel_rfl) (by kernel_rfl) (by kernel_rfl) (fun _ _ _ h => h) (yieldsIf_load_mid (by rfl) _ _ rfl _ _ rfl (u8s ys) _ (fun W h => h.2.2) Tryd.underlying23 rfl hi2) hHeld ?_; simp only [List.set_cons_zero, List.set_cons_succ])
          (refine hCall 2 18 45 rfl rfl (by kernel_rfl) (args := #[.agg (u8s xs).toArray, .agg (u8s ys).toArray]) (by rfl) (by go_simp) (.int .i64 d1) (k1 _) (fun wq hb => ⟨keep2 hHeld hb, ?_⟩); simp only [List.set_cons_zero, List.set_cons_succ]; replace hHeld := keep2 hHeld hb; clear hb)
          (refine hTake 3 19 (v := .bool false) rfl rfl (by kernel_rfl) (by kernel_rfl) (by kernel_rfl) (fun _ _ _ h => h) (Or.inl ⟨by rfl, fun W _ => by go_simp⟩) hHeld ?_; simp only [List.set_cons_zero, List.set_cons_succ])
          (refine hTake 4 20 (v := .bool false) rfl rfl (by kernel_rfl) (by kernel_rfl) (by kernel_rfl) (fun _ _ _ h => h) (Or.inl ⟨by rfl, fun W _ => rfl⟩) hHeld ?_; simp only [List.set_cons_zero, List.set_cons_succ])
          (refine hTake 5 21 (v := .bool true) rfl rfl (by kernel_rfl) (by kernel_rfl) (by kernel_rfl) (fun _ _ _ h => h) (Or.inl ⟨by rfl, fun W _ => rfl⟩) hHeld ?_; simp only [List.set_cons_zero, List.set_cons_succ])
          (refine hTake 6 22 (v := .bool true) rfl rfl (by kernel_rfl) (by kernel_rfl) (by kernel_rfl) (fun _ _ _ h => h) (Or.inl ⟨by rfl, fun W _ => rfl⟩) hHeld ?_; simp only [List.set_cons_zero, List.set_cons_succ])
          (refine hTake 7 23 rfl rfl (by kernel_rfl) (by kernel_rfl) (by kernel_rfl) (fun _ _ _ h => h) (yieldsIf_load_mid (by rfl) _ _ rfl _ _ rfl (u8s xs) _ (fun W h => h.2.1) Tryd.underlying23 rfl hi1) hHeld ?_; simp only [List.set_cons_zero, List.set_cons_succ])
          (refine hTake 9 25 rfl rfl (by kernel_rfl) (by kernel_rfl) (by kernel_rfl) (fun _ _ _ h => h) (yieldsIf_load_mid (by rfl) _ _ rfl _ _ rfl (u8s ys) _ (fun W h => h.2.2) Tryd.underlying23 rfl hi2) hHeld ?_; simp only [List.set_cons_zero, List.set_cons_succ])
          (refine hCall 8 24 34 rfl rfl (by kernel_rfl) (args := #[.agg (u8s xs).toArray]) (by rfl) (by go_simp) (.agg (u8s (mirrorL xs)).toArray) (mirrored_any xs hx rx _) (fun wq hb => ⟨keep2 hHeld hb, ?_⟩); simp only [List.set_cons_zero, List.set_cons_succ]; replace hHeld := keep2 hHeld hb; clear hb)
          (refine hCall 10 26 45 rfl rfl (by kernel_rfl) (args := #[.agg (u8s (mirrorL xs)).toArray, .agg (u8s ys).toArray]) (by rfl) (by go_simp) (.int .i64 d2) (k2 _) (fun wq hb => ⟨keep2 hHeld hb, ?_⟩); simp only [List.set_cons_zero, List.set_cons_succ]; replace hHeld := keep2 hHeld hb; clear hb)
          (refine hTake 11 27 (v := .bool (d2 == 0)) rfl rfl (by kernel_rfl) (by kernel_rfl) (by kernel_rfl) (fun _ _ _ h => h) (Or.inl ⟨by rfl, fun W _ => by go_simp⟩) hHeld ?_; simp only [List.set_cons_zero, List.set_cons_succ])
          (refine hTake 12 28 (v := .bool (d2 == 0)) rfl rfl (by kernel_rfl) (by kernel_rfl) (by kernel_rfl) (fun _ _ _ h => h) (Or.inl ⟨by rfl, fun W _ => rfl⟩) hHeld ?_; simp only [List.set_cons_zero, List.set_cons_succ])
          (refine hTake 13 29 (v := .bool (d2 == 0)) rfl rfl (by kernel_rfl) (by kernel_rfl) (by kernel_rfl) (fun _ _ _ h => h) (Or.inl ⟨by rfl, fun W _ => rfl⟩) hHeld ?_; simp only [List.set_cons_zero, List.set_cons_succ])
          (refine hTake 14 6 (v := .bool (d2 == 0)) rfl rfl (by kernel_rfl) (by kernel_rfl) (by kernel_rfl) (fun _ _ _ h => h) (Or.inl ⟨by rfl, fun W _ => rfl⟩) hHeld ?_; simp only [List.set_cons_zero, List.set_cons_succ])
          (refine hTake 15 7 (v := .int .i64 0) rfl rfl (by kernel_rfl) (by kernel_rfl) (by kernel_rfl) (fun _ _ _ h => h) (Or.inl ⟨by rfl, fun W _ => rfl⟩) hHeld ?_; simp only [List.set_cons_zero, List.set_cons_succ])
          refine wpAnyH_done (by kernel_rfl) ?_ _
          go_wp2_with (fail)
          go_ret2
          exact ⟨rfl, hHeld.1⟩
      · go_enter Tryd.func23, Tryd.ntmps23
        go_wp2_with (refine load_blk rfl 23 _ rfl _ rfl B0 Tryd.underlying23 rfl info_fl (by rw [u8s_length]; exact hx) ?_)
        refine (ValidFlag_any xs hx _).mono ?_; rintro e w1 ⟨rfl, hb1⟩
        have B1' := B1.kept hb1
        go_wp2_with (refine load_blk rfl 23 _ rfl _ rfl B1' Tryd.underlying23 rfl info_fl (by rw [u8s_length]; exact hy) ?_)
        refine (ValidFlag_any ys hy _).mono ?_; rintro e w2 ⟨rfl, hb2⟩
        have S0 : Below w.heap.size w w2 ∧ w2.rangeAt w.heap.size 0 (u8s xs) ∧ w2.rangeAt (w.heap.size + 1) 0 (u8s ys) := ⟨bl_call (bl_call b0 hb1) hb2, ((B0.kept hb1).kept hb2).range, (B1'.kept hb2).range⟩
        go_wp2_with (fail)
        unfold fl at *
        refine wp_region_held_drew (S := (fun W => Below w.heap.size w W ∧ W.rangeAt w.heap.size 0 (u8s xs) ∧ W.rangeAt (w.heap.size + 1) 0 (u8s ys))) (by kernel_rfl) (drew2 S0) (fun hHeld => ?_)
        (refine hTake 0 16 rfl rfl (by kernel_rfl) (by kernel_rfl) (by kernel_rfl) (fun _ _ _ h => h) (yieldsIf_load_mid (by rfl) _ _ rfl _ _ rfl (u8s xs) _ (fun W h => h.2.1) Tryd.underlying23 rfl hi1) hHeld ?_; simp only [List.set_cons_zero, List.set_cons_succ])
        (refine hTake 1 17 rfl rfl (by kernel_rfl) (by kernel_rfl) (by kernel_rfl) (fun _ _ _ h => h) (yieldsIf_load_mid (by rfl) _ _ rfl _ _ rfl (u8s ys) _ (fun W h => h.2.2) Tryd.underlying23 rfl hi2) hHeld ?_; simp only [List.set_cons_zero, List.set_cons_succ])
        (refine hCall 2 18 45 rfl rfl (by kernel_rfl) (args := #[.agg (u8s xs).toArray, .agg (u8s ys).toArray]) (by rfl) (by go_simp) (.int .i64 d1) (k1 _) (fun wq hb => ⟨keep2 hHeld hb, ?_⟩); simp only [List.set_cons_zero, List.set_cons_succ]; replace hHeld := keep2 hHeld hb; clear hb)
        (refine hTake 3 19 (v := .bool true) rfl rfl (by kernel_rfl) (by kernel_rfl) (by kernel_rfl) (fun _ _ _ h => h) (Or.inl ⟨by rfl, fun W _ => by go_simp⟩) hHeld ?_; simp only [List.set_cons_zero, List.set_cons_succ])
        (refine hTake 4 20 (v := .bool true) rfl rfl (by kernel_rfl) (by kernel_rfl) (by kernel_rfl) (fun _ _ _ h => h) (Or.inl ⟨by rfl, fun W _ => rfl⟩) hHeld ?_; simp only [List.set_cons_zero, List.set_cons_succ])
        (refine hTake 5 21 (v := undef) rfl rfl (by kernel_rfl) (by kernel_rfl) (by kernel_rfl) (fun _ _ _ h => h) (Or.inr ⟨by rfl, rfl⟩) hHeld ?_; simp only [List.set_cons_zero, List.set_cons_succ])
        (refine hTake 6 22 (v := undef) rfl rfl (by kernel_rfl) (by kernel_rfl) (by kernel_rfl) (fun _ _ _ h => h) (Or.inr ⟨by rfl, rfl⟩) hHeld ?_; simp only [List.set_cons_zero, List.set_cons_succ])
        (refine hTake 7 23 (v := undef) rfl rfl (by kernel_rfl) (by kernel_rfl) (by kernel_rfl) (fun _ _ _ h => h) (Or.inr ⟨by rfl, rfl⟩) hHeld ?_; simp only [List.set_cons_zero, List.set_cons_succ])
        (refine hTake 9 25 (v := undef) rfl rfl (by kernel_rfl) (by kernel_rfl) (by kernel_rfl) (fun _ _ _ h => h) (Or.inr ⟨by rfl, rfl⟩) hHeld ?_; simp only [List.set_cons_zero, List.set_cons_succ])
        (refine hSkip 8 24 rfl rfl (by kernel_rfl) (by rfl) hHeld ?_; simp only [List.set_cons_zero, List.set_cons_succ])
        (refine hSkip 10 26 rfl rfl (by kernel_rfl) (by rfl) hHeld ?_; simp only [List.set_cons_zero, List.set_cons_succ])
        (refine hTake 11 27 (v := undef) rfl rfl (by kernel_rfl) (by kernel_rfl) (by kernel_rfl) (fun _ _ _ h => h) (Or.inr ⟨by rfl, rfl⟩) hHeld ?_; simp only [List.set_cons_zero, List.set_cons_succ])
        (refine hTake 12 28 (v := undef) rfl rfl (by kernel_rfl) (by kernel_rfl) (by kernel_rfl) (fun _ _ _ h => h) (Or.inr ⟨by rfl, rfl⟩) hHeld ?_; simp only [List.set_cons_zero, List.set_cons_succ])
        (refine hTake 13 29 (v := .bool true) rfl rfl (by kernel_rfl) (by kernel_rfl) (by kernel_rfl) (fun _ _ _ h => h) (Or.inl ⟨by rfl, fun W _ => rfl⟩) hHeld ?_; simp only [List.set_cons_zero, List.set_cons_succ])
        (refine hTake 14 6 (v := .bool true) rfl rfl (by kernel_rfl) (by kernel_rfl) (by kernel_rfl) (fun _ _ _ h => h) (Or.inl ⟨by rfl, fun W _ => rfl⟩) hHeld ?_; simp only [List.set_cons_zero, List.set_cons_succ])
        (refine hTake 15 7 (v := .int .i64 0) rfl rfl (by kernel_rfl) (by kernel_rfl) (by kernel_rfl) (fun _ _ _ h => h) (Or.inl ⟨by rfl, fun W _ => rfl⟩) hHeld ?_; simp only [List.set_cons_zero, List.set_cons_succ])
        refine wpAnyH_done (by kernel_rfl) ?_ _
        go_wp2_with (fail)
        go_ret2
        exact ⟨rfl, hHeld.1⟩
end Go.Proofs.YtjppoejkfpeicaaDoor
