/- Contracts: impl.ChooseDistinct; laws.markFlagS. -/
import Derived.Test.YtjppoejkfpeicaaG26
import Derived.Test.YtjppoejkfpeicaaG24
import Derived.Test.YtjppoejkfpeicaaLs
set_option linter.unusedVariables false
set_option linter.unusedSimpArgs false
namespace Go.Proofs.Ytjppoejkfpeicaa
open Go.RowKit

set_option maxHeartbeats 400000 in
theorem IndexFunc_64 (g : Nat) (lb : Array Value) (eg : ∀ args w, (callFunc g args).run Try.prog w = .ok (.enter g args) w) (xs : List Int) (p : Nat → Bool) (A : Option Addr) (c : Nat) (w : World)
    (hp : Pred g lb (fun k => .int .i64 (nth xs k)) xs.length p w) (hs : Sl .i64 w A xs) :
    Calls Try.prog 83 #[.slice A xs.length c, .func (.func g) #[] lb] w fun e w' => e = .returned (.int .i64 (firstIdx p xs.length 0)) ∧ Below w.heap.size w w' := by
  have hbig := hs.1
  generalize hm : xs.length = n at *
  have HM := As.mk hm
  clear hm
  go_enter Try.func83, Try.ntmps83
  go_wp2
  go_loopw [5, 8] (fun _ i wr => ∃ k : Nat, k ≤ n ∧ i = .int .i64 k ∧ Below w.heap.size w wr ∧ As (∀ j, j < k → p j = false)) (fun _ i _ => n - (intOf i).toNat)
  case atStart => exact ⟨0, by omega, rfl, Below.refl _ _, ⟨fun j hj => by omega⟩⟩
  case round =>
    obtain ⟨k, hk, rfl, hb, H⟩ := hrel
    by_cases hlt : k < n
    · have hlt' : (k : Int) < (n : Int) := by omega
      obtain ⟨b, o, rfl, hr⟩ := (hs.kept hb).2 (by rw [HM.out]; omega)
      have c0 : wr.cell? ⟨b, o + k, none⟩ = some (.int .i64 (nth xs k)) := hr k _ (i64s_get xs k (by rw [HM.out]; exact hlt))
      have hcall := hp wr k hlt hb
      clear hr
      cases hq : p k with
      | true =>
        rw [hq] at hcall
        go_wp2_with (refine hcall.mono ?_; rintro e w' ⟨rfl, hb'⟩)
        go_ret
        exact ⟨ret_n (by rw [firstIdx_hit p n 0 k hlt (by simpa using H.out) (by simpa using hq)]; simp), bl_call hb hb'⟩
      | false =>
        rw [hq] at hcall
        go_wp2_with (refine hcall.mono ?_; rintro e w' ⟨rfl, hb'⟩)
        go_roundw
        case rel => exact ⟨k + 1, by omega, by go_num, bl_call hb hb', ⟨all_succ H.out hq⟩⟩
        case measure => simp [intOf]; omega
    · obtain rfl : k = n := by omega
      go_wp2
      go_ret
      exact ⟨ret_n (by rw [firstIdx_miss p k 0 (by simpa using H.out)]), hb⟩
theorem ContainsFunc_64 (g : Nat) (lb : Array Value) (eg : ∀ args w, (callFunc g args).run Try.prog w = .ok (.enter g args) w) (xs : List Int) (p : Nat → Bool) (A : Option Addr) (c : Nat) (w : World)
    (hp : Pred g lb (fun k => .int .i64 (nth xs k)) xs.length p w) (hs : Sl .i64 w A xs) :
    Calls Try.prog 46 #[.slice A xs.length c, .func (.func g) #[] lb] w fun e w' => e = .returned (.bool (anyBelow p xs.length)) ∧ Below w.heap.size w w' := by
  rw [← firstIdx_nonneg]
  go_enter Try.func46, Try.ntmps46
  go_wp2_with (fail)
  refine (IndexFunc_64 g lb eg xs p A c _ hp hs).mono ?_; rintro e w1 ⟨rfl, hb⟩
  go_wp2_with (fail)
  go_ret
  exact ⟨rfl, hb⟩

theorem keepQ {w W W' : World} {a a' : Addr} {v v' : Value} {b1 o1 b2 o2 : Nat} {c1 c2 : List Value} (h : Below w.heap.size w W ∧ W.cell? a = some v ∧ W.rangeAt b1 o1 c1 ∧ W.rangeAt b2 o2 c2 ∧ W.cell? a' = some v') (hb : Below W.heap.size W W') :
    Below w.heap.size w W' ∧ W'.cell? a = some v ∧ W'.rangeAt b1 o1 c1 ∧ W'.rangeAt b2 o2 c2 ∧ W'.cell? a' = some v' := ⟨bl_call h.1 hb, (hb.cell (World.block_lt_of_cell? W _ h.2.1)).trans h.2.1, range_kept h.2.2.1 hb, range_kept h.2.2.2.1 hb, (hb.cell (World.block_lt_of_cell? W _ h.2.2.2.2)).trans h.2.2.2.2⟩

set_option maxRecDepth 100000 in
set_option maxHeartbeats 1000000 in
theorem ChooseDistinct1_any (fs : List (List Int)) (hv : vfs fs = true) (h40 : fs.length ≤ 40) (A : Option Addr) (c B F L x i : Nat) (hx : x < fs.length) (hi : i < fs.length) (n : Int) (w : World) (hs : SlF w A fs) (hB : w.cell? ⟨B, 0, none⟩ = some (.slice A fs.length c))
    (hF : w.rangeAt F 0 (u8s (nthF fs i))) (hL : w.cell? ⟨L, 0, none⟩ = some (.int .i64 n)) :
    Calls Try.prog 47 #[.int .i64 (x : Int), .pointer (some ⟨B, 0, none⟩), .pointer (some ⟨F, 0, none⟩), .pointer (some ⟨L, 0, none⟩)] w fun e w' => e = .returned (.bool (decide (farP fs x i < n))) ∧ Below w.heap.size w w' := by
  obtain ⟨b, o, rfl, hr⟩ := hs.2.2.2 (by omega)
  have lx := hs.len x hx
  have li := hs.len i hi
  have hi1 := info_len lx
  have hi2 := info_len li
  have S0 : Below w.heap.size w w ∧ w.cell? ⟨B, 0, none⟩ = some (.slice (some ⟨b, o, none⟩) fs.length c) ∧ w.rangeAt b (o + x * 24) (u8s (nthF fs x)) ∧ w.rangeAt F 0 (u8s (nthF fs i)) ∧ w.cell? ⟨L, 0, none⟩ = some (.int .i64 n) :=
    ⟨Below.refl _ _, hB, hr x _ (nthF_get? fs x hx), hF, hL⟩
  have key := fun W => afar_any (nthF fs x) (nthF fs i) lx li (hs.bytes x hx) (hs.bytes i hi) (vfs_at hv x hx) (vfs_at hv i hi) W
  have hx' : (x : Int) < (fs.length : Int) := by omega
  unfold farP farD
  generalize diffs (blurL (nthF fs x)) (blurL (nthF fs i)) 6 = dd at *
  clear hr hs hB hF hL
  generalize nthF fs x = fx at *
  generalize nthF fs i = fi at *
  generalize fs.length = m at *
  go_enter Try.func47, Try.ntmps47
  go_wp2_with (fail)
  unfold fl at *
  refine wp_region_held_drew (S := (fun W => Below w.heap.size w W ∧ W.cell? ⟨B, 0, none⟩ = some (.slice (some ⟨b, o, none⟩) m c) ∧ W.rangeAt b (o + x * 24) (u8s fx) ∧ W.rangeAt F 0 (u8s fi) ∧ W.cell? ⟨L, 0, none⟩ = some (.int .i64 n))) (by kernel_rfl) ⟨S0.1.drew, S0.2.1, S0.2.2.1, S0.2.2.2.1, S0.2.2.2.2⟩ (fun hHeld => ?_)
  (refine hTake 0 6 (v := .slice (some ⟨b, o, none⟩) m c) rfl rfl (by kernel_rfl) (by kernel_rfl) (by kernel_rfl) (fun _ _ _ h => h) (Or.inl ⟨by rfl, fun W h => by (have h1 := h.2.1; clear h; go_simp)⟩) hHeld ?_; simp only [List.set_cons_zero, List.set_cons_succ])
  (refine hTake 1 7 (v := .int .i64 (x : Int)) rfl rfl (by kernel_rfl) (by kernel_rfl) (by kernel_rfl) (fun _ _ _ h => h) (Or.inl ⟨by rfl, fun W _ => rfl⟩) hHeld ?_; simp only [List.set_cons_zero, List.set_cons_succ])
  (refine hTake 6 12 (v := .int .i64 n) rfl rfl (by kernel_rfl) (by kernel_rfl) (by kernel_rfl) (fun _ _ _ h => h) (Or.inl ⟨by rfl, fun W h => by (have h1 := h.2.2.2.2; clear h; go_simp)⟩) hHeld ?_; simp only [List.set_cons_zero, List.set_cons_succ])
  (refine hTake 2 8 (v := .pointer (some ⟨b, o + x * 24, none⟩)) rfl rfl (by kernel_rfl) (by kernel_rfl) (by kernel_rfl) (fun _ _ _ h => h) (Or.inl ⟨by rfl, fun W _ => by go_simp⟩) hHeld ?_; simp only [List.set_cons_zero, List.set_cons_succ])
  (refine hTake 3 9 rfl rfl (by kernel_rfl) (by kernel_rfl) (by kernel_rfl) (fun _ _ _ h => h) (yieldsIf_load_mid (by rfl) _ _ rfl _ _ rfl (u8s fx) _ (fun W h => h.2.2.1) Try.underlying38 rfl hi1) hHeld ?_; simp only [List.set_cons_zero, List.set_cons_succ])
  (refine hTake 4 10 rfl rfl (by kernel_rfl) (by kernel_rfl) (by kernel_rfl) (fun _ _ _ h => h) (yieldsIf_load_mid (by rfl) _ _ rfl _ _ rfl (u8s fi) _ (fun W h => h.2.2.2.1) Try.underlying38 rfl hi2) hHeld ?_; simp only [List.set_cons_zero, List.set_cons_succ])
  refine hCall 5 11 48 rfl rfl (by kernel_rfl) (args := #[.agg (u8s fx).toArray, .agg (u8s fi).toArray]) (by rfl) (by go_simp) (.int .i64 dd) (key _) (fun wq hq => ⟨keepQ hHeld hq, ?_⟩)
  simp only [List.set_cons_zero, List.set_cons_succ]
  replace hHeld := keepQ hHeld hq
  (refine hTake 7 13 (v := .bool (decide (dd < n))) rfl rfl (by kernel_rfl) (by kernel_rfl) (by kernel_rfl) (fun _ _ _ h => h) (Or.inl ⟨by rfl, fun W _ => by go_simp⟩) hHeld ?_; simp only [List.set_cons_zero, List.set_cons_succ])
  (refine hTake 8 5 (v := .bool (decide (dd < n))) rfl rfl (by kernel_rfl) (by kernel_rfl) (by kernel_rfl) (fun _ _ _ h => h) (Or.inl ⟨by rfl, fun W _ => rfl⟩) hHeld ?_; simp only [List.set_cons_zero, List.set_cons_succ])
  refine wpAnyH_done (by kernel_rfl) ?_ _
  go_wp2_with (fail)
  go_ret
  exact ⟨rfl, hHeld.1⟩

set_option maxRecDepth 100000 in
set_option maxHeartbeats 2000000 in
theorem ChooseDistinct_any (fs : List (List Int)) (A : Option Addr) (c : Nat) (n : Int) (w : World) (hs : SlF w A fs) :
    Calls Try.prog 10 #[.slice A fs.length c, .int .i64 n] w fun e w' => Gave64 (chosenL fs n) (askC fs n) w.heap.size e w' ∧ Below w.heap.size w w' := by
  have V0 : Blk ((w.alloc (.cells #[.slice A fs.length c] 27)).alloc (.cells #[.int .i64 n] 2)) w.heap.size [.slice A fs.length c] 27 := (Blk.mk _ [_] _ rfl).alloc _
  have V1 : Blk ((w.alloc (.cells #[.slice A fs.length c] 27)).alloc (.cells #[.int .i64 n] 2)) (w.heap.size + 1) [.int .i64 n] 2 := Blk.mk _ [_] _ (by simp)
  have b0 : Below w.heap.size w ((w.alloc (.cells #[.slice A fs.length c] 27)).alloc (.cells #[.int .i64 n] 2)) := bl_new (bl_new (Below.refl _ _) _) _
  have hs1 := hs.kept b0
  have k1 := setCode_any fs A c n _ hs1
  have hbig := hs.1
  by_cases h0 : askC fs n = 0
  · obtain ⟨hv, h40⟩ := ask_ok h0
    have HL := As.mk (show chosenL fs n = chooseK fs n fs.length by unfold chosenL; rw [if_pos h0])
    rw [h0] at k1 ⊢
    have kc := fun B F L x i hx hi W hW hB hF hL => ChooseDistinct1_any fs hv h40 A c B F L x i hx hi n W hW hB hF hL
    obtain ⟨m, hm⟩ : ∃ m, fs.length = m := ⟨_, rfl⟩
    have HM := As.mk hm
    rw [hm] at h40 k1 kc V0 V1 b0 hs1 hbig ⊢
    clear hm h0
    have c0 := V0.at 0
    have d0 := V1.at 0
    simp only [List.getElem?_cons_zero] at c0 d0
    go_enter Try.func10, Try.ntmps10
    go_wp2_with (fail)
    refine (k1).mono ?_; rintro e w1 ⟨rfl, hb1⟩
    generalize (w.alloc (.cells #[.slice A m c] 27)).alloc (.cells #[.int .i64 n] 2) = W0 at *
    have V0a := V0.kept hb1
    have V1a := V1.kept hb1
    have b1 := bl_call b0 hb1
    clear V0 V1 b0 hb1 c0 d0
    have c1 := V0a.at 0
    simp only [List.getElem?_cons_zero] at c1
    have hs2 := hs.kept b1
    have c1' : (w1.alloc (.cells #[] 2)).cell? ⟨w.heap.size, 0, none⟩ = some (.slice A m c) := by have := (V0a.alloc (.cells #[] 2)).at 0; simpa using this
    go_wp2_with (fail)
    go_loopw [7, 19] (fun v i wr => ∃ k : Nat, k ≤ m ∧ i = .int .i64 k ∧ Own wr w1.heap.size 2 v (i64s (chooseK fs n k)) ∧ Below w1.heap.size w1 wr) (fun _ i _ => m - (intOf i).toNat)
    case atStart => exact ⟨0, by omega, rfl, Own.lit w1 w1.heap.size 2 [] (Nat.le_refl _) (by simp), bl_new (Below.refl _ _) _⟩
    case round =>
      obtain ⟨k, hk, rfl, hO, hb⟩ := hrel
      have hcl := choose_len fs n k
      by_cases hlt : k < m
      · have hlt' : (k : Int) < (m : Int) := by omega
        have hkm : k < fs.length := by rw [HM.out]; exact hlt
        have hmem := As.mk (choose_mem fs n k)
        have hsW := hs2.kept hb
        have hAA := hsW
        obtain ⟨b, o, rfl, hr⟩ := hsW.2.2.2 (by rw [HM.out]; omega)
        have R := hr k _ (nthF_get? fs k hkm)
        have hi := info_len (hs.len k hkm)
        have hl24 : (nthF fs k).length = 24 := hs.len k hkm
        have B1 : Blk (wr.alloc (.cells #[.int .u8 0, .int .u8 0, .int .u8 0, .int .u8 0, .int .u8 0, .int .u8 0, .int .u8 0, .int .u8 0, .int .u8 0, .int .u8 0, .int .u8 0, .int .u8 0, .int .u8 0, .int .u8 0, .int .u8 0, .int .u8 0, .int .u8 0, .int .u8 0, .int .u8 0, .int .u8 0, .int .u8 0, .int .u8 0, .int .u8 0, .int .u8 0] 38)) wr.heap.size (u8s zero24) 38 := Blk.mk _ (u8s zero24) _ rfl
        have B2 := B1.setRow (u8s (nthF fs k))
        have hb2 := bl_setRow (bl_new hb (.cells #[.int .u8 0, .int .u8 0, .int .u8 0, .int .u8 0, .int .u8 0, .int .u8 0, .int .u8 0, .int .u8 0, .int .u8 0, .int .u8 0, .int .u8 0, .int .u8 0, .int .u8 0, .int .u8 0, .int .u8 0, .int .u8 0, .int .u8 0, .int .u8 0, .int .u8 0, .int .u8 0, .int .u8 0, .int .u8 0, .int .u8 0, .int .u8 0] 38)) hb.size (u8s (nthF fs k)).toArray
        have hO2 : Own ((wr.alloc (.cells #[.int .u8 0, .int .u8 0, .int .u8 0, .int .u8 0, .int .u8 0, .int .u8 0, .int .u8 0, .int .u8 0, .int .u8 0, .int .u8 0, .int .u8 0, .int .u8 0, .int .u8 0, .int .u8 0, .int .u8 0, .int .u8 0, .int .u8 0, .int .u8 0, .int .u8 0, .int .u8 0, .int .u8 0, .int .u8 0, .int .u8 0, .int .u8 0] 38)).setRow wr.heap.size (u8s (nthF fs k)).toArray) w1.heap.size 2 u7 (i64s (chooseK fs n k)) := hO.kept (bl_setRow (bl_new (Below.refl _ _) _) (Nat.le_refl _) _)
        clear hr
        obtain ⟨A1, c1x, rfl, S1⟩ := hO2.sl
        generalize hW2 : (wr.alloc (.cells #[.int .u8 0, .int .u8 0, .int .u8 0, .int .u8 0, .int .u8 0, .int .u8 0, .int .u8 0, .int .u8 0, .int .u8 0, .int .u8 0, .int .u8 0, .int .u8 0, .int .u8 0, .int .u8 0, .int .u8 0, .int .u8 0, .int .u8 0, .int .u8 0, .int .u8 0, .int .u8 0, .int .u8 0, .int .u8 0, .int .u8 0, .int .u8 0] 38)).setRow wr.heap.size (u8s (nthF fs k)).toArray = W2 at *
        have hs3 := hs2.kept hb2
        have V0b := V0a.kept hb2
        have V1b := V1a.kept hb2
        have cB := V0b.at 0
        have cL := V1b.at 0
        simp only [List.getElem?_cons_zero] at cB cL
        have key := ContainsFunc_64 47 #[.pointer (some ⟨w.heap.size, 0, none⟩), .pointer (some ⟨wr.heap.size, 0, none⟩), .pointer (some ⟨w.heap.size + 1, 0, none⟩)] (enters Try.func47 (by kernel_rfl) rfl) (chooseK fs n k) (tooNear fs (chooseK fs n k) k n) A1 c1x W2
          (fun W j hj hbW => by
            obtain ⟨x, hxk, hx⟩ := hmem.out _ (nth_mem _ j hj)
            simp only [hx]
            have hn : tooNear fs (chooseK fs n k) k n j = decide (farP fs x k < n) := by unfold tooNear; rw [hx, Int.toNat_natCast]
            rw [hn]
            exact kc w.heap.size wr.heap.size (w.heap.size + 1) x k (by omega) hlt W (hs3.kept hbW) ((V0b.kept hbW).at 0) ((B2.kept hbW).range) ((V1b.kept hbW).at 0)) S1
        have hfit := As.mk (show fitsB fs (chooseK fs n k) k n = !anyBelow (tooNear fs (chooseK fs n k) k n) (chooseK fs n k).length from rfl)
        cases hf : anyBelow (tooNear fs (chooseK fs n k) k n) (chooseK fs n k).length
        · have hst := As.mk (choose_t (fs := fs) (n := n) (k := k) (by rw [hfit.out, hf]; rfl))
          rw [hf] at key
          clear hf hsW hAA kc
          go_wp2_with (first | (refine wpList_load_mid rfl 38 _ rfl _ _ rfl _ _ R Try.underlying38 rfl hi ?_) | (refine store_blk rfl 38 _ _ rfl _ rfl rfl B1 info_fl (by rw [u8s_length]; exact hl24) (by rw [u8s_length]; exact zero24_length) (u8s_one _) ?_))
          refine key.mono ?_; rintro e w3 ⟨rfl, hb3⟩
          have hO3 := hO2.kept hb3
          have b3 := bl_call hb2 hb3
          go_wp2_with (at_builtin; refine app1 (w0 := w1) (w1.heap.size) rfl (.tmp 28) (.tmp 30) 24 2 (.int .i64 0) 8 rfl Try.underlying24 info_i64 rfl (by omega) (.slice A1 (chooseK fs n k).length c1x) (i64s (chooseK fs n k)) (.int .i64 k) rfl rfl rfl hO3 b3 b3.size (by rw [i64s_length]; omega) ?_)
          intro v4 w4 hO4 hb4 _ _
          rw [i64_snoc] at hO4
          go_wp2_with (fail)
          go_roundw
          case rel => exact ⟨k + 1, by omega, by go_num, by rw [hst.out]; exact hO4, hb4⟩
          case measure => simp [intOf]; omega
        · have hst := As.mk (choose_f (fs := fs) (n := n) (k := k) (by rw [hfit.out, hf]; rfl))
          rw [hf] at key
          clear hf hsW hAA kc
          go_wp2_with (first | (refine wpList_load_mid rfl 38 _ rfl _ _ rfl _ _ R Try.underlying38 rfl hi ?_) | (refine store_blk rfl 38 _ _ rfl _ rfl rfl B1 info_fl (by rw [u8s_length]; exact hl24) (by rw [u8s_length]; exact zero24_length) (u8s_one _) ?_))
          refine key.mono ?_; rintro e w3 ⟨rfl, hb3⟩
          have hO3 := hO2.kept hb3
          have b3 := bl_call hb2 hb3
          go_wp2_with (fail)
          go_roundw
          case rel => exact ⟨k + 1, by omega, by go_num, by rw [hst.out]; exact hO3, b3⟩
          case measure => simp [intOf]; omega
      · obtain rfl : k = m := by omega
        go_wp2_with (fail)
        go_ret2
        exact ⟨⟨_, rfl, by rw [HL.out, HM.out]; exact hO.lower b1.size⟩, bl_call b1 hb⟩
  · have HL := As.mk (show chosenL fs n = [] by unfold chosenL; rw [if_neg h0])
    generalize hcc : askC fs n = cc at *
    have h0' : (cc != 0) = true := by simp [h0]
    clear h0 hcc
    have c0 := V0.at 0
    have d0 := V1.at 0
    simp only [List.getElem?_cons_zero] at c0 d0
    go_enter Try.func10, Try.ntmps10
    go_wp2_with (fail)
    refine (k1).mono ?_; rintro e w1 ⟨rfl, hb1⟩
    go_wp2_with (fail)
    go_ret2
    exact ⟨⟨_, rfl, by rw [HL.out]; exact Own.nil _ _ _⟩, bl_call b0 hb1⟩

set_option maxHeartbeats 1000000 in
theorem markFlagS_any (n b : Nat) (cs : List Value) (hcs : cs.length = n * 24) (hn : n ≤ 1048576) (w : World) (h : Blk w b cs 38) :
    Calls Try.prog 13 #[.slice (some ⟨b, 0, none⟩) n n, .int .i64 1] w fun e w' => e = .returned (.int .i64 (1 + (n : Int) * 24)) ∧ w.grownBy w' (some b) := by
  go_enter Try.func13, Try.ntmps13
  go_wp2
  go_loopw [5, 1] (fun i kk wr => ∃ (k : Nat) (ds : List Value), k ≤ n ∧ i = .int .i64 k ∧ kk = .int .i64 (1 + (k : Int) * 24) ∧ ds.length = n * 24 ∧ Blk wr b ds 38 ∧ w.grownBy wr (some b)) (fun i _ _ => n - (intOf i).toNat)
  case atStart => exact ⟨0, cs, by omega, rfl, rfl, hcs, h, World.grownBy.refl _ _⟩
  case round =>
    obtain ⟨k, ds, hk, rfl, rfl, hd, hB, hg⟩ := hrel
    by_cases hlt : k < n
    · have hlt' : (k : Int) < (n : Int) := by omega
      go_wp2
      go_loopw [6, 1] (fun j kk wr => ∃ (i : Nat) (es : List Value), i ≤ 24 ∧ j = .int .i64 i ∧ kk = .int .i64 (1 + (k : Int) * 24 + (i : Int)) ∧ es.length = n * 24 ∧ Blk wr b es 38 ∧ w.grownBy wr (some b)) (fun j _ _ => 24 - (intOf j).toNat)
      case atStart => exact ⟨0, ds, by omega, rfl, by simp, hd, hB, hg⟩
      case round =>
        obtain ⟨i, es, hi, rfl, rfl, he, hB, hg⟩ := hrel
        by_cases hlt2 : i < 24
        · have hlt2' : (i : Int) < 24 := by omega
          obtain ⟨u0, c0⟩ := hB.some (k * 24 + i) (by omega)
          have f0 := hB.frozen (k * 24 + i)
          go_wp2
          go_roundw
          case rel => exact ⟨i + 1, es.set (k * 24 + i) (.int .u8 (IntKind.wrap .u8 (1 + (k : Int) * 24 + (i : Int)))), by omega, by go_num, by go_num, by simp [he], hB.set _ _, hg.trans ⟨rfl, rfl, rfl, by simp, fun g _ hne => Below.heap_setCell _ _ _ _ (fun e => hne (by rw [e]))⟩⟩
          case measure => simp [intOf]; omega
        · obtain rfl : i = 24 := by omega
          go_wp2
          go_roundw
          case rel => exact ⟨k + 1, es, by omega, by go_num, by go_num, he, hB, hg⟩
          case measure => simp [intOf]; omega
    · obtain rfl : k = n := by omega
      go_wp2
      go_ret
      exact ⟨rfl, hg⟩
end Go.Proofs.Ytjppoejkfpeicaa
