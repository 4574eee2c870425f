/- Contracts: ChooseDistinct: both sides. -/
import Derived.Test.YtjppoejkfpeicaaG22
import Derived.Test.YtjppoejkfpeicaaH3
set_option linter.unusedVariables false
set_option linter.unusedSimpArgs false
namespace Go.Proofs.Ytjppoejkfpeicaa
open Go.RowKit

/-- Flag i differs enough from all that have been taken. -/
def tooNear (fs : List (List Int)) (l : List Int) (i : Nat) (n : Int) (j : Nat) : Bool := decide (farP fs (nth l j).toNat i < n)
def fitsB (fs : List (List Int)) (l : List Int) (i : Nat) (n : Int) : Bool := !anyBelow (tooNear fs l i n) l.length
def chooseK (fs : List (List Int)) (n : Int) : Nat → List Int
  | 0 => []
  | k + 1 => if fitsB fs (chooseK fs n k) k n then chooseK fs n k ++ [(k : Int)] else chooseK fs n k
theorem choose_t {fs : List (List Int)} {n : Int} {k : Nat} (h : fitsB fs (chooseK fs n k) k n = true) : chooseK fs n (k + 1) = chooseK fs n k ++ [(k : Int)] := by
  show (if _ then _ else _) = _
  rw [if_pos h]
theorem choose_f {fs : List (List Int)} {n : Int} {k : Nat} (h : fitsB fs (chooseK fs n k) k n = false) : chooseK fs n (k + 1) = chooseK fs n k := by
  show (if _ then _ else _) = _
  rw [if_neg (by rw [h]; simp)]
theorem choose_len (fs : List (List Int)) (n : Int) : ∀ k, (chooseK fs n k).length ≤ k
  | 0 => Nat.le_refl _
  | k + 1 => by
    have ih := choose_len fs n k
    cases h : fitsB fs (chooseK fs n k) k n
    · rw [choose_f h]; omega
    · rw [choose_t h, List.length_append]; simp; omega
theorem choose_mem (fs : List (List Int)) (n : Int) : ∀ k, ∀ x ∈ chooseK fs n k, ∃ m : Nat, m < k ∧ x = (m : Int)
  | 0, x, hx => by cases hx
  | k + 1, x, hx => by
    cases h : fitsB fs (chooseK fs n k) k n
    · rw [choose_f h] at hx
      obtain ⟨m, h1, h2⟩ := choose_mem fs n k x hx
      exact ⟨m, by omega, h2⟩
    · rw [choose_t h] at hx
      rcases List.mem_append.1 hx with hx | hx
      · obtain ⟨m, h1, h2⟩ := choose_mem fs n k x hx
        exact ⟨m, by omega, h2⟩
      · simp at hx; exact ⟨k, by omega, hx⟩
def chosenL (fs : List (List Int)) (n : Int) : List Int := if askC fs n = 0 then chooseK fs n fs.length else []
theorem chosen_le (fs : List (List Int)) (n : Int) : (chosenL fs n).length ≤ 40 := by
  unfold chosenL
  split
  · rename_i h
    exact Nat.le_trans (choose_len _ _ _) (ask_ok h).2
  · simp
def Gave64 (ys : List Int) (cc : Int) (base : Nat) (e : Ending) (w' : World) : Prop := ∃ v, e = .returned (.tuple #[v, .int .i64 cc]) ∧ Own w' base 2 v (i64s ys)
theorem i64_snoc (xs : List Int) (x : Int) : i64s xs ++ [.int .i64 x] = i64s (xs ++ [x]) := by simp [i64s]

set_option maxRecDepth 100000 in
set_option maxHeartbeats 2000000 in
theorem l01Fits_any (fs : List (List Int)) (hv : vfs fs = true) (h40 : fs.length ≤ 40) (A : Option Addr) (c : Nat) (l : List Int) (hl : ∀ x ∈ l, ∃ m : Nat, m < fs.length ∧ x = (m : Int)) (A' : Option Addr) (c' : Nat) (i : Nat) (hi : i < fs.length) (n : Int) (w : World) (hs : SlF w A fs) (hs' : Sl .i64 w A' l) :
    Calls Try.prog 43 #[.slice A fs.length c, .slice A' l.length c', .int .i64 i, .int .i64 n] w fun e w' => e = .returned (.bool (fitsB fs l i n)) ∧ Below w.heap.size w w' := by
  have hbig := hs'.1
  have HF := As.mk (show fitsB fs l i n = !anyBelow (tooNear fs l i n) l.length from rfl)
  obtain ⟨m, hm⟩ : ∃ m, fs.length = m := ⟨_, rfl⟩
  have HM := As.mk hm
  obtain ⟨z, hz⟩ : ∃ z, l.length = z := ⟨_, rfl⟩
  have HZ := As.mk hz
  have hi0 := hi
  rw [hm] at hi h40 ⊢
  rw [hz] at hbig ⊢
  have HLM := As.mk hl
  clear hm hz hl
  go_enter Try.func43, Try.ntmps43
  go_wp2
  go_loopw [9] (fun v wr => ∃ k : Nat, k ≤ z ∧ v = .int .i64 k ∧ As (∀ j, j < k → tooNear fs l i n j = false) ∧ Below w.heap.size w wr) (fun v _ => z - (intOf v).toNat)
  case atStart => exact ⟨0, by omega, rfl, ⟨fun j hj => by omega⟩, Below.refl _ _⟩
  case round =>
    obtain ⟨k, hk, rfl, H, hb⟩ := hrel
    by_cases hlt : k < z
    · have hlt' : (k : Int) < (z : Int) := by omega
      have hi' : (i : Int) < (m : Int) := by omega
      obtain ⟨x, hxm, hx⟩ := HLM.out _ (nth_mem l k (by rw [HZ.out]; exact hlt))
      rw [HM.out] at hxm
      have hx' : (x : Int) < (m : Int) := by omega
      have hsW := hs.kept hb
      obtain ⟨b, o, rfl, hr⟩ := hsW.2.2.2 (by rw [HM.out]; omega)
      obtain ⟨b', o', rfl, hr'⟩ := (hs'.kept hb).2 (by rw [HZ.out]; omega)
      have c0 : wr.cell? ⟨b', o' + k, none⟩ = some (.int .i64 (x : Int)) := by
        have := hr' k _ (i64s_get l k (by rw [HZ.out]; exact hlt))
        rwa [hx] at this
      have hxf : x < fs.length := by rw [HM.out]; exact hxm
      have key := fun W h h' => l01Far_any (nthF fs x) (nthF fs i) (hs.len x hxf) (hs.len i hi0) (hs.bytes x hxf) (hs.bytes i hi0) (vfs_at hv x hxf) (vfs_at hv i hi0) b (o + x * 24) b (o + i * 24) W h h'
      have S0 : Below w.heap.size w wr ∧ wr.cell? ⟨b', o' + k, none⟩ = some (.int .i64 (x : Int)) ∧ wr.rangeAt b (o + x * 24) (u8s (nthF fs x)) ∧ wr.rangeAt b (o + i * 24) (u8s (nthF fs i)) := ⟨hb, c0, hr x _ (nthF_get? fs x hxf), hr i _ (nthF_get? fs i hi0)⟩
      have HN := As.mk (show tooNear fs l i n k = decide (diffs (blurL (nthF fs x)) (blurL (nthF fs i)) 6 < n) by unfold tooNear; rw [hx, Int.toNat_natCast]; rfl)
      have hkl : k < l.length := by rw [HZ.out]; exact hlt
      generalize diffs (blurL (nthF fs x)) (blurL (nthF fs i)) 6 = dd at *
      clear hr hr' hsW hxf hx c0
      generalize nthF fs x = fx at *
      generalize nthF fs i = fi at *
      go_wp2_with (fail)
      refine wp_region_held_drew (S := (fun W => Below w.heap.size w W ∧ W.cell? ⟨b', o' + k, none⟩ = some (.int .i64 (x : Int)) ∧ W.rangeAt b (o + x * 24) (u8s fx) ∧ W.rangeAt b (o + i * 24) (u8s fi))) (by kernel_rfl) ⟨S0.1.drew, S0.2.1, S0.2.2.1, S0.2.2.2⟩ (fun hHeld => ?_)
      (refine hTake 0 16 (v := .slice (some ⟨b, o, none⟩) m c) rfl rfl (by kernel_rfl) (by kernel_rfl) (by kernel_rfl) (fun _ _ _ h => h) (Or.inl ⟨by rfl, fun W _ => rfl⟩) hHeld ?_; simp only [List.set_cons_zero, List.set_cons_succ])
      (refine hTake 1 17 (v := .slice (some ⟨b', o', none⟩) z c') rfl rfl (by kernel_rfl) (by kernel_rfl) (by kernel_rfl) (fun _ _ _ h => h) (Or.inl ⟨by rfl, fun W _ => rfl⟩) hHeld ?_; simp only [List.set_cons_zero, List.set_cons_succ])
      (refine hTake 2 18 (v := .int .i64 (k : Int)) rfl rfl (by kernel_rfl) (by kernel_rfl) (by kernel_rfl) (fun _ _ _ h => h) (Or.inl ⟨by rfl, fun W _ => rfl⟩) hHeld ?_; simp only [List.set_cons_zero, List.set_cons_succ])
      (refine hTake 6 22 (v := .slice (some ⟨b, o, none⟩) m c) rfl rfl (by kernel_rfl) (by kernel_rfl) (by kernel_rfl) (fun _ _ _ h => h) (Or.inl ⟨by rfl, fun W _ => rfl⟩) hHeld ?_; simp only [List.set_cons_zero, List.set_cons_succ])
      (refine hTake 7 23 (v := .int .i64 (i : Int)) rfl rfl (by kernel_rfl) (by kernel_rfl) (by kernel_rfl) (fun _ _ _ h => h) (Or.inl ⟨by rfl, fun W _ => rfl⟩) hHeld ?_; simp only [List.set_cons_zero, List.set_cons_succ])
      (refine hTake 10 26 (v := .int .i64 n) rfl rfl (by kernel_rfl) (by kernel_rfl) (by kernel_rfl) (fun _ _ _ h => h) (Or.inl ⟨by rfl, fun W _ => rfl⟩) hHeld ?_; simp only [List.set_cons_zero, List.set_cons_succ])
      (refine hTake 3 19 (v := .pointer (some ⟨b', o' + k, none⟩)) rfl rfl (by kernel_rfl) (by kernel_rfl) (by kernel_rfl) (fun _ _ _ h => h) (Or.inl ⟨by rfl, fun W _ => by go_simp⟩) hHeld ?_; simp only [List.set_cons_zero, List.set_cons_succ])
      (refine hTake 4 20 (v := .int .i64 (x : Int)) rfl rfl (by kernel_rfl) (by kernel_rfl) (by kernel_rfl) (fun _ _ _ h => h) (Or.inl ⟨by rfl, fun W h => by (have h1 := h.2.1; clear h; go_simp)⟩) hHeld ?_; simp only [List.set_cons_zero, List.set_cons_succ])
      (refine hTake 5 21 (v := .pointer (some ⟨b, o + x * 24, none⟩)) rfl rfl (by kernel_rfl) (by kernel_rfl) (by kernel_rfl) (fun _ _ _ h => h) (Or.inl ⟨by rfl, fun W _ => by go_simp⟩) hHeld ?_; simp only [List.set_cons_zero, List.set_cons_succ])
      (refine hTake 8 24 (v := .pointer (some ⟨b, o + i * 24, none⟩)) rfl rfl (by kernel_rfl) (by kernel_rfl) (by kernel_rfl) (fun _ _ _ h => h) (Or.inl ⟨by rfl, fun W _ => by go_simp⟩) hHeld ?_; simp only [List.set_cons_zero, List.set_cons_succ])
      refine hCall 9 25 80 rfl rfl (by kernel_rfl) (args := #[.pointer (some ⟨b, o + x * 24, none⟩), .pointer (some ⟨b, o + i * 24, none⟩)]) (by rfl) (by go_simp) (.int .i64 dd) (key _ hHeld.2.2.1 hHeld.2.2.2) (fun wq hq => ⟨keepP hHeld hq, ?_⟩)
      simp only [List.set_cons_zero, List.set_cons_succ]
      replace hHeld := keepP hHeld hq
      (refine hTake 11 27 (v := .bool (decide (dd < n))) rfl rfl (by kernel_rfl) (by kernel_rfl) (by kernel_rfl) (fun _ _ _ h => h) (Or.inl ⟨by rfl, fun W _ => by go_simp⟩) hHeld ?_; simp only [List.set_cons_zero, List.set_cons_succ])
      refine wpAnyH_done (by kernel_rfl) ?_ _
      by_cases hd : dd < n
      · have hbad : anyBelow (tooNear fs l i n) l.length = true := by
          unfold anyBelow; rw [List.any_eq_true]
          exact ⟨k, List.mem_range.2 hkl, by rw [HN.out]; simpa using hd⟩
        go_wp2_with (fail)
        go_ret
        exact ⟨ret_b (by rw [HF.out, hbad]; rfl), hHeld.1⟩
      · have HD := As.mk hd
        go_wp2_with (fail)
        go_roundw
        case rel => exact ⟨k + 1, by omega, by go_num, ⟨all_succ H.out (by rw [HN.out]; simpa using HD.out)⟩, hHeld.1⟩
        case measure => simp [intOf]; omega
    · obtain rfl : k = z := by omega
      have hgood : anyBelow (tooNear fs l i n) l.length = false := by
        unfold anyBelow; rw [List.any_eq_false]
        intro j hj
        rw [List.mem_range, HZ.out] at hj
        rw [H.out j hj]; simp
      go_wp2_with (fail)
      go_ret
      exact ⟨ret_b (by rw [HF.out, hgood]; rfl), hb⟩

set_option maxHeartbeats 2000000 in
theorem sChooseDistinct_any (fs : List (List Int)) (A : Option Addr) (c : Nat) (n : Int) (w : World) (hs : SlF w A fs) :
    Calls Try.prog 8 #[.slice A fs.length c, .int .i64 n] w fun e w' => Gave64 (chosenL fs n) (askC fs n) w.heap.size e w' ∧ Below w.heap.size w w' := by
  have k1 := l01Asked_any fs A c n w hs
  by_cases h0 : askC fs n = 0
  · obtain ⟨hv, h40⟩ := ask_ok h0
    have HL := As.mk (show chosenL fs n = chooseK fs n fs.length by unfold chosenL; rw [if_pos h0])
    have kf := fun l hl A' c' i hi W h h' => l01Fits_any fs hv h40 A c l hl A' c' i hi n W h h'
    rw [h0] at k1 ⊢
    obtain ⟨m, hm⟩ : ∃ m, fs.length = m := ⟨_, rfl⟩
    have HM := As.mk hm
    rw [hm] at h40 k1 kf ⊢
    clear hm h0
    go_enter Try.func8, Try.ntmps8
    go_wp2_with (go_at_call 42; refine (k1).mono ?_; rintro e w' ⟨rfl, rfl⟩)
    go_loopw [7, 8] (fun v i wr => ∃ k : Nat, k ≤ m ∧ i = .int .i64 k ∧ Own wr w.heap.size 2 v (i64s (chooseK fs n k)) ∧ Below w.heap.size w wr) (fun _ i _ => m - (intOf i).toNat)
    case atStart => exact ⟨0, by omega, rfl, Own.lit w w.heap.size 2 [] (Nat.le_refl _) (by simp), bl_new (Below.refl _ _) _⟩
    case round =>
      obtain ⟨k, hk, rfl, hO, hb⟩ := hrel
      have hcl := choose_len fs n k
      by_cases hlt : k < m
      · have hlt' : (k : Int) < (m : Int) := by omega
        have hmem := choose_mem fs n k
        obtain ⟨A1, c1, rfl, S1⟩ := hO.sl
        have key := kf (chooseK fs n k) (fun x hx => by obtain ⟨j, h1, h2⟩ := hmem x hx; exact ⟨j, by omega, h2⟩) A1 c1 k hlt wr (hs.kept hb) S1
        clear hmem
        cases hf : fitsB fs (chooseK fs n k) k n
        · have hs' := As.mk (choose_f hf)
          rw [hf] at key
          clear hf
          go_wp2_with (fail)
          refine (key).mono ?_; rintro e w1 ⟨rfl, hb1⟩
          go_wp2_with (fail)
          go_roundw
          case rel => exact ⟨k + 1, by omega, by go_num, by rw [hs'.out]; exact hO.kept hb1, bl_call hb hb1⟩
          case measure => simp [intOf]; omega
        · have hs' := As.mk (choose_t hf)
          rw [hf] at key
          clear hf
          go_wp2_with (fail)
          refine (key).mono ?_; rintro e w1 ⟨rfl, hb1⟩
          have hO1 := hO.kept hb1
          have b1 := bl_call hb hb1
          go_wp2_with (at_builtin; refine app1 (w0 := w) (w.heap.size) rfl (.tmp 28) (.tmp 30) 24 2 (.int .i64 0) 8 rfl Try.underlying24 info_i64 rfl (by omega) (.slice A1 (chooseK fs n k).length c1) (i64s (chooseK fs n k)) (.int .i64 k) rfl rfl rfl hO1 b1 b1.size (by rw [i64s_length]; omega) ?_)
          intro v2 w2 hO2 hb2 _ _
          rw [i64_snoc] at hO2
          go_wp2_with (fail)
          go_roundw
          case rel => exact ⟨k + 1, by omega, by go_num, by rw [hs'.out]; exact hO2, hb2⟩
          case measure => simp [intOf]; omega
      · obtain rfl : k = m := by omega
        go_wp2_with (fail)
        go_ret2
        exact ⟨⟨_, rfl, by rw [HL.out, HM.out]; exact hO⟩, hb⟩
  · have HL := As.mk (show chosenL fs n = [] by unfold chosenL; rw [if_neg h0])
    generalize hcc : askC fs n = cc at *
    have h0' : (cc != 0) = true := by simp [h0]
    clear h0 hcc
    have hbig := hs.1
    go_enter Try.func8, Try.ntmps8
    go_wp2_with (go_at_call 42; refine (k1).mono ?_; rintro e w' ⟨rfl, rfl⟩)
    go_ret2
    exact ⟨⟨_, rfl, by rw [HL.out]; exact Own.lit w w.heap.size 2 [] (Nat.le_refl _) (by simp)⟩, bl_new (Below.refl _ _) _⟩
end Go.Proofs.Ytjppoejkfpeicaa
