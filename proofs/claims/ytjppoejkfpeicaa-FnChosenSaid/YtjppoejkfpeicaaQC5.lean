/- Contracts and plain facts, several texts in one. -/
import Derived.Test.YtjppoejkfpeicaaQC4
import Derived.Test.YtjppoejkfpeicaaQC2
import Derived.Test.YtjppoejkfpeicaaQC1
import Derived.Deep.OwnRows
/- Contracts: ChooseDistinct: both sides. -/
set_option linter.unusedVariables false
set_option linter.unusedSimpArgs false
namespace Go.Proofs.Ytjppoejkfpeicaa
open Go.RowKit

/-- Flag i differs enough from all that have been taken. -/
def tooNear (fs : List (List Int)) (l : List Int) (i : Nat) (n : Int) (j : Nat) : Bool := decide (farP fs (nth l j).toNat i < n)
def fitsB (fs : List (List Int)) (l : List Int) (i : Nat) (n : Int) : Bool := !anyBelow (tooNear fs l i n) l.length
def chooseK (fs : List (List Int)) (n : Int) : Nat → List Int
  | 0 => []
  | k + 1 => if fitsB fs (chooseK fs n k) k n then chooseK fs n k ++ [(k : Int)] else chooseK fs n k
theorem choose_t {fs : List (List Int)} {n : Int} {k : Nat} (h : fitsB fs (chooseK fs n k) k n = true) : chooseK fs n (k + 1) = chooseK fs n k ++ [(k : Int)] := by
  show (if _ then _ else _) = _
  rw [if_pos h]
theorem choose_f {fs : List (List Int)} {n : Int} {k : Nat} (h : fitsB fs (chooseK fs n k) k n = false) : chooseK fs n (k + 1) = chooseK fs n k := by
  show (if _ then _ else _) = _
  rw [if_neg (by rw [h]; simp)]
theorem choose_len (fs : List (List Int)) (n : Int) : ∀ k, (chooseK fs n k).length ≤ k
  | 0 => Nat.le_refl _
  | k + 1 => by
    have ih := choose_len fs n k
    cases h : fitsB fs (chooseK fs n k) k n
    · rw [choose_f h]; omega
    · rw [choose_t h, List.length_append]; simp; omega
theorem choose_mem (fs : List (List Int)) (n : Int) : ∀ k, ∀ x ∈ chooseK fs n k, ∃ m : Nat, m < k ∧ x = (m : Int)
  | 0, x, hx => by cases hx
  | k + 1, x, hx => by
    cases h : fitsB fs (chooseK fs n k) k n
    · rw [choose_f h] at hx
      obtain ⟨m, h1, h2⟩ := choose_mem fs n k x hx
      exact ⟨m, by omega, h2⟩
    · rw [choose_t h] at hx
      rcases List.mem_append.1 hx with hx | hx
      · obtain ⟨m, h1, h2⟩ := choose_mem fs n k x hx
        exact ⟨m, by omega, h2⟩
      · simp at hx; exact ⟨k, by omega, hx⟩
def chosenL (fs : List (List Int)) (n : Int) : List Int := if askC fs n = 0 then chooseK fs n fs.length else []
theorem chosen_le (fs : List (List Int)) (n : Int) : (chosenL fs n).length ≤ 40 := by
  unfold chosenL
  split
  · rename_i h
    exact Nat.le_trans (choose_len _ _ _) (ask_ok h).2
  · simp
def Gave64 (ys : List Int) (cc : Int) (base : Nat) (e : Ending) (w' : World) : Prop := ∃ v, e = .returned (.tuple #[v, .int .i64 cc]) ∧ Own w' base 2 v (i64s ys)
theorem i64_snoc (xs : List Int) (x : Int) : i64s xs ++ [.int .i64 x] = i64s (xs ++ [x]) := by simp [i64s]

set_option maxRecDepth 100000 in
set_option maxHeartbeats 2000000 in
theorem l01Fits_any (fs : List (List Int)) (hv : vfs fs = true) (h40 : fs.length ≤ 40) (A : Option Addr) (c : Nat) (l : List Int) (hl : ∀ x ∈ l, ∃ m : Nat, m < fs.length ∧ x = (m : Int)) (A' : Option Addr) (c' : Nat) (i : Nat) (hi : i < fs.length) (n : Int) (w : World) (hs : SlF w A fs) (hs' : Sl .i64 w A' l) :
    Calls Try.prog 43 #[.slice A fs.length c, .slice A' l.length c', .int .i64 i, .int .i64 n] w fun e w' => e = .returned (.bool (fitsB fs l i n)) ∧ Below w.heap.size w w' := by
  have hbig := hs'.1
  have HF := As.mk (show fitsB fs l i n = !anyBelow (tooNear fs l i n) l.length from rfl)
  obtain ⟨m, hm⟩ : ∃ m, fs.length = m := ⟨_, rfl⟩
  have HM := As.mk hm
  obtain ⟨z, hz⟩ : ∃ z, l.length = z := ⟨_, rfl⟩
  have HZ := As.mk hz
  have hi0 := hi
  rw [hm] at hi h40 ⊢
  rw [hz] at hbig ⊢
  have HLM := As.mk hl
  clear hm hz hl
  go_enter Try.func43, Try.ntmps43
  go_wp2
  go_loopw [9] (fun v wr => ∃ k : Nat, k ≤ z ∧ v = .int .i64 k ∧ As (∀ j, j < k → tooNear fs l i n j = false) ∧ Below w.heap.size w wr) (fun v _ => z - (intOf v).toNat)
  case atStart => exact ⟨0, by omega, rfl, ⟨fun j hj => by omega⟩, Below.refl _ _⟩
  case round =>
    obtain ⟨k, hk, rfl, H, hb⟩ := hrel
    by_cases hlt : k < z
    · have hlt' : (k : Int) < (z : Int) := by omega
      have hi' : (i : Int) < (m : Int) := by omega
      obtain ⟨x, hxm, hx⟩ := HLM.out _ (nth_mem l k (by rw [HZ.out]; exact hlt))
      rw [HM.out] at hxm
      have hx' : (x : Int) < (m : Int) := by omega
      have hsW := hs.kept hb
      obtain ⟨b, o, rfl, hr⟩ := hsW.2.2.2 (by rw [HM.out]; omega)
      obtain ⟨b', o', rfl, hr'⟩ := (hs'.kept hb).2 (by rw [HZ.out]; omega)
      have c0 : wr.cell? ⟨b', o' + k, none⟩ = some (.int .i64 (x : Int)) := by
        have := hr' k _ (i64s_get l k (by rw [HZ.out]; exact hlt))
        rwa [hx] at this
      have hxf : x < fs.length := by rw [HM.out]; exact hxm
      have key := fun W h h' => l01Far_any (nthF fs x) (nthF fs i) (hs.len x hxf) (hs.len i hi0) (hs.bytes x hxf) (hs.bytes i hi0) (vfs_at hv x hxf) (vfs_at hv i hi0) b (o + x * 24) b (o + i * 24) W h h'
      have S0 : Below w.heap.size w wr ∧ wr.cell? ⟨b', o' + k, none⟩ = some (.int .i64 (x : Int)) ∧ wr.rangeAt b (o + x * 24) (u8s (nthF fs x)) ∧ wr.rangeAt b (o + i * 24) (u8s (nthF fs i)) := ⟨hb, c0, hr x _ (nthF_get? fs x hxf), hr i _ (nthF_get? fs i hi0)⟩
      have HN := As.mk (show tooNear fs l i n k = decide (diffs (blurL (nthF fs x)) (blurL (nthF fs i)) 6 < n) by unfold tooNear; rw [hx, Int.toNat_natCast]; rfl)
      have hkl : k < l.length := by rw [HZ.out]; exact hlt
      generalize diffs (blurL (nthF fs x)) (blurL (nthF fs i)) 6 = dd at *
      clear hr hr' hsW hxf hx c0
      generalize nthF fs x = fx at *
      generalize nthF fs i = fi at *
      go_wp2_with (fail)
      refine wp_region_held_drew (S := (fun W => Below w.heap.size w W ∧ W.cell? ⟨b', o' + k, none⟩ = some (.int .i64 (x : Int)) ∧ W.rangeAt b (o + x * 24) (u8s fx) ∧ W.rangeAt b (o + i * 24) (u8s fi))) (by kernel_rfl) ⟨S0.1.drew, S0.2.1, S0.2.2.1, S0.2.2.2⟩ (fun hHeld => ?_)
      (refine hTake 0 16 (v := .slice (some ⟨b, o, none⟩) m c) rfl rfl (by kernel_rfl) (by kernel_rfl) (by kernel_rfl) (fun _ _ _ h => h) (Or.inl ⟨by rfl, fun W _ => rfl⟩) hHeld ?_; simp only [List.set_cons_zero, List.set_cons_succ])
      (refine hTake 1 17 (v := .slice (some ⟨b', o', none⟩) z c') rfl rfl (by kernel_rfl) (by kernel_rfl) (by kernel_rfl) (fun _ _ _ h => h) (Or.inl ⟨by rfl, fun W _ => rfl⟩) hHeld ?_; simp only [List.set_cons_zero, List.set_cons_succ])
      (refine hTake 2 18 (v := .int .i64 (k : Int)) rfl rfl (by kernel_rfl) (by kernel_rfl) (by kernel_rfl) (fun _ _ _ h => h) (Or.inl ⟨by rfl, fun W _ => rfl⟩) hHeld ?_; simp only [List.set_cons_zero, List.set_cons_succ])
      (refine hTake 6 22 (v := .slice (some ⟨b, o, none⟩) m c) rfl rfl (by kernel_rfl) (by kernel_rfl) (by kernel_rfl) (fun _ _ _ h => h) (Or.inl ⟨by rfl, fun W _ => rfl⟩) hHeld ?_; simp only [List.set_cons_zero, List.set_cons_succ])
      (refine hTake 7 23 (v := .int .i64 (i : Int)) rfl rfl (by kernel_rfl) (by kernel_rfl) (by kernel_rfl) (fun _ _ _ h => h) (Or.inl ⟨by rfl, fun W _ => rfl⟩) hHeld ?_; simp only [List.set_cons_zero, List.set_cons_succ])
      (refine hTake 10 26 (v := .int .i64 n) rfl rfl (by kernel_rfl) (by kernel_rfl) (by kernel_rfl) (fun _ _ _ h => h) (Or.inl ⟨by rfl, fun W _ => rfl⟩) hHeld ?_; simp only [List.set_cons_zero, List.set_cons_succ])
      (refine hTake 3 19 (v := .pointer (some ⟨b', o' + k, none⟩)) rfl rfl (by kernel_rfl) (by kernel_rfl) (by kernel_rfl) (fun _ _ _ h => h) (Or.inl ⟨by rfl, fun W _ => by go_simp⟩) hHeld ?_; simp only [List.set_cons_zero, List.set_cons_succ])
      (refine hTake 4 20 (v := .int .i64 (x : Int)) rfl rfl (by kernel_rfl) (by kernel_rfl) (by kernel_rfl) (fun _ _ _ h => h) (Or.inl ⟨by rfl, fun W h => by (have h1 := h.2.1; clear h; go_simp)⟩) hHeld ?_; simp only [List.set_cons_zero, List.set_cons_succ])
      (refine hTake 5 21 (v := .pointer (some ⟨b, o + x * 24, none⟩)) rfl rfl (by kernel_rfl) (by kernel_rfl) (by kernel_rfl) (fun _ _ _ h => h) (Or.inl ⟨by rfl, fun W _ => by go_simp⟩) hHeld ?_; simp only [List.set_cons_zero, List.set_cons_succ])
      (refine hTake 8 24 (v := .pointer (some ⟨b, o + i * 24, none⟩)) rfl rfl (by kernel_rfl) (by kernel_rfl) (by kernel_rfl) (fun _ _ _ h => h) (Or.inl ⟨by rfl, fun W _ => by go_simp⟩) hHeld ?_; simp only [List.set_cons_zero, List.set_cons_succ])
      refine hCall 9 25 80 rfl rfl (by kernel_rfl) (args := #[.pointer (some ⟨b, o + x * 24, none⟩), .pointer (some ⟨b, o + i * 24, none⟩)]) (by rfl) (by go_simp) (.int .i64 dd) (key _ hHeld.2.2.1 hHeld.2.2.2) (fun wq hq => ⟨keepP hHeld hq, ?_⟩)
      simp only [List.set_cons_zero, List.set_cons_succ]
      replace hHeld := keepP hHeld hq
      (refine hTake 11 27 (v := .bool (decide (dd < n))) rfl rfl (by kernel_rfl) (by kernel_rfl) (by kernel_rfl) (fun _ _ _ h => h) (Or.inl ⟨by rfl, fun W _ => by go_simp⟩) hHeld ?_; simp only [List.set_cons_zero, List.set_cons_succ])
      refine wpAnyH_done (by kernel_rfl) ?_ _
      by_cases hd : dd < n
      · have hbad : anyBelow (tooNear fs l i n) l.length = true := by
          unfold anyBelow; rw [List.any_eq_true]
          exact ⟨k, List.mem_range.2 hkl, by rw [HN.out]; simpa using hd⟩
        go_wp2_with (fail)
        go_ret
        exact ⟨ret_b (by rw [HF.out, hbad]; rfl), hHeld.1⟩
      · have HD := As.mk hd
        go_wp2_with (fail)
        go_roundw
        case rel => exact ⟨k + 1, by omega, by go_num, ⟨all_succ H.out (by rw [HN.out]; simpa using HD.out)⟩, hHeld.1⟩
        case measure => simp [intOf]; omega
    · obtain rfl : k = z := by omega
      have hgood : anyBelow (tooNear fs l i n) l.length = false := by
        unfold anyBelow; rw [List.any_eq_false]
        intro j hj
        rw [List.mem_range, HZ.out] at hj
        rw [H.out j hj]; simp
      go_wp2_with (fail)
      go_ret
      exact ⟨ret_b (by rw [HF.out, hgood]; rfl), hb⟩

set_option maxHeartbeats 2000000 in
theorem sChooseDistinct_any (fs : List (List Int)) (A : Option Addr) (c : Nat) (n : Int) (w : World) (hs : SlF w A fs) :
    Calls Try.prog 8 #[.slice A fs.length c, .int .i64 n] w fun e w' => Gave64 (chosenL fs n) (askC fs n) w.heap.size e w' ∧ Below w.heap.size w w' := by
  have k1 := l01Asked_any fs A c n w hs
  by_cases h0 : askC fs n = 0
  · obtain ⟨hv, h40⟩ := ask_ok h0
    have HL := As.mk (show chosenL fs n = chooseK fs n fs.length by unfold chosenL; rw [if_pos h0])
    have kf := fun l hl A' c' i hi W h h' => l01Fits_any fs hv h40 A c l hl A' c' i hi n W h h'
    rw [h0] at k1 ⊢
    obtain ⟨m, hm⟩ : ∃ m, fs.length = m := ⟨_, rfl⟩
    have HM := As.mk hm
    rw [hm] at h40 k1 kf ⊢
    clear hm h0
    go_enter Try.func8, Try.ntmps8
    go_wp2_with (go_at_call 42; refine (k1).mono ?_; rintro e w' ⟨rfl, rfl⟩)
    go_loopw [7, 8] (fun v i wr => ∃ k : Nat, k ≤ m ∧ i = .int .i64 k ∧ Own wr w.heap.size 2 v (i64s (chooseK fs n k)) ∧ Below w.heap.size w wr) (fun _ i _ => m - (intOf i).toNat)
    case atStart => exact ⟨0, by omega, rfl, Own.lit w w.heap.size 2 [] (Nat.le_refl _) (by simp), bl_new (Below.refl _ _) _⟩
    case round =>
      obtain ⟨k, hk, rfl, hO, hb⟩ := hrel
      have hcl := choose_len fs n k
      by_cases hlt : k < m
      · have hlt' : (k : Int) < (m : Int) := by omega
        have hmem := choose_mem fs n k
        obtain ⟨A1, c1, rfl, S1⟩ := hO.sl
        have key := kf (chooseK fs n k) (fun x hx => by obtain ⟨j, h1, h2⟩ := hmem x hx; exact ⟨j, by omega, h2⟩) A1 c1 k hlt wr (hs.kept hb) S1
        clear hmem
        cases hf : fitsB fs (chooseK fs n k) k n
        · have hs' := As.mk (choose_f hf)
          rw [hf] at key
          clear hf
          go_wp2_with (fail)
          refine (key).mono ?_; rintro e w1 ⟨rfl, hb1⟩
          go_wp2_with (fail)
          go_roundw
          case rel => exact ⟨k + 1, by omega, by go_num, by rw [hs'.out]; exact hO.kept hb1, bl_call hb hb1⟩
          case measure => simp [intOf]; omega
        · have hs' := As.mk (choose_t hf)
          rw [hf] at key
          clear hf
          go_wp2_with (fail)
          refine (key).mono ?_; rintro e w1 ⟨rfl, hb1⟩
          have hO1 := hO.kept hb1
          have b1 := bl_call hb hb1
          go_wp2_with (at_builtin; refine app1 (w0 := w) (w.heap.size) rfl (.tmp 28) (.tmp 30) 24 2 (.int .i64 0) 8 rfl Try.underlying24 info_i64 rfl (by omega) (.slice A1 (chooseK fs n k).length c1) (i64s (chooseK fs n k)) (.int .i64 k) rfl rfl rfl hO1 b1 b1.size (by rw [i64s_length]; omega) ?_)
          intro v2 w2 hO2 hb2 _ _
          rw [i64_snoc] at hO2
          go_wp2_with (fail)
          go_roundw
          case rel => exact ⟨k + 1, by omega, by go_num, by rw [hs'.out]; exact hO2, hb2⟩
          case measure => simp [intOf]; omega
      · obtain rfl : k = m := by omega
        go_wp2_with (fail)
        go_ret2
        exact ⟨⟨_, rfl, by rw [HL.out, HM.out]; exact hO⟩, hb⟩
  · have HL := As.mk (show chosenL fs n = [] by unfold chosenL; rw [if_neg h0])
    generalize hcc : askC fs n = cc at *
    have h0' : (cc != 0) = true := by simp [h0]
    clear h0 hcc
    have hbig := hs.1
    go_enter Try.func8, Try.ntmps8
    go_wp2_with (go_at_call 42; refine (k1).mono ?_; rintro e w' ⟨rfl, rfl⟩)
    go_ret2
    exact ⟨⟨_, rfl, by rw [HL.out]; exact Own.lit w w.heap.size 2 [] (Nat.le_refl _) (by simp)⟩, bl_new (Below.refl _ _) _⟩
end Go.Proofs.Ytjppoejkfpeicaa

/- Contracts: laws.szFlagS, laws.toFlagS. -/
set_option linter.unusedVariables false
set_option linter.unusedSimpArgs false
namespace Go.Proofs.Ytjppoejkfpeicaa
open Go.RowKit

section
variable {P : Program} {ops : Array Oper} {rest : List Oper} {op : Oper} {a : Act} {w : World} {Q : Exit → Act → World → Prop}
/-- A whole array into the midst of a block. -/
theorem store_mid (hgd : Region.wanted op (yielded ops a.tmps) = true) (ty : TypeId) (x y : Operand) (ho : op.op = .store ty x y) (b o : Nat) (hx : a.eval x = .pointer (some ⟨b, o, none⟩)) {ds : List Value} (hy : a.eval y = .agg ds.toArray)
    (ht : w.there b o ds.length) (hi : (P.info? ty).map (·.size) = some ds.length) (h1 : ∀ v ∈ ds, v.oneCell' = true)
    (h : wpList P ops Q rest (a.put op.dst undef) (w.setCells b o ds)) : wpList P ops Q (op :: rest) a w :=
  BigFrame.wpList_want hgd fun _ hK => wp_store_mid ty x y ho b o ds.toArray hx hy (by simpa using ht) (by rw [hi]; simp) (all_oneCell_toArray h1) (hK _ _ h)
end
theorem info_flag3 : (Try.prog.info? 38).map (fun i => (i.zero, i.size, i.bytes)) = some (some (fl zero24), 24, 24) := by kernel_rfl
theorem flat_zero : ∀ n : Nat, (List.replicate n zero24).flatMap u8s = List.replicate (n * 24) (Value.int .u8 0)
  | 0 => rfl
  | n + 1 => by
    rw [List.replicate_succ, List.flatMap_cons, flat_zero n]
    show List.replicate 24 (Value.int .u8 0) ++ _ = _
    rw [List.replicate_append_replicate]; congr 1; omega
theorem made_zero (m : Nat) : madeCells (fl zero24).cells m = (List.replicate m (Value.int .u8 0)).toArray := by
  have g : ∀ (n j : Nat), j < n → (List.replicate n (Value.int .u8 0)).toArray[j]! = Value.int .u8 0 := by
    intro n j hj
    rw [getElem!_pos _ j (by simpa using hj)]
    simp
  have h : ∀ j, j < 24 → (fl zero24).cells[j]! = Value.int .u8 0 := fun j hj => g 24 j hj
  apply Array.ext
  · simp [madeCells]
  · intro i h1 h2
    simp only [madeCells, Array.getElem_map, Array.getElem_range]
    have : (fl zero24).cells.size = 24 := rfl
    rw [this, h _ (Nat.mod_lt _ (by omega))]
    simp
theorem make_fl (n : Nat) (hn : n ≤ 1048576) (W : World) : (Instr.makeSlice 27 (.int .i64 (n : Int)) (.int .i64 (n : Int))).run Try.prog W = .ok (.slice (some ⟨W.heap.size, 0, none⟩) n n) (W.alloc (.cells ((List.replicate n zero24).flatMap u8s).toArray 38)) := by
  obtain ⟨i, hi, hz⟩ := Option.map_eq_some_iff.1 info_flag3
  simp only [Prod.mk.injEq] at hz
  obtain ⟨h1, h2, h3⟩ := hz
  have := run_make (P := Try.prog) W 27 38 i (fl zero24) Try.underlying27 hi h1 .i64 .i64 n n (by omega) (Int.le_refl _) (by rw [h3]; omega) (by omega)
  rw [this, h2, flat_zero, made_zero]
  simp

/-- The first k flags, and none. -/
def pF (fs : List (List Int)) (n k : Nat) : List (List Int) := (List.range n).map fun i => if i < k then nthF fs i else zero24
theorem pF_length (fs : List (List Int)) (n k : Nat) : (pF fs n k).length = n := by simp [pF]
theorem pF_zero (fs : List (List Int)) (n : Nat) : pF fs n 0 = List.replicate n zero24 := by
  apply List.ext_getElem <;> simp [pF]
theorem pF_step (fs : List (List Int)) (n k : Nat) : (pF fs n k).set k (nthF fs k) = pF fs n (k + 1) := by
  apply List.ext_getElem
  · simp [pF]
  · intro i h1 h2
    simp only [List.getElem_set, pF, List.getElem_map, List.getElem_range]
    by_cases h : k = i
    · subst h; simp
    · rw [if_neg h]
      by_cases h3 : i < k
      · rw [if_pos h3, if_pos (by omega)]
      · rw [if_neg h3, if_neg (by omega)]
theorem pF_full (fs : List (List Int)) : pF fs fs.length fs.length = fs := by
  apply List.ext_getElem
  · simp [pF]
  · intro i h1 h2
    simp only [pF, List.getElem_map, List.getElem_range]
    rw [if_pos h2]
    simp [nthF, List.getElem?_eq_getElem h2]
theorem pF_24 {fs : List (List Int)} {n k : Nat} (h : ∀ i, i < k → (nthF fs i).length = 24) : ∀ x ∈ pF fs n k, (u8s x).length = 24 := by
  intro x hx
  obtain ⟨i, hi, rfl⟩ := List.mem_map.1 hx
  rw [u8s_length]
  split
  · exact h i (by assumption)
  · exact zero24_length
theorem info_len' {f : List Int} (h : f.length = 24) : (Try.prog.info? 37).map (·.size) = some (u8s f).length := by rw [u8s_length, h]; exact info_fl'
theorem there_sub {w : World} {b N o m : Nat} (h : w.there b 0 N) (hm : o + m ≤ N) : w.there b o m := fun j hj => by
  have := h (o + j) (by omega)
  rw [Nat.zero_add] at this; exact this

theorem szFlagS_any (A : Option Addr) (n c : Nat) (w : World) (hn : n ≤ 9223372036854775807) :
    Calls Try.prog 7 #[.slice A n c, .int .i64 1048576] w fun e w' => e = .returned (.int .i64 (if n ≤ 1048576 then 1048576 - (n : Int) else -1)) ∧ w = w' := by
  by_cases h : n ≤ 1048576
  · have h' : ¬ (1048576 - (n : Int) < 0) := by omega
    rw [if_pos h]
    go_enter Try.func7, Try.ntmps7
    go_wp2
    go_ret
    exact ⟨rfl, rfl⟩
  · have h' : (1048576 - (n : Int) < 0) := by omega
    rw [if_neg h]
    go_enter Try.func7, Try.ntmps7
    go_wp2
    go_ret
    exact ⟨rfl, rfl⟩

set_option maxRecDepth 20000 in
set_option maxHeartbeats 1000000 in
theorem toFlagS_any (fs : List (List Int)) (A : Option Addr) (c : Nat) (w : World) (hs : SlF w A fs) (hn : fs.length ≤ 1048576) :
    Calls Try.prog 9 #[.slice A fs.length c] w fun e w' => e = .returned (.slice (some ⟨w.heap.size, 0, none⟩) fs.length fs.length) ∧ Blk w' w.heap.size (fs.flatMap u8s) 38 ∧ Below w.heap.size w w' := by
  have hF := pF_full fs
  obtain ⟨zs, hzs⟩ : ∃ zs : List Value, (List.replicate fs.length zero24).flatMap u8s = zs := ⟨_, rfl⟩
  have hmk := fun W => make_fl fs.length hn W
  rw [hzs] at hmk
  have h0 : Blk (w.alloc (.cells zs.toArray 38)) w.heap.size ((pF fs fs.length 0).flatMap u8s) 38 := by
    rw [pF_zero, hzs]; exact Blk.new _ _ _
  have b0 := bl_new (Below.refl _ w) (.cells zs.toArray 38)
  clear hzs
  generalize hm : fs.length = n at *
  have HM := As.mk hm
  clear hm
  go_enter Try.func9, Try.ntmps9
  go_wp2
  generalize w.alloc (.cells zs.toArray 38) = W at *
  clear hmk
  go_loopw [4] (fun i wr => ∃ k : Nat, k ≤ n ∧ i = .int .i64 k ∧ Blk wr w.heap.size ((pF fs n k).flatMap u8s) 38 ∧ Below w.heap.size w wr) (fun i _ => n - (intOf i).toNat)
  case atStart => exact ⟨0, by omega, rfl, h0, b0⟩
  case round =>
    obtain ⟨k, hk, rfl, h1, hb⟩ := hrel
    clear h0 b0
    by_cases hlt : k < n
    · have hlt' : (k : Int) < (n : Int) := by omega
      have hkm : k < fs.length := by rw [HM.out]; exact hlt
      obtain ⟨b, o, rfl, hr⟩ := (hs.kept hb).2.2.2 (by omega)
      have R := hr k _ (nthF_get? fs k hkm)
      have hk24 := hs.len k hkm
      have hi := info_len' hk24
      have h24 := pF_24 (n := n) (k := k) (fun i h => hs.len i (by rw [HM.out]; omega))
      have hst := As.mk (flat_set u8s 24 (nthF fs k) (by rw [u8s_length]; exact hk24) (pF fs n k) h24 k (by rw [pF_length]; exact hlt))
      have hlen : ((pF fs n k).flatMap u8s).length = n * 24 := by rw [flat_length u8s 24 _ h24, pF_length]
      have hfit : k * 24 + 24 ≤ n * 24 := by omega
      have key := fun W => toFlag_any (nthF fs k) hk24 W
      have hps := As.mk (pF_step fs n k)
      generalize hf : nthF fs k = f at *
      have hu := u8s_length f
      have hone := u8s_one f
      clear hkm hr
      unfold fl at key
      go_wp2_with (refine wpList_load_mid rfl 37 _ rfl _ _ rfl _ _ R Try.underlying37 rfl hi ?_)
      refine (key _).mono ?_; rintro e w1 ⟨rfl, hb1⟩
      have h2 := h1.kept hb1
      have hb2 := bl_call hb hb1
      have ht := there_sub (o := k * 24) (m := 24) (N := n * 24) (by have := h2.there; rw [hlen] at this; exact this) hfit
      have h3 := Blk.setCells (w := w1) (u8s f) (k * 24) _ _ h2 (by rw [hlen, hu, hk24]; exact hfit)
      rw [hu, hk24, hst.out, hps.out] at h3
      have hb3 := bl_setCells hb2 (g := w.heap.size) (Nat.le_refl _) (k * 24) (u8s f)
      have ht' : w1.there w.heap.size (k * 24) (u8s f).length := by rw [hu, hk24]; exact ht
      have hi2 : (Try.prog.info? 38).map (·.size) = some (u8s f).length := by rw [hu, hk24]; exact info_fl
      go_wp2_with (refine store_mid rfl 38 _ _ rfl w.heap.size (k * 24) rfl (ds := u8s f) rfl ht' hi2 hone ?_)
      go_roundw
      case rel => exact ⟨k + 1, by omega, by go_num, h3, hb3⟩
      case measure => simp [intOf]; omega
    · obtain rfl : k = n := by omega
      rw [hF] at h1
      go_wp2
      go_ret
      exact ⟨rfl, h1, hb⟩
end Go.Proofs.Ytjppoejkfpeicaa

/- Laws over slices: what stays while a slice is marked. -/
set_option linter.unusedVariables false
namespace Go.Proofs.Ytjppoejkfpeicaa
open Go.RowKit
section
variable {w w' w0 : World} {base : Nat} {e : TypeId} {v : Value} {cs : List Value} {k : IntKind} {xs : List Int}
theorem Blk.ownN {b : Nat} (h : Blk w b (xs.map (Value.int k)) e) (hb : base ≤ b) (hm : xs.length ≤ 9223372036854775807) : Own w base e (.slice (Option.some ⟨b, 0, none⟩) xs.length xs.length) (xs.map (Value.int k)) := by
  have := h.own hb (by rw [List.length_map]; exact hm)
  rwa [List.length_map] at this
theorem Blk.grown {b g n c : Nat} (h : Blk w b cs e) (hg : w.grownBy w' (Value.slice (Option.some ⟨g, 0, none⟩) n c).ownBlock) (hne : b ≠ g) : Blk w' b cs e :=
  (hg.block b h.lt (by simp only [Value.ownBlock, ne_eq, Option.some.injEq]; exact hne)).trans h
theorem Own.sl' {A : Option Addr} {n c : Nat} (h : Own w base e (.slice A n c) (xs.map (Value.int k))) : Sl k w A xs := by
  obtain ⟨A', c', hv, S⟩ := h.sl
  simp only [Value.slice.injEq] at hv
  rw [hv.1]; exact S
theorem Own.slN {A : Option Addr} {n c : Nat} {kd : IntKind} {k0 : Int} (h : Own w base e (.slice A n c) ((marks kd k0 n).map (Value.int k))) : Sl k w A (marks kd k0 n) := h.sl'
/-- A slice stays while a block below it is turned. -/
theorem Own.keptBy {g n c : Nat} (h : Own w base e v cs) (hg : w.grownBy w' (Value.slice (some ⟨g, 0, none⟩) n c).ownBlock) (hlt : g < base) : Own w' base e v cs := by
  refine h.grown hg ?_
  cases hv : v.ownBlock with
  | none => exact .inl rfl
  | some k =>
    refine .inr fun e' => ?_
    simp only [Value.ownBlock, Option.some.injEq] at e'
    have := h.ge k hv
    omega
theorem bl_mark {B g n c : Nat} (hb : Below B w0 w) (hB : B ≤ w.heap.size) (hg : w.grownBy w' (Value.slice (some ⟨g, 0, none⟩) n c).ownBlock) (hBg : B ≤ g) : Below B w0 w' :=
  hb.grown hg hB (fun k hk => by simp only [Value.ownBlock, Option.some.injEq] at hk; omega)
end
end Go.Proofs.Ytjppoejkfpeicaa

/- Contracts: impl.ChooseDistinct; laws.markFlagS. -/
set_option linter.unusedVariables false
set_option linter.unusedSimpArgs false
namespace Go.Proofs.Ytjppoejkfpeicaa
open Go.RowKit

set_option maxHeartbeats 400000 in
theorem IndexFunc_64 (g : Nat) (lb : Array Value) (eg : ∀ args w, (callFunc g args).run Try.prog w = .ok (.enter g args) w) (xs : List Int) (p : Nat → Bool) (A : Option Addr) (c : Nat) (w : World)
    (hp : Pred g lb (fun k => .int .i64 (nth xs k)) xs.length p w) (hs : Sl .i64 w A xs) :
    Calls Try.prog 83 #[.slice A xs.length c, .func (.func g) #[] lb] w fun e w' => e = .returned (.int .i64 (firstIdx p xs.length 0)) ∧ Below w.heap.size w w' := by
  have hbig := hs.1
  generalize hm : xs.length = n at *
  have HM := As.mk hm
  clear hm
  go_enter Try.func83, Try.ntmps83
  go_wp2
  go_loopw [5, 8] (fun _ i wr => ∃ k : Nat, k ≤ n ∧ i = .int .i64 k ∧ Below w.heap.size w wr ∧ As (∀ j, j < k → p j = false)) (fun _ i _ => n - (intOf i).toNat)
  case atStart => exact ⟨0, by omega, rfl, Below.refl _ _, ⟨fun j hj => by omega⟩⟩
  case round =>
    obtain ⟨k, hk, rfl, hb, H⟩ := hrel
    by_cases hlt : k < n
    · have hlt' : (k : Int) < (n : Int) := by omega
      obtain ⟨b, o, rfl, hr⟩ := (hs.kept hb).2 (by rw [HM.out]; omega)
      have c0 : wr.cell? ⟨b, o + k, none⟩ = some (.int .i64 (nth xs k)) := hr k _ (i64s_get xs k (by rw [HM.out]; exact hlt))
      have hcall := hp wr k hlt hb
      clear hr
      cases hq : p k with
      | true =>
        rw [hq] at hcall
        go_wp2_with (refine hcall.mono ?_; rintro e w' ⟨rfl, hb'⟩)
        go_ret
        exact ⟨ret_n (by rw [firstIdx_hit p n 0 k hlt (by simpa using H.out) (by simpa using hq)]; simp), bl_call hb hb'⟩
      | false =>
        rw [hq] at hcall
        go_wp2_with (refine hcall.mono ?_; rintro e w' ⟨rfl, hb'⟩)
        go_roundw
        case rel => exact ⟨k + 1, by omega, by go_num, bl_call hb hb', ⟨all_succ H.out hq⟩⟩
        case measure => simp [intOf]; omega
    · obtain rfl : k = n := by omega
      go_wp2
      go_ret
      exact ⟨ret_n (by rw [firstIdx_miss p k 0 (by simpa using H.out)]), hb⟩
theorem ContainsFunc_64 (g : Nat) (lb : Array Value) (eg : ∀ args w, (callFunc g args).run Try.prog w = .ok (.enter g args) w) (xs : List Int) (p : Nat → Bool) (A : Option Addr) (c : Nat) (w : World)
    (hp : Pred g lb (fun k => .int .i64 (nth xs k)) xs.length p w) (hs : Sl .i64 w A xs) :
    Calls Try.prog 46 #[.slice A xs.length c, .func (.func g) #[] lb] w fun e w' => e = .returned (.bool (anyBelow p xs.length)) ∧ Below w.heap.size w w' := by
  rw [← firstIdx_nonneg]
  go_enter Try.func46, Try.ntmps46
  go_wp2_with (fail)
  refine (IndexFunc_64 g lb eg xs p A c _ hp hs).mono ?_; rintro e w1 ⟨rfl, hb⟩
  go_wp2_with (fail)
  go_ret
  exact ⟨rfl, hb⟩

theorem keepQ {w W W' : World} {a a' : Addr} {v v' : Value} {b1 o1 b2 o2 : Nat} {c1 c2 : List Value} (h : Below w.heap.size w W ∧ W.cell? a = some v ∧ W.rangeAt b1 o1 c1 ∧ W.rangeAt b2 o2 c2 ∧ W.cell? a' = some v') (hb : Below W.heap.size W W') :
    Below w.heap.size w W' ∧ W'.cell? a = some v ∧ W'.rangeAt b1 o1 c1 ∧ W'.rangeAt b2 o2 c2 ∧ W'.cell? a' = some v' := ⟨bl_call h.1 hb, (hb.cell (World.block_lt_of_cell? W _ h.2.1)).trans h.2.1, range_kept h.2.2.1 hb, range_kept h.2.2.2.1 hb, (hb.cell (World.block_lt_of_cell? W _ h.2.2.2.2)).trans h.2.2.2.2⟩

set_option maxRecDepth 100000 in
set_option maxHeartbeats 1000000 in
theorem ChooseDistinct1_any (fs : List (List Int)) (hv : vfs fs = true) (h40 : fs.length ≤ 40) (A : Option Addr) (c B F L x i : Nat) (hx : x < fs.length) (hi : i < fs.length) (n : Int) (w : World) (hs : SlF w A fs) (hB : w.cell? ⟨B, 0, none⟩ = some (.slice A fs.length c))
    (hF : w.rangeAt F 0 (u8s (nthF fs i))) (hL : w.cell? ⟨L, 0, none⟩ = some (.int .i64 n)) :
    Calls Try.prog 47 #[.int .i64 (x : Int), .pointer (some ⟨B, 0, none⟩), .pointer (some ⟨F, 0, none⟩), .pointer (some ⟨L, 0, none⟩)] w fun e w' => e = .returned (.bool (decide (farP fs x i < n))) ∧ Below w.heap.size w w' := by
  obtain ⟨b, o, rfl, hr⟩ := hs.2.2.2 (by omega)
  have lx := hs.len x hx
  have li := hs.len i hi
  have hi1 := info_len lx
  have hi2 := info_len li
  have S0 : Below w.heap.size w w ∧ w.cell? ⟨B, 0, none⟩ = some (.slice (some ⟨b, o, none⟩) fs.length c) ∧ w.rangeAt b (o + x * 24) (u8s (nthF fs x)) ∧ w.rangeAt F 0 (u8s (nthF fs i)) ∧ w.cell? ⟨L, 0, none⟩ = some (.int .i64 n) :=
    ⟨Below.refl _ _, hB, hr x _ (nthF_get? fs x hx), hF, hL⟩
  have key := fun W => afar_any (nthF fs x) (nthF fs i) lx li (hs.bytes x hx) (hs.bytes i hi) (vfs_at hv x hx) (vfs_at hv i hi) W
  have hx' : (x : Int) < (fs.length : Int) := by omega
  unfold farP farD
  generalize diffs (blurL (nthF fs x)) (blurL (nthF fs i)) 6 = dd at *
  clear hr hs hB hF hL
  generalize nthF fs x = fx at *
  generalize nthF fs i = fi at *
  generalize fs.length = m at *
  go_enter Try.func47, Try.ntmps47
  go_wp2_with (fail)
  unfold fl at *
  refine wp_region_held_drew (S := (fun W => Below w.heap.size w W ∧ W.cell? ⟨B, 0, none⟩ = some (.slice (some ⟨b, o, none⟩) m c) ∧ W.rangeAt b (o + x * 24) (u8s fx) ∧ W.rangeAt F 0 (u8s fi) ∧ W.cell? ⟨L, 0, none⟩ = some (.int .i64 n))) (by kernel_rfl) ⟨S0.1.drew, S0.2.1, S0.2.2.1, S0.2.2.2.1, S0.2.2.2.2⟩ (fun hHeld => ?_)
  (refine hTake 0 6 (v := .slice (some ⟨b, o, none⟩) m c) rfl rfl (by kernel_rfl) (by kernel_rfl) (by kernel_rfl) (fun _ _ _ h => h) (Or.inl ⟨by rfl, fun W h => by (have h1 := h.2.1; clear h; go_simp)⟩) hHeld ?_; simp only [List.set_cons_zero, List.set_cons_succ])
  (refine hTake 1 7 (v := .int .i64 (x : Int)) rfl rfl (by kernel_rfl) (by kernel_rfl) (by kernel_rfl) (fun _ _ _ h => h) (Or.inl ⟨by rfl, fun W _ => rfl⟩) hHeld ?_; simp only [List.set_cons_zero, List.set_cons_succ])
  (refine hTake 6 12 (v := .int .i64 n) rfl rfl (by kernel_rfl) (by kernel_rfl) (by kernel_rfl) (fun _ _ _ h => h) (Or.inl ⟨by rfl, fun W h => by (have h1 := h.2.2.2.2; clear h; go_simp)⟩) hHeld ?_; simp only [List.set_cons_zero, List.set_cons_succ])
  (refine hTake 2 8 (v := .pointer (some ⟨b, o + x * 24, none⟩)) rfl rfl (by kernel_rfl) (by kernel_rfl) (by kernel_rfl) (fun _ _ _ h => h) (Or.inl ⟨by rfl, fun W _ => by go_simp⟩) hHeld ?_; simp only [List.set_cons_zero, List.set_cons_succ])
  (refine hTake 3 9 rfl rfl (by kernel_rfl) (by kernel_rfl) (by kernel_rfl) (fun _ _ _ h => h) (yieldsIf_load_mid (by rfl) _ _ rfl _ _ rfl (u8s fx) _ (fun W h => h.2.2.1) Try.underlying38 rfl hi1) hHeld ?_; simp only [List.set_cons_zero, List.set_cons_succ])
  (refine hTake 4 10 rfl rfl (by kernel_rfl) (by kernel_rfl) (by kernel_rfl) (fun _ _ _ h => h) (yieldsIf_load_mid (by rfl) _ _ rfl _ _ rfl (u8s fi) _ (fun W h => h.2.2.2.1) Try.underlying38 rfl hi2) hHeld ?_; simp only [List.set_cons_zero, List.set_cons_succ])
  refine hCall 5 11 48 rfl rfl (by kernel_rfl) (args := #[.agg (u8s fx).toArray, .agg (u8s fi).toArray]) (by rfl) (by go_simp) (.int .i64 dd) (key _) (fun wq hq => ⟨keepQ hHeld hq, ?_⟩)
  simp only [List.set_cons_zero, List.set_cons_succ]
  replace hHeld := keepQ hHeld hq
  (refine hTake 7 13 (v := .bool (decide (dd < n))) rfl rfl (by kernel_rfl) (by kernel_rfl) (by kernel_rfl) (fun _ _ _ h => h) (Or.inl ⟨by rfl, fun W _ => by go_simp⟩) hHeld ?_; simp only [List.set_cons_zero, List.set_cons_succ])
  (refine hTake 8 5 (v := .bool (decide (dd < n))) rfl rfl (by kernel_rfl) (by kernel_rfl) (by kernel_rfl) (fun _ _ _ h => h) (Or.inl ⟨by rfl, fun W _ => rfl⟩) hHeld ?_; simp only [List.set_cons_zero, List.set_cons_succ])
  refine wpAnyH_done (by kernel_rfl) ?_ _
  go_wp2_with (fail)
  go_ret
  exact ⟨rfl, hHeld.1⟩

set_option maxRecDepth 100000 in
set_option maxHeartbeats 2000000 in
theorem ChooseDistinct_any (fs : List (List Int)) (A : Option Addr) (c : Nat) (n : Int) (w : World) (hs : SlF w A fs) :
    Calls Try.prog 10 #[.slice A fs.length c, .int .i64 n] w fun e w' => Gave64 (chosenL fs n) (askC fs n) w.heap.size e w' ∧ Below w.heap.size w w' := by
  have V0 : Blk ((w.alloc (.cells #[.slice A fs.length c] 27)).alloc (.cells #[.int .i64 n] 2)) w.heap.size [.slice A fs.length c] 27 := (Blk.mk _ [_] _ rfl).alloc _
  have V1 : Blk ((w.alloc (.cells #[.slice A fs.length c] 27)).alloc (.cells #[.int .i64 n] 2)) (w.heap.size + 1) [.int .i64 n] 2 := Blk.mk _ [_] _ (by simp)
  have b0 : Below w.heap.size w ((w.alloc (.cells #[.slice A fs.length c] 27)).alloc (.cells #[.int .i64 n] 2)) := bl_new (bl_new (Below.refl _ _) _) _
  have hs1 := hs.kept b0
  have k1 := setCode_any fs A c n _ hs1
  have hbig := hs.1
  by_cases h0 : askC fs n = 0
  · obtain ⟨hv, h40⟩ := ask_ok h0
    have HL := As.mk (show chosenL fs n = chooseK fs n fs.length by unfold chosenL; rw [if_pos h0])
    rw [h0] at k1 ⊢
    have kc := fun B F L x i hx hi W hW hB hF hL => ChooseDistinct1_any fs hv h40 A c B F L x i hx hi n W hW hB hF hL
    obtain ⟨m, hm⟩ : ∃ m, fs.length = m := ⟨_, rfl⟩
    have HM := As.mk hm
    rw [hm] at h40 k1 kc V0 V1 b0 hs1 hbig ⊢
    clear hm h0
    have c0 := V0.at 0
    have d0 := V1.at 0
    simp only [List.getElem?_cons_zero] at c0 d0
    go_enter Try.func10, Try.ntmps10
    go_wp2_with (fail)
    refine (k1).mono ?_; rintro e w1 ⟨rfl, hb1⟩
    generalize (w.alloc (.cells #[.slice A m c] 27)).alloc (.cells #[.int .i64 n] 2) = W0 at *
    have V0a := V0.kept hb1
    have V1a := V1.kept hb1
    have b1 := bl_call b0 hb1
    clear V0 V1 b0 hb1 c0 d0
    have c1 := V0a.at 0
    simp only [List.getElem?_cons_zero] at c1
    have hs2 := hs.kept b1
    have c1' : (w1.alloc (.cells #[] 2)).cell? ⟨w.heap.size, 0, none⟩ = some (.slice A m c) := by have := (V0a.alloc (.cells #[] 2)).at 0; simpa using this
    go_wp2_with (fail)
    go_loopw [7, 19] (fun v i wr => ∃ k : Nat, k ≤ m ∧ i = .int .i64 k ∧ Own wr w1.heap.size 2 v (i64s (chooseK fs n k)) ∧ Below w1.heap.size w1 wr) (fun _ i _ => m - (intOf i).toNat)
    case atStart => exact ⟨0, by omega, rfl, Own.lit w1 w1.heap.size 2 [] (Nat.le_refl _) (by simp), bl_new (Below.refl _ _) _⟩
    case round =>
      obtain ⟨k, hk, rfl, hO, hb⟩ := hrel
      have hcl := choose_len fs n k
      by_cases hlt : k < m
      · have hlt' : (k : Int) < (m : Int) := by omega
        have hkm : k < fs.length := by rw [HM.out]; exact hlt
        have hmem := As.mk (choose_mem fs n k)
        have hsW := hs2.kept hb
        have hAA := hsW
        obtain ⟨b, o, rfl, hr⟩ := hsW.2.2.2 (by rw [HM.out]; omega)
        have R := hr k _ (nthF_get? fs k hkm)
        have hi := info_len (hs.len k hkm)
        have hl24 : (nthF fs k).length = 24 := hs.len k hkm
        have B1 : Blk (wr.alloc (.cells #[.int .u8 0, .int .u8 0, .int .u8 0, .int .u8 0, .int .u8 0, .int .u8 0, .int .u8 0, .int .u8 0, .int .u8 0, .int .u8 0, .int .u8 0, .int .u8 0, .int .u8 0, .int .u8 0, .int .u8 0, .int .u8 0, .int .u8 0, .int .u8 0, .int .u8 0, .int .u8 0, .int .u8 0, .int .u8 0, .int .u8 0, .int .u8 0] 38)) wr.heap.size (u8s zero24) 38 := Blk.mk _ (u8s zero24) _ rfl
        have B2 := B1.setRow (u8s (nthF fs k))
        have hb2 := bl_setRow (bl_new hb (.cells #[.int .u8 0, .int .u8 0, .int .u8 0, .int .u8 0, .int .u8 0, .int .u8 0, .int .u8 0, .int .u8 0, .int .u8 0, .int .u8 0, .int .u8 0, .int .u8 0, .int .u8 0, .int .u8 0, .int .u8 0, .int .u8 0, .int .u8 0, .int .u8 0, .int .u8 0, .int .u8 0, .int .u8 0, .int .u8 0, .int .u8 0, .int .u8 0] 38)) hb.size (u8s (nthF fs k)).toArray
        have hO2 : Own ((wr.alloc (.cells #[.int .u8 0, .int .u8 0, .int .u8 0, .int .u8 0, .int .u8 0, .int .u8 0, .int .u8 0, .int .u8 0, .int .u8 0, .int .u8 0, .int .u8 0, .int .u8 0, .int .u8 0, .int .u8 0, .int .u8 0, .int .u8 0, .int .u8 0, .int .u8 0, .int .u8 0, .int .u8 0, .int .u8 0, .int .u8 0, .int .u8 0, .int .u8 0] 38)).setRow wr.heap.size (u8s (nthF fs k)).toArray) w1.heap.size 2 u7 (i64s (chooseK fs n k)) := hO.kept (bl_setRow (bl_new (Below.refl _ _) _) (Nat.le_refl _) _)
        clear hr
        obtain ⟨A1, c1x, rfl, S1⟩ := hO2.sl
        generalize hW2 : (wr.alloc (.cells #[.int .u8 0, .int .u8 0, .int .u8 0, .int .u8 0, .int .u8 0, .int .u8 0, .int .u8 0, .int .u8 0, .int .u8 0, .int .u8 0, .int .u8 0, .int .u8 0, .int .u8 0, .int .u8 0, .int .u8 0, .int .u8 0, .int .u8 0, .int .u8 0, .int .u8 0, .int .u8 0, .int .u8 0, .int .u8 0, .int .u8 0, .int .u8 0] 38)).setRow wr.heap.size (u8s (nthF fs k)).toArray = W2 at *
        have hs3 := hs2.kept hb2
        have V0b := V0a.kept hb2
        have V1b := V1a.kept hb2
        have cB := V0b.at 0
        have cL := V1b.at 0
        simp only [List.getElem?_cons_zero] at cB cL
        have key := ContainsFunc_64 47 #[.pointer (some ⟨w.heap.size, 0, none⟩), .pointer (some ⟨wr.heap.size, 0, none⟩), .pointer (some ⟨w.heap.size + 1, 0, none⟩)] (enters Try.func47 (by kernel_rfl) rfl) (chooseK fs n k) (tooNear fs (chooseK fs n k) k n) A1 c1x W2
          (fun W j hj hbW => by
            obtain ⟨x, hxk, hx⟩ := hmem.out _ (nth_mem _ j hj)
            simp only [hx]
            have hn : tooNear fs (chooseK fs n k) k n j = decide (farP fs x k < n) := by unfold tooNear; rw [hx, Int.toNat_natCast]
            rw [hn]
            exact kc w.heap.size wr.heap.size (w.heap.size + 1) x k (by omega) hlt W (hs3.kept hbW) ((V0b.kept hbW).at 0) ((B2.kept hbW).range) ((V1b.kept hbW).at 0)) S1
        have hfit := As.mk (show fitsB fs (chooseK fs n k) k n = !anyBelow (tooNear fs (chooseK fs n k) k n) (chooseK fs n k).length from rfl)
        cases hf : anyBelow (tooNear fs (chooseK fs n k) k n) (chooseK fs n k).length
        · have hst := As.mk (choose_t (fs := fs) (n := n) (k := k) (by rw [hfit.out, hf]; rfl))
          rw [hf] at key
          clear hf hsW hAA kc
          go_wp2_with (first | (refine wpList_load_mid rfl 38 _ rfl _ _ rfl _ _ R Try.underlying38 rfl hi ?_) | (refine store_blk rfl 38 _ _ rfl _ rfl rfl B1 info_fl (by rw [u8s_length]; exact hl24) (by rw [u8s_length]; exact zero24_length) (u8s_one _) ?_))
          refine key.mono ?_; rintro e w3 ⟨rfl, hb3⟩
          have hO3 := hO2.kept hb3
          have b3 := bl_call hb2 hb3
          go_wp2_with (at_builtin; refine app1 (w0 := w1) (w1.heap.size) rfl (.tmp 28) (.tmp 30) 24 2 (.int .i64 0) 8 rfl Try.underlying24 info_i64 rfl (by omega) (.slice A1 (chooseK fs n k).length c1x) (i64s (chooseK fs n k)) (.int .i64 k) rfl rfl rfl hO3 b3 b3.size (by rw [i64s_length]; omega) ?_)
          intro v4 w4 hO4 hb4 _ _
          rw [i64_snoc] at hO4
          go_wp2_with (fail)
          go_roundw
          case rel => exact ⟨k + 1, by omega, by go_num, by rw [hst.out]; exact hO4, hb4⟩
          case measure => simp [intOf]; omega
        · have hst := As.mk (choose_f (fs := fs) (n := n) (k := k) (by rw [hfit.out, hf]; rfl))
          rw [hf] at key
          clear hf hsW hAA kc
          go_wp2_with (first | (refine wpList_load_mid rfl 38 _ rfl _ _ rfl _ _ R Try.underlying38 rfl hi ?_) | (refine store_blk rfl 38 _ _ rfl _ rfl rfl B1 info_fl (by rw [u8s_length]; exact hl24) (by rw [u8s_length]; exact zero24_length) (u8s_one _) ?_))
          refine key.mono ?_; rintro e w3 ⟨rfl, hb3⟩
          have hO3 := hO2.kept hb3
          have b3 := bl_call hb2 hb3
          go_wp2_with (fail)
          go_roundw
          case rel => exact ⟨k + 1, by omega, by go_num, by rw [hst.out]; exact hO3, b3⟩
          case measure => simp [intOf]; omega
      · obtain rfl : k = m := by omega
        go_wp2_with (fail)
        go_ret2
        exact ⟨⟨_, rfl, by rw [HL.out, HM.out]; exact hO.lower b1.size⟩, bl_call b1 hb⟩
  · have HL := As.mk (show chosenL fs n = [] by unfold chosenL; rw [if_neg h0])
    generalize hcc : askC fs n = cc at *
    have h0' : (cc != 0) = true := by simp [h0]
    clear h0 hcc
    have c0 := V0.at 0
    have d0 := V1.at 0
    simp only [List.getElem?_cons_zero] at c0 d0
    go_enter Try.func10, Try.ntmps10
    go_wp2_with (fail)
    refine (k1).mono ?_; rintro e w1 ⟨rfl, hb1⟩
    go_wp2_with (fail)
    go_ret2
    exact ⟨⟨_, rfl, by rw [HL.out]; exact Own.nil _ _ _⟩, bl_call b0 hb1⟩

set_option maxHeartbeats 1000000 in
theorem markFlagS_any (n b : Nat) (cs : List Value) (hcs : cs.length = n * 24) (hn : n ≤ 1048576) (w : World) (h : Blk w b cs 38) :
    Calls Try.prog 13 #[.slice (some ⟨b, 0, none⟩) n n, .int .i64 1] w fun e w' => e = .returned (.int .i64 (1 + (n : Int) * 24)) ∧ w.grownBy w' (some b) := by
  go_enter Try.func13, Try.ntmps13
  go_wp2
  go_loopw [5, 1] (fun i kk wr => ∃ (k : Nat) (ds : List Value), k ≤ n ∧ i = .int .i64 k ∧ kk = .int .i64 (1 + (k : Int) * 24) ∧ ds.length = n * 24 ∧ Blk wr b ds 38 ∧ w.grownBy wr (some b)) (fun i _ _ => n - (intOf i).toNat)
  case atStart => exact ⟨0, cs, by omega, rfl, rfl, hcs, h, World.grownBy.refl _ _⟩
  case round =>
    obtain ⟨k, ds, hk, rfl, rfl, hd, hB, hg⟩ := hrel
    by_cases hlt : k < n
    · have hlt' : (k : Int) < (n : Int) := by omega
      go_wp2
      go_loopw [6, 1] (fun j kk wr => ∃ (i : Nat) (es : List Value), i ≤ 24 ∧ j = .int .i64 i ∧ kk = .int .i64 (1 + (k : Int) * 24 + (i : Int)) ∧ es.length = n * 24 ∧ Blk wr b es 38 ∧ w.grownBy wr (some b)) (fun j _ _ => 24 - (intOf j).toNat)
      case atStart => exact ⟨0, ds, by omega, rfl, by simp, hd, hB, hg⟩
      case round =>
        obtain ⟨i, es, hi, rfl, rfl, he, hB, hg⟩ := hrel
        by_cases hlt2 : i < 24
        · have hlt2' : (i : Int) < 24 := by omega
          obtain ⟨u0, c0⟩ := hB.some (k * 24 + i) (by omega)
          have f0 := hB.frozen (k * 24 + i)
          go_wp2
          go_roundw
          case rel => exact ⟨i + 1, es.set (k * 24 + i) (.int .u8 (IntKind.wrap .u8 (1 + (k : Int) * 24 + (i : Int)))), by omega, by go_num, by go_num, by simp [he], hB.set _ _, hg.trans ⟨rfl, rfl, rfl, by simp, fun g _ hne => Below.heap_setCell _ _ _ _ (fun e => hne (by rw [e]))⟩⟩
          case measure => simp [intOf]; omega
        · obtain rfl : i = 24 := by omega
          go_wp2
          go_roundw
          case rel => exact ⟨k + 1, es, by omega, by go_num, by go_num, he, hB, hg⟩
          case measure => simp [intOf]; omega
    · obtain rfl : k = n := by omega
      go_wp2
      go_ret
      exact ⟨rfl, hg⟩
end Go.Proofs.Ytjppoejkfpeicaa

/- The greatest choice: the search that goes down and the search over all sets find the same list. Plain. -/
set_option linter.unusedVariables false
set_option linter.unusedSimpArgs false
namespace Go.Proofs.Ytjppoejkfpeicaa
def fitsN (f : Nat → Nat → Bool) (T : List Nat) (i : Nat) : Bool := T.all (fun k => f k i)
def updN (T B : List Nat) : List Nat := if B.length < T.length then T else B
def loopS (f : Nat → Nat → Bool) : Nat → Nat → List Nat → List Nat → List Nat
  | 0, _, _, B => B
  | m + 1, k, T, B => if fitsN f T k then loopS f m (k + 1) T (loopS f m (k + 1) (T ++ [k]) (updN (T ++ [k]) B)) else loopS f m (k + 1) T B
/-- one list comes before another, of lists of one length -/
def lexb : List Nat → List Nat → Bool
  | [], _ => false
  | _ :: _, [] => false
  | a :: x, b :: y => decide (a < b) || (decide (a = b) && lexb x y)
theorem lexb_irrefl : ∀ x, lexb x x = false
  | [] => rfl
  | a :: x => by simp [lexb, lexb_irrefl x]
theorem lexb_trans : ∀ x y z, lexb x y = true → lexb y z = true → lexb x z = true
  | [], _, _, h, _ => by simp [lexb] at h
  | _ :: _, [], _, h, _ => by simp [lexb] at h
  | _ :: _, _ :: _, [], _, h => by simp [lexb] at h
  | a :: x, b :: y, c :: z, h1, h2 => by
    simp only [lexb, Bool.or_eq_true, Bool.and_eq_true, decide_eq_true_eq] at h1 h2 ⊢
    rcases h1 with h1 | ⟨h1, h1'⟩ <;> rcases h2 with h2 | ⟨h2, h2'⟩
    · left; omega
    · left; omega
    · left; omega
    · right; exact ⟨by omega, lexb_trans x y z h1' h2'⟩
theorem lexb_total : ∀ x y, x.length = y.length → lexb x y = false → lexb y x = false → x = y
  | [], [], _, _, _ => rfl
  | [], _ :: _, h, _, _ => by simp at h
  | _ :: _, [], h, _, _ => by simp at h
  | a :: x, b :: y, h, h1, h2 => by
    simp only [lexb, Bool.or_eq_false_iff, Bool.and_eq_false_iff, decide_eq_false_iff_not] at h1 h2
    have hab : a = b := by omega
    subst hab
    congr 1
    exact lexb_total x y (by simpa using h) (by simpa using h1) (by simpa using h2)
theorem lexb_asymm (x y) (h : lexb x y = true) : lexb y x = false := by
  cases h2 : lexb y x
  · rfl
  · have := lexb_trans x y x h h2; rw [lexb_irrefl] at this; cases this
/-- x holds rising numbers from k on, below n, that fit behind T -/
def vld (f : Nat → Nat → Bool) (n : Nat) : Nat → List Nat → List Nat → Prop
  | _, _, [] => True
  | k, T, a :: x => k ≤ a ∧ a < n ∧ fitsN f T a = true ∧ vld f n (a + 1) (T ++ [a]) x
theorem vld_mono {f n} : ∀ {x k k' T}, k' ≤ k → vld f n k T x → vld f n k' T x
  | [], _, _, _, _, _ => trivial
  | _ :: _, _, _, _, h, ⟨h1, h2⟩ => ⟨by omega, h2⟩
/-- x is the first one of the longest lists for which p holds -/
def Top (p : List Nat → Prop) (x : List Nat) : Prop := p x ∧ ∀ y, p y → y.length ≤ x.length ∧ (y.length = x.length → lexb y x = false)
theorem Top.one {p : List Nat → Prop} {x y : List Nat} (hx : Top p x) (hy : Top p y) : x = y := by
  have h1 := (hx.2 y hy.1).1
  have h2 := (hy.2 x hx.1).1
  have e : x.length = y.length := by omega
  exact lexb_total x y e ((hy.2 x hx.1).2 e) ((hx.2 y hy.1).2 e.symm)
theorem loopS_top (f : Nat → Nat → Bool) : ∀ (m k : Nat) (T B : List Nat),
    (loopS f m k T B = B ∧ ∀ x, x ≠ [] → vld f (k + m) k T x → T.length + x.length ≤ B.length) ∨
    (∃ x, x ≠ [] ∧ loopS f m k T B = T ++ x ∧ B.length < T.length + x.length ∧ vld f (k + m) k T x ∧ ∀ y, y ≠ [] → vld f (k + m) k T y → y.length ≤ x.length ∧ (y.length = x.length → lexb y x = false))
  | 0, k, T, B => by
    left
    refine ⟨rfl, fun x hx h => ?_⟩
    cases x with
    | nil => exact absurd rfl hx
    | cons a x => simp only [vld] at h; omega
  | m + 1, k, T, B => by
    have e : k + (m + 1) = k + 1 + m := by omega
    rw [e]
    have split : ∀ y, y ≠ [] → vld f (k + 1 + m) k T y → (∃ y', y = k :: y' ∧ fitsN f T k = true ∧ vld f (k + 1 + m) (k + 1) (T ++ [k]) y') ∨ (vld f (k + 1 + m) (k + 1) T y ∧ ∃ a y', y = a :: y' ∧ k < a) := by
      intro y hy h
      cases y with
      | nil => exact absurd rfl hy
      | cons a y =>
        obtain ⟨h1, h2, h3, h4⟩ := h
        by_cases hak : a = k
        · subst hak; exact Or.inl ⟨y, rfl, h3, h4⟩
        · exact Or.inr ⟨⟨by omega, h2, h3, h4⟩, a, y, rfl, by omega⟩
    unfold loopS
    by_cases hf : fitsN f T k = true
    · rw [if_pos hf]
      -- the inner search
      have inner : (loopS f m (k + 1) (T ++ [k]) (updN (T ++ [k]) B) = B ∧ ∀ y', vld f (k + 1 + m) (k + 1) (T ++ [k]) y' → T.length + (k :: y').length ≤ B.length) ∨
          (∃ x, loopS f m (k + 1) (T ++ [k]) (updN (T ++ [k]) B) = T ++ k :: x ∧ B.length < T.length + (k :: x).length ∧ vld f (k + 1 + m) (k + 1) (T ++ [k]) x ∧
            ∀ y, vld f (k + 1 + m) (k + 1) (T ++ [k]) y → (k :: y).length ≤ (k :: x).length ∧ ((k :: y).length = (k :: x).length → lexb (k :: y) (k :: x) = false)) := by
        by_cases hb : B.length < (T ++ [k]).length
        · have hu : updN (T ++ [k]) B = T ++ [k] := by unfold updN; rw [if_pos hb]
          rw [hu]
          right
          rcases loopS_top f m (k + 1) (T ++ [k]) (T ++ [k]) with ⟨h1, h2⟩ | ⟨x, hx, h1, h2, h3, h4⟩
          · refine ⟨[], by rw [h1], by simpa using hb, trivial, fun y hy => ?_⟩
            have : y = [] := by
              apply Classical.byContradiction
              intro hne
              have := h2 y hne hy
              have hlen : 0 < y.length := List.length_pos_iff.2 hne
              omega
            subst this
            exact ⟨Nat.le_refl _, fun _ => lexb_irrefl _⟩
          · refine ⟨x, by rw [h1]; simp, by simp at hb ⊢; omega, h3, fun y hy => ?_⟩
            by_cases hy0 : y = []
            · subst hy0
              refine ⟨by simp, fun he => ?_⟩
              have hlen : 0 < x.length := List.length_pos_iff.2 hx
              simp only [List.length_cons, List.length_nil] at he; omega
            · have := h4 y hy0 hy
              exact ⟨by simpa using this.1, fun he => by simpa [lexb] using this.2 (by simpa using he)⟩
        · have hu : updN (T ++ [k]) B = B := by unfold updN; rw [if_neg hb]
          rw [hu]
          rcases loopS_top f m (k + 1) (T ++ [k]) B with ⟨h1, h2⟩ | ⟨x, hx, h1, h2, h3, h4⟩
          · left
            refine ⟨h1, fun y hy => ?_⟩
            by_cases hy0 : y = []
            · subst hy0; simp at hb ⊢; omega
            · have := h2 y hy0 hy
              simp at this ⊢; omega
          · right
            refine ⟨x, by rw [h1]; simp, by simp at h2 ⊢; omega, h3, fun y hy => ?_⟩
            by_cases hy0 : y = []
            · subst hy0
              refine ⟨by simp, fun he => ?_⟩
              have hlen : 0 < x.length := List.length_pos_iff.2 hx
              simp only [List.length_cons, List.length_nil] at he; omega
            · have := h4 y hy0 hy
              exact ⟨by simpa using this.1, fun he => by simpa [lexb] using this.2 (by simpa using he)⟩
      generalize loopS f m (k + 1) (T ++ [k]) (updN (T ++ [k]) B) = R1 at *
      rcases loopS_top f m (k + 1) T R1 with ⟨h1, h2⟩ | ⟨x, hx, h1, h2, h3, h4⟩
      · rw [h1]
        rcases inner with ⟨e1, i2⟩ | ⟨x, e1, i2, i3, i4⟩
        · left
          refine ⟨e1, fun y hy hv => ?_⟩
          rcases split y hy hv with ⟨y', rfl, _, h⟩ | ⟨h, _⟩
          · exact i2 y' h
          · rw [← e1]; exact h2 y hy h
        · right
          refine ⟨k :: x, by simp, e1, i2, ⟨Nat.le_refl _, by omega, hf, i3⟩, fun y hy hv => ?_⟩
          rcases split y hy hv with ⟨y', rfl, _, h⟩ | ⟨h, a, y', rfl, hlt⟩
          · exact i4 y' h
          · have := h2 _ hy h
            rw [e1] at this
            refine ⟨by simp at this ⊢; omega, fun _ => ?_⟩
            have h1 : ¬ a < k := by omega
            have h2 : ¬ a = k := by omega
            simp [lexb, h1, h2]
      · right
        refine ⟨x, hx, h1, ?_, vld_mono (by omega) h3, fun y hy hv => ?_⟩
        · rcases inner with ⟨e1, i2⟩ | ⟨x', e1, i2, i3, i4⟩
          · rw [e1] at h2; exact h2
          · rw [e1] at h2; simp at h2 i2 ⊢; omega
        · rcases split y hy hv with ⟨y', rfl, _, h⟩ | ⟨h, _⟩
          · have : T.length + (k :: y').length ≤ R1.length := by
              rcases inner with ⟨e1, i2⟩ | ⟨x', e1, i2, i3, i4⟩
              · rw [e1]; exact i2 y' h
              · have := (i4 y' h).1
                rw [e1]; simp at this ⊢; omega
            exact ⟨by simp at this h2 ⊢; omega, fun he => by simp at this h2 he; omega⟩
          · exact h4 y hy h
    · rw [if_neg hf]
      have same : ∀ y, y ≠ [] → (vld f (k + 1 + m) k T y ↔ vld f (k + 1 + m) (k + 1) T y) := fun y hy => ⟨fun h => by
        rcases split y hy h with ⟨_, _, h, _⟩ | ⟨h, _⟩
        · exact absurd h hf
        · exact h, fun h => vld_mono (by omega) h⟩
      rcases loopS_top f m (k + 1) T B with ⟨h1, h2⟩ | ⟨x, hx, h1, h2, h3, h4⟩
      · exact Or.inl ⟨h1, fun y hy h => h2 y hy ((same y hy).1 h)⟩
      · exact Or.inr ⟨x, hx, h1, h2, (same x hx).2 h3, fun y hy h => h4 y hy ((same y hy).1 h)⟩

theorem spec_top (f : Nat → Nat → Bool) (n : Nat) : Top (vld f n 0 []) (loopS f n 0 [] []) := by
  rcases loopS_top f n 0 [] [] with ⟨h1, h2⟩ | ⟨x, hx, h1, h2, h3, h4⟩
  · rw [h1]
    refine ⟨trivial, fun y hy => ?_⟩
    by_cases hy0 : y = []
    · subst hy0; exact ⟨Nat.le_refl _, fun _ => rfl⟩
    · have := h2 y hy0 (by rw [Nat.zero_add]; exact hy)
      have hlen : 0 < y.length := List.length_pos_iff.2 hy0
      simp at this
      subst this
      exact absurd rfl hy0
  · rw [h1]
    rw [Nat.zero_add] at h3 h4
    refine ⟨h3, fun y hy => ?_⟩
    by_cases hy0 : y = []
    · subst hy0
      have hlen : 0 < x.length := List.length_pos_iff.2 hx
      exact ⟨by simp, fun he => by simp at he; omega⟩
    · exact h4 y hy0 hy

/-- the numbers of a set -/
def ownN (n s : Nat) : List Nat := (List.range n).filter (fun i => s.testBit i)
/-- all pairs of a list are far from each other -/
def accN (f : Nat → Nat → Bool) : List Nat → List Nat → Bool
  | _, [] => true
  | T, a :: x => fitsN f T a && accN f (T ++ [a]) x
def betterN (x y : List Nat) : Bool := decide (y.length < x.length) || (decide (x.length = y.length) && lexb x y)
def bestN (f : Nat → Nat → Bool) (n : Nat) : Nat → List Nat
  | 0 => []
  | s + 1 => if (betterN (ownN n s) (bestN f n s) && accN f [] (ownN n s)) then ownN n s else bestN f n s
theorem bestN_top (f : Nat → Nat → Bool) (n : Nat) : ∀ s, 0 < s → Top (fun x => ∃ r, r < s ∧ ownN n r = x ∧ accN f [] x = true) (bestN f n s)
  | 0, h => absurd h (by omega)
  | s + 1, _ => by
    by_cases hs : s = 0
    · subst hs
      have h0 : ownN n 0 = [] := by simp [ownN]
      have hb : bestN f n 1 = [] := by simp [bestN, h0, betterN, lexb]
      rw [hb]
      refine ⟨⟨0, by omega, h0, rfl⟩, ?_⟩
      rintro y ⟨r, hr, rfl, _⟩
      obtain rfl : r = 0 := by omega
      rw [h0]
      exact ⟨Nat.le_refl _, fun _ => rfl⟩
    · have ih := bestN_top f n s (by omega)
      unfold bestN
      generalize bestN f n s = B at *
      obtain ⟨⟨r0, hr0, e0, a0⟩, ih2⟩ := ih
      by_cases h : (betterN (ownN n s) B && accN f [] (ownN n s)) = true
      · rw [if_pos h]
        simp only [Bool.and_eq_true, betterN, Bool.or_eq_true, decide_eq_true_eq] at h
        obtain ⟨hb, ha⟩ := h
        refine ⟨⟨s, by omega, rfl, ha⟩, ?_⟩
        rintro y ⟨r, hr, rfl, hy⟩
        by_cases hrs : r = s
        · subst hrs; exact ⟨Nat.le_refl _, fun _ => lexb_irrefl _⟩
        · have := ih2 (ownN n r) ⟨r, by omega, rfl, hy⟩
          rcases hb with hb | ⟨hb, hl⟩
          · exact ⟨by omega, fun he => by omega⟩
          · refine ⟨by omega, fun he => ?_⟩
            have h3 := this.2 (by omega)
            cases h4 : lexb (ownN n r) (ownN n s)
            · rfl
            · rw [lexb_trans _ _ _ h4 hl] at h3; cases h3
      · rw [if_neg h]
        refine ⟨⟨r0, by omega, e0, a0⟩, ?_⟩
        rintro y ⟨r, hr, rfl, hy⟩
        by_cases hrs : r = s
        · subst hrs
          simp only [Bool.and_eq_true, betterN, Bool.or_eq_true, decide_eq_true_eq] at h
          rw [hy] at h
          simp only [and_true, not_or, not_and] at h
          refine ⟨by omega, fun he => ?_⟩
          have := h.2 he
          simpa using this
        · exact ih2 (ownN n r) ⟨r, by omega, rfl, hy⟩

theorem bits_of (p : Nat → Bool) : ∀ n, ∃ s, s < 2 ^ n ∧ ∀ i, i < n → s.testBit i = p i
  | 0 => ⟨0, by simp, fun i h => absurd h (by omega)⟩
  | n + 1 => by
    obtain ⟨s, hs, h⟩ := bits_of p n
    have h2 : 2 ^ (n + 1) = 2 ^ n + 2 ^ n := by rw [Nat.pow_succ]; omega
    cases hp : p n
    · refine ⟨s, by omega, fun i hi => ?_⟩
      by_cases hin : i = n
      · subst hin; rw [hp]; exact Nat.testBit_lt_two_pow hs
      · exact h i (by omega)
    · refine ⟨2 ^ n + s, by omega, fun i hi => ?_⟩
      by_cases hin : i = n
      · subst hin
        rw [hp, Nat.testBit_two_pow_add_eq, Nat.testBit_lt_two_pow hs]; rfl
      · rw [Nat.testBit_two_pow_add_gt (by omega)]
        exact h i (by omega)
/-- x rises, within [k, n) -/
def risesN (n : Nat) : Nat → List Nat → Prop
  | _, [] => True
  | k, a :: x => k ≤ a ∧ a < n ∧ risesN n (a + 1) x
theorem rises_ge {n : Nat} : ∀ {x : List Nat} {k : Nat}, risesN n k x → ∀ a ∈ x, k ≤ a ∧ a < n
  | [], _, _, a, ha => by cases ha
  | b :: x, k, ⟨h1, h2, h3⟩, a, ha => by
    rcases List.mem_cons.1 ha with rfl | ha
    · exact ⟨h1, h2⟩
    · have := rises_ge h3 a ha; omega
theorem filter_rises (p : Nat → Bool) : ∀ (m k : Nat) (x : List Nat), risesN (k + m) k x → (∀ i, k ≤ i → i < k + m → (p i = true ↔ i ∈ x)) → (List.range' k m).filter p = x
  | 0, k, x, h, _ => by
    cases x with
    | nil => rfl
    | cons a x => simp only [risesN] at h; omega
  | m + 1, k, x, h, hp => by
    rw [List.range'_succ]
    have e : k + (m + 1) = k + 1 + m := by omega
    rw [e] at h hp
    cases x with
    | nil =>
      have : p k = false := by
        have := hp k (by omega) (by omega)
        simpa using this
      rw [List.filter_cons_of_neg (by rw [this]; simp)]
      exact filter_rises p m (k + 1) [] trivial (fun i h1 h2 => hp i (by omega) h2)
    | cons a x =>
      obtain ⟨h1, h2, h3⟩ := h
      by_cases ha : a = k
      · subst ha
        rw [List.filter_cons_of_pos ((hp a (by omega) (by omega)).2 (by simp))]
        rw [filter_rises p m (a + 1) x h3 (fun i h1 h2 => ?_)]
        rw [hp i (by omega) h2]
        constructor
        · intro hi
          rcases List.mem_cons.1 hi with rfl | hi
          · omega
          · exact hi
        · intro hi; exact List.mem_cons_of_mem _ hi
      · have hk : ¬ p k = true := by
          rw [hp k (by omega) (by omega)]
          intro hk
          rcases List.mem_cons.1 hk with rfl | hk
          · exact ha rfl
          · have := rises_ge h3 k hk; omega
        rw [List.filter_cons_of_neg hk]
        exact filter_rises p m (k + 1) (a :: x) ⟨by omega, h2, h3⟩ (fun i h1 h2 => hp i (by omega) h2)
theorem rises_filter (p : Nat → Bool) : ∀ (m k : Nat), risesN (k + m) k ((List.range' k m).filter p)
  | 0, k => trivial
  | m + 1, k => by
    rw [List.range'_succ]
    have e : k + (m + 1) = k + 1 + m := by omega
    have ih := rises_filter p m (k + 1)
    rw [e]
    cases hp : p k
    · rw [List.filter_cons_of_neg (by rw [hp]; simp)]
      have mono : ∀ {x : List Nat}, risesN (k + 1 + m) (k + 1) x → risesN (k + 1 + m) k x := by
        intro x h
        cases x with
        | nil => trivial
        | cons a x => exact ⟨by have := h.1; omega, h.2⟩
      exact mono ih
    · rw [List.filter_cons_of_pos hp]
      exact ⟨by omega, by omega, ih⟩
theorem own_rises (n s : Nat) : risesN n 0 (ownN n s) := by
  have := rises_filter (fun i => s.testBit i) n 0
  rw [Nat.zero_add] at this
  unfold ownN
  rw [List.range_eq_range']
  exact this
theorem vld_iff (f : Nat → Nat → Bool) (n : Nat) : ∀ (x : List Nat) (k : Nat) (T : List Nat), vld f n k T x ↔ risesN n k x ∧ accN f T x = true
  | [], k, T => by simp [vld, risesN, accN]
  | a :: x, k, T => by
    simp only [vld, risesN, accN, Bool.and_eq_true, vld_iff f n x]
    constructor
    · rintro ⟨h1, h2, h3, h4, h5⟩; exact ⟨⟨h1, h2, h4⟩, h3, h5⟩
    · rintro ⟨⟨h1, h2, h4⟩, h3, h5⟩; exact ⟨h1, h2, h3, h4, h5⟩
theorem own_all (f : Nat → Nat → Bool) (n : Nat) (x : List Nat) : (∃ r, r < 2 ^ n ∧ ownN n r = x ∧ accN f [] x = true) ↔ vld f n 0 [] x := by
  rw [vld_iff]
  constructor
  · rintro ⟨r, _, rfl, h⟩; exact ⟨own_rises n r, h⟩
  · rintro ⟨h1, h2⟩
    obtain ⟨s, hs, hb⟩ := bits_of (fun i => decide (i ∈ x)) n
    refine ⟨s, hs, ?_, h2⟩
    unfold ownN
    rw [List.range_eq_range']
    refine filter_rises _ n 0 x (by rw [Nat.zero_add]; exact h1) (fun i _ hi => ?_)
    rw [hb i (by omega)]; simp
/-- both searches find the same list -/
theorem best_both (f : Nat → Nat → Bool) (n : Nat) : bestN f n (2 ^ n) = loopS f n 0 [] [] := by
  have h1 := bestN_top f n (2 ^ n) (Nat.two_pow_pos n)
  have e : (fun x => ∃ r, r < 2 ^ n ∧ ownN n r = x ∧ accN f [] x = true) = vld f n 0 [] := by
    funext x; exact propext (own_all f n x)
  rw [e] at h1
  exact h1.one (spec_top f n)
end Go.Proofs.Ytjppoejkfpeicaa
