/- Contracts: slices of strings, books: sizes, copies, comparisons; SameBook (both sides). -/
import Derived.Test.YtnokdbnlagoidaaH3
import Derived.Test.YtnokdbnlagoidaaOn
import Derived.Test.YtnokdbnlagoidaaLw
import Derived.BigQuiet
set_option linter.unusedVariables false
namespace Go.Proofs.Ytnokdbnlagoidaa
open Go.RowKit

def strs (ss : List ByteArray) : List Value := ss.map Value.string
theorem strs_length (ss : List ByteArray) : (strs ss).length = ss.length := by simp [strs]
def nthS (ss : List ByteArray) (i : Nat) : ByteArray := ss.getD i ⟨#[]⟩
theorem nthS_get (ss : List ByteArray) (i : Nat) (h : i < ss.length) : nthS ss i = ss[i] := by
  unfold nthS; rw [List.getD_eq_getElem?_getD, List.getElem?_eq_getElem h]; rfl
theorem strs_get (ss : List ByteArray) (i : Nat) (h : i < ss.length) : (strs ss)[i]? = some (.string (nthS ss i)) := by
  unfold strs; rw [List.getElem?_map, List.getElem?_eq_getElem h, nthS_get ss i h]; rfl
theorem nthS_mem (ss : List ByteArray) (i : Nat) (h : i < ss.length) : nthS ss i ∈ ss := by rw [nthS_get ss i h]; exact List.getElem_mem h
/-- A slice of strings. -/
def SlS (w : World) (A : Option Addr) (ss : List ByteArray) : Prop := ss.length ≤ 9223372036854775807 ∧ (∀ s ∈ ss, s.size ≤ maxLen) ∧ (0 < ss.length → ∃ b o, A = some ⟨b, o, none⟩ ∧ w.rangeAt b o (strs ss))
theorem SlS.kept {w w' : World} {A : Option Addr} {ss : List ByteArray} (h : SlS w A ss) (hb : Below w.heap.size w w') : SlS w' A ss :=
  And.intro h.1 (And.intro h.2.1 fun hp => by obtain ⟨b, o, e, hr⟩ := h.2.2 hp; exact ⟨b, o, e, range_below hr hb⟩)
theorem SlS.at {w : World} {b o : Nat} {ss : List ByteArray} (h : w.rangeAt b o (strs ss)) (i : Nat) (hi : i < ss.length) : w.cell? ⟨b, o + i, none⟩ = some (.string (nthS ss i)) := h i _ (strs_get ss i hi)
theorem Own.slS {w : World} {base : Nat} {e : TypeId} {v : Value} {ss : List ByteArray} (h : Own w base e v (strs ss)) (hz : ∀ s ∈ ss, s.size ≤ maxLen) : ∃ A c, v = .slice A ss.length c ∧ SlS w A ss := by
  rcases h.form with ⟨rfl, hn⟩ | ⟨g, c, rfl, _, _, hr, _, hm, _⟩
  · have : ss = [] := by simpa [strs] using hn
    subst this
    exact ⟨none, 0, rfl, by simp, hz, fun hp => by simp at hp⟩
  · rw [strs_length] at hm ⊢
    exact ⟨_, c, rfl, hm, hz, fun _ => ⟨g, 0, rfl, hr⟩⟩

/-- The first k strings, then empty ones. -/
def partS (ss : List ByteArray) (n k : Nat) : List ByteArray := (List.range n).map fun i => if i < k then nthS ss i else ⟨#[]⟩
theorem partS_length (ss : List ByteArray) (n k : Nat) : (partS ss n k).length = n := by simp [partS]
theorem partS_zero (ss : List ByteArray) (n : Nat) : partS ss n 0 = List.replicate n ⟨#[]⟩ := by
  unfold partS
  apply List.ext_getElem
  · simp
  · intro i h1 h2; simp
theorem partS_set (ss : List ByteArray) (n k : Nat) : (strs (partS ss n k)).set k (.string (nthS ss k)) = strs (partS ss n (k + 1)) := by
  unfold strs partS
  apply List.ext_getElem
  · simp
  · intro i h1 h2
    simp only [List.getElem_set, List.getElem_map, List.getElem_range]
    by_cases h : k = i
    · subst h; simp
    · rw [if_neg h]
      by_cases h3 : i < k
      · rw [if_pos h3, if_pos (by omega)]
      · rw [if_neg h3, if_neg (by omega)]
theorem partS_full (ss : List ByteArray) (n : Nat) (h : ss.length = n) : partS ss n n = ss := by
  subst h
  unfold partS
  apply List.ext_getElem
  · simp
  · intro i h1 h2
    simp only [List.getElem_map, List.getElem_range]
    rw [if_pos h2, nthS_get ss i h2]

set_option maxHeartbeats 400000 in
theorem toStringS_any (ss : List ByteArray) (A : Option Addr) (c : Nat) (w : World) (h : SlS w A ss) (hn : ss.length ≤ 1048576) :
    Calls Try.prog 66 #[.slice A ss.length c] w fun e w' => e = .returned (.slice (some ⟨w.heap.size, 0, none⟩) ss.length ss.length) ∧ Blk w' w.heap.size (strs ss) 9 ∧ Below w.heap.size w w' := by
  obtain ⟨zs, hzs⟩ : ∃ zs : List Value, List.replicate ss.length (Value.string ⟨#[]⟩) = zs := ⟨_, rfl⟩
  have hmk := make_of (P := Try.prog) 43 9 (.string ⟨#[]⟩) 16 Try.underlying43 info_s rfl (by omega) ss.length (by omega)
  rw [hzs] at hmk
  have h0 : Blk (w.alloc (.cells zs.toArray 9)) w.heap.size (strs (partS ss ss.length 0)) 9 := by
    rw [partS_zero]
    have : strs (List.replicate ss.length ⟨#[]⟩) = zs := by rw [← hzs]; unfold strs; rw [List.map_replicate]
    rw [this]; exact Blk.new _ _ _
  have b0 := bl_new (Below.refl _ w) (.cells zs.toArray 9)
  clear hzs
  generalize hm : ss.length = n at *
  have HM := As.mk hm
  clear hm
  go_enter Try.func66, Try.ntmps66
  go_wp2
  generalize w.alloc (.cells zs.toArray 9) = W at *
  clear hmk
  go_loopw [4] (fun i wr => ∃ k : Nat, k ≤ n ∧ i = .int .i64 k ∧ Blk wr w.heap.size (strs (partS ss n k)) 9 ∧ Below w.heap.size w wr) (fun i _ => n - (intOf i).toNat)
  case atStart => exact ⟨0, by omega, rfl, h0, b0⟩
  case round =>
    obtain ⟨k, hk, rfl, h1, hb⟩ := hrel
    by_cases hlt : k < n
    · have hlt' : (k : Int) < (n : Int) := by omega
      obtain ⟨b, o, rfl, hr⟩ := h.2.2 (by rw [HM.out]; omega)
      have c0 : wr.cell? ⟨b, o + k, none⟩ = some (.string (nthS ss k)) := by
        have h0 := SlS.at hr k (by rw [HM.out]; omega)
        rw [hb.cell (World.block_lt_of_cell? w _ h0)]; exact h0
      obtain ⟨v2, c2⟩ := h1.some k (by rw [strs_length, partS_length]; exact hlt)
      have f2 := h1.frozen k
      go_wp2
      go_roundw
      case rel => exact ⟨k + 1, by omega, by go_num, by have := h1.set k (.string (nthS ss k)); rw [partS_set] at this; exact this, hb.setCell (by simp) _⟩
      case measure => simp [intOf]; omega
    · obtain rfl : k = n := by omega
      rw [partS_full ss k HM.out] at h1
      go_wp2
      go_ret
      exact ⟨rfl, h1, hb⟩

/-- The size of strings, as far as a law asks it. -/
def Sized (ss : List ByteArray) (left r : Int) : Prop := r ≤ left ∧ (r = -1 ∨ (0 ≤ r ∧ ss.length ≤ 1048576 ∧ ∀ s ∈ ss, s.size ≤ 1048576))
set_option maxHeartbeats 400000 in
theorem szStringS_any (ss : List ByteArray) (A : Option Addr) (c : Nat) (left : Int) (hl : 0 ≤ left ∧ left ≤ 1048576) (w : World) (h : SlS w A ss) :
    Calls Try.prog 65 #[.slice A ss.length c, .int .i64 left] w fun e w' => (∃ r : Int, e = .returned (.int .i64 r) ∧ Sized ss left r) ∧ w = w' := by
  obtain ⟨l0, l1⟩ := hl
  have hbig := h.1
  generalize hm : ss.length = n at *
  have HM := As.mk hm
  clear hm
  by_cases hlt : (n : Int) ≤ left
  · have h1 : ¬ (left - (n : Int) < 0) := by omega
    have hn2 : (n : Int) ≤ 1048576 := by omega
    go_enter Try.func65, Try.ntmps65
    go_wp2
    go_loopw [1, 5] (fun l i wr => ∃ (k : Nat) (r : Int), k ≤ n ∧ i = .int .i64 k ∧ l = .int .i64 r ∧ w = wr ∧ As (0 ≤ r ∧ r ≤ left ∧ ∀ j, j < k → (nthS ss j).size ≤ 1048576)) (fun _ i _ => n - (intOf i).toNat)
    case atStart => exact ⟨0, left - n, by omega, rfl, rfl, rfl, ⟨by omega, by omega, fun j hj => by omega⟩⟩
    case round =>
      obtain ⟨k, r, hk, rfl, rfl, rfl, H⟩ := hrel
      by_cases hlk : k < n
      · have hlt' : (k : Int) < (n : Int) := by omega
        obtain ⟨b, o, rfl, hr⟩ := h.2.2 (by rw [HM.out]; omega)
        have c0 := SlS.at hr k (by rw [HM.out]; omega)
        have hz := h.2.1 _ (nthS_mem ss k (by rw [HM.out]; omega))
        simp only [maxLen] at hz
        have r0 := H.out.1
        have r1 := H.out.2.1
        generalize hsz : (nthS ss k).size = z at *
        have hz' : (z : Int) ≤ 9223372036854775807 := by omega
        by_cases hlz : (z : Int) ≤ r
        · have h2 : ¬ (r - (z : Int) < 0) := by omega
          have hz1 := As.mk (show (nthS ss k).size ≤ 1048576 by rw [hsz]; omega)
          go_wp2
          go_roundw
          case rel => exact ⟨k + 1, r - z, by omega, by go_num, rfl, by trivial, ⟨by omega, by omega, all_succ (p := fun j => (nthS ss j).size ≤ 1048576) H.out.2.2 hz1.out⟩⟩
          case measure => simp [intOf]; omega
        · have h2 : r - (z : Int) < 0 := by omega
          go_wp2
          go_ret
          exact ⟨⟨-1, rfl, by omega, .inl rfl⟩, rfl⟩
      · obtain rfl : k = n := by omega
        have r0 := H.out.1
        have r1 := H.out.2.1
        go_wp2
        go_ret
        refine ⟨⟨r, rfl, r1, .inr ⟨r0, by rw [HM.out]; omega, fun s hs => ?_⟩⟩, rfl⟩
        obtain ⟨i, hi, rfl⟩ := List.mem_iff_getElem.1 hs
        rw [← nthS_get ss i hi]
        exact H.out.2.2 i (by rw [← HM.out]; exact hi)
  · have h1 : left - (n : Int) < 0 := by omega
    go_enter Try.func65, Try.ntmps65
    go_wp2
    go_ret
    exact ⟨⟨-1, rfl, by omega, .inl rfl⟩, rfl⟩

theorem toList_ne {u v : ByteArray} (h : u ≠ v) : (u.toList == v.toList) = false := by
  rw [beq_eq_false_iff_ne]
  intro e
  apply h
  rw [ByteArray.toList_eq, ByteArray.toList_eq] at e
  exact ByteArray.ext (Array.toList_inj.1 e)
theorem ext_nthS {ss ts : List ByteArray} (hl : ss.length = ts.length) : ss = ts ↔ ∀ i, i < ts.length → nthS ss i = nthS ts i := by
  constructor
  · intro h i _; rw [h]
  · intro h
    apply List.ext_getElem hl
    intro i h1 h2
    rw [← nthS_get ss i h1, ← nthS_get ts i h2]
    exact h i h2
set_option maxRecDepth 100000 in
set_option maxHeartbeats 1000000 in
theorem eqStringS_any (ss ts : List ByteArray) (A B : Option Addr) (c d : Nat) (w : World) (h1 : SlS w A ss) (h2 : SlS w B ts) :
    Calls Try.prog 68 #[.slice A ss.length c, .slice B ts.length d] w fun e w' => e = .returned (.bool (decide (ss = ts))) ∧ Below w.heap.size w w' := by
  have hbig := h1.1
  have hbig2 := h2.1
  by_cases hl : ss.length = ts.length
  · have HE := As.mk (ext_nthS hl)
    have HL := As.mk hl
    rw [hl] at hbig ⊢
    generalize hn : ts.length = n at *
    have HN := As.mk hn
    clear hl hn
    go_enter Try.func68, Try.ntmps68
    go_wp2
    go_loopw [5] (fun i wr => ∃ k : Nat, k ≤ n ∧ i = .int .i64 k ∧ As ((∃ q, wr = w.drewN q) ∧ ∀ j, j < k → nthS ss j = nthS ts j)) (fun i _ => n - (intOf i).toNat)
    case atStart => exact ⟨0, by omega, rfl, ⟨⟨0, rfl⟩, fun j hj => by omega⟩⟩
    case round =>
      obtain ⟨k, hk, rfl, H⟩ := hrel
      by_cases hlt : k < n
      · have hlt' : (k : Int) < (n : Int) := by omega
        obtain ⟨b, o, rfl, hr⟩ := h1.2.2 (by rw [HL.out]; omega)
        obtain ⟨b2, o2, rfl, hr2⟩ := h2.2.2 (by rw [HN.out]; omega)
        have c0 : wr.cell? ⟨b, o + k, none⟩ = some (.string (nthS ss k)) := by obtain ⟨q, hq⟩ := H.out.1; rw [hq]; exact SlS.at hr k (by rw [HL.out]; omega)
        have c1 : wr.cell? ⟨b2, o2 + k, none⟩ = some (.string (nthS ts k)) := by obtain ⟨q, hq⟩ := H.out.1; rw [hq]; exact SlS.at hr2 k (by rw [HN.out]; omega)
        have hd : ∀ nq, ∃ q, wr.drewN nq = w.drewN q := fun nq => by obtain ⟨q, hq⟩ := H.out.1; exact ⟨q + nq, by rw [hq]; simp [World.drewN, Nat.add_assoc]⟩
        have hd := As.mk hd
        have hbl := As.mk (show Below w.heap.size w wr by obtain ⟨q, hq⟩ := H.out.1; rw [hq]; exact bl_drewN (Below.refl _ _) _)
        by_cases he : nthS ss k = nthS ts k
        · have he' := As.mk (all_succ (p := fun j => nthS ss j = nthS ts j) H.out.2 he)
          rw [he] at c0
          clear he
          generalize nthS ts k = u at *
          go_wp2
          go_quiet (fail)
          go_wp2
          go_roundw
          case rel => exact ⟨k + 1, by omega, by go_num, ⟨hd.out _, he'.out⟩⟩
          case measure => simp [intOf]; omega
        · have hne2 := As.mk (show ¬ ss = ts from fun e => he (by rw [e]))
          have hb : ((nthS ss k).toList == (nthS ts k).toList) = false := toList_ne he
          generalize nthS ss k = u at *
          generalize nthS ts k = v at *
          clear he
          go_wp2
          go_quiet (fail)
          go_wp2
          go_ret
          exact ⟨ret_b (by rw [decide_eq_false hne2.out]), bl_drewN hbl.out _⟩
      · obtain rfl : k = n := by omega
        have hall := As.mk (show ss = ts from HE.out.2 H.out.2)
        have hbl := As.mk (show Below w.heap.size w wr by obtain ⟨q, hq⟩ := H.out.1; rw [hq]; exact bl_drewN (Below.refl _ _) _)
        go_wp2
        go_ret
        exact ⟨ret_b (by rw [decide_eq_true hall.out]), hbl.out⟩
  · have hne : ((ss.length : Int) != (ts.length : Int)) = true := by rw [bne_iff_ne]; omega
    have hne2 := As.mk (show ¬ ss = ts from fun e => hl (by rw [e]))
    generalize ss.length = n at *
    generalize ts.length = m at *
    clear hl
    go_enter Try.func68, Try.ntmps68
    go_wp2
    go_ret
    exact ⟨ret_b (by rw [decide_eq_false hne2.out]), Below.refl _ _⟩

set_option maxRecDepth 100000 in
set_option maxHeartbeats 1000000 in
theorem EqualS_any (ss ts : List ByteArray) (A B : Option Addr) (c d : Nat) (w : World) (h1 : SlS w A ss) (h2 : SlS w B ts) :
    Calls Try.prog 67 #[.slice A ss.length c, .slice B ts.length d] w fun e w' => e = .returned (.bool (decide (ss = ts))) ∧ Below w.heap.size w w' := by
  have hbig := h1.1
  have hbig2 := h2.1
  by_cases hl : ss.length = ts.length
  · have HE := As.mk (ext_nthS hl)
    have HL := As.mk hl
    rw [hl] at hbig ⊢
    generalize hn : ts.length = n at *
    have HN := As.mk hn
    clear hl hn
    go_enter Try.func67, Try.ntmps67
    go_wp2
    go_loopw [13] (fun i wr => ∃ k : Nat, k ≤ n ∧ i = .int .i64 k ∧ As ((∃ q, wr = w.drewN q) ∧ ∀ j, j < k → nthS ss j = nthS ts j)) (fun i _ => n - (intOf i).toNat)
    case atStart => exact ⟨0, by omega, rfl, ⟨⟨0, rfl⟩, fun j hj => by omega⟩⟩
    case round =>
      obtain ⟨k, hk, rfl, H⟩ := hrel
      by_cases hlt : k < n
      · have hlt' : (k : Int) < (n : Int) := by omega
        obtain ⟨b, o, rfl, hr⟩ := h1.2.2 (by rw [HL.out]; omega)
        obtain ⟨b2, o2, rfl, hr2⟩ := h2.2.2 (by rw [HN.out]; omega)
        have c0 : wr.cell? ⟨b, o + k, none⟩ = some (.string (nthS ss k)) := by obtain ⟨q, hq⟩ := H.out.1; rw [hq]; exact SlS.at hr k (by rw [HL.out]; omega)
        have c1 : wr.cell? ⟨b2, o2 + k, none⟩ = some (.string (nthS ts k)) := by obtain ⟨q, hq⟩ := H.out.1; rw [hq]; exact SlS.at hr2 k (by rw [HN.out]; omega)
        have hd : ∀ nq, ∃ q, wr.drewN nq = w.drewN q := fun nq => by obtain ⟨q, hq⟩ := H.out.1; exact ⟨q + nq, by rw [hq]; simp [World.drewN, Nat.add_assoc]⟩
        have hd := As.mk hd
        have hbl := As.mk (show Below w.heap.size w wr by obtain ⟨q, hq⟩ := H.out.1; rw [hq]; exact bl_drewN (Below.refl _ _) _)
        by_cases he : nthS ss k = nthS ts k
        · have he' := As.mk (all_succ (p := fun j => nthS ss j = nthS ts j) H.out.2 he)
          rw [he] at c0
          clear he
          generalize nthS ts k = u at *
          go_wp2
          go_quiet (fail)
          go_wp2
          go_roundw
          case rel => exact ⟨k + 1, by omega, by go_num, ⟨hd.out _, he'.out⟩⟩
          case measure => simp [intOf]; omega
        · have hne2 := As.mk (show ¬ ss = ts from fun e => he (by rw [e]))
          have hb : ((nthS ss k).toList == (nthS ts k).toList) = false := toList_ne he
          generalize nthS ss k = u at *
          generalize nthS ts k = v at *
          clear he
          go_wp2
          go_quiet (fail)
          go_wp2
          go_ret
          exact ⟨ret_b (by rw [decide_eq_false hne2.out]), bl_drewN hbl.out _⟩
      · obtain rfl : k = n := by omega
        have hall := As.mk (show ss = ts from HE.out.2 H.out.2)
        have hbl := As.mk (show Below w.heap.size w wr by obtain ⟨q, hq⟩ := H.out.1; rw [hq]; exact bl_drewN (Below.refl _ _) _)
        go_wp2
        go_ret
        exact ⟨ret_b (by rw [decide_eq_true hall.out]), hbl.out⟩
  · have hne : ((ss.length : Int) != (ts.length : Int)) = true := by rw [bne_iff_ne]; omega
    have hne2 := As.mk (show ¬ ss = ts from fun e => hl (by rw [e]))
    generalize ss.length = n at *
    generalize ts.length = m at *
    clear hl
    go_enter Try.func67, Try.ntmps67
    go_wp2
    go_ret
    exact ⟨ret_b (by rw [decide_eq_false hne2.out]), Below.refl _ _⟩

theorem setRow_grown (w : World) (g : Nat) (ds : Array Value) : w.grownBy (w.setRow g ds) (some g) := ⟨rfl, rfl, rfl, by simp, fun k hk hne => setRow_other w g k ds (fun e => hne (by rw [e]))⟩
/-- A book by value. -/
structure Bok where
  k : Int
  l : Int
  s : Int
  ps : List ByteArray
deriving DecidableEq
/-- Its numbers are bytes. -/
def bokR (b : Bok) : Prop := (-128 ≤ b.k ∧ b.k ≤ 127) ∧ (-128 ≤ b.l ∧ b.l ≤ 127) ∧ (-128 ≤ b.s ∧ b.s ≤ 127)
def bokC (b : Bok) (A : Option Addr) (c : Nat) : List Value := [.int .i8 b.k, .int .i8 b.l, .int .i8 b.s, .slice A b.ps.length c]
def bok (b : Bok) (A : Option Addr) (c : Nat) : Value := .agg (bokC b A c).toArray
theorem info_lb : (Try.prog.info? 45).map (·.size) = some 4 := by kernel_rfl
theorem info_ib : (Try.prog.info? 48).map (·.size) = some 4 := by kernel_rfl

set_option maxRecDepth 100000 in
set_option maxHeartbeats 400000 in
theorem szBook_any (b : Bok) (A : Option Addr) (c : Nat) (left : Int) (hl : 0 ≤ left ∧ left ≤ 1048576) (w : World) (h : SlS w A b.ps) :
    Calls Try.prog 31 #[bok b A c, .int .i64 left] w fun e w' => (∃ r : Int, e = .returned (.int .i64 r) ∧ Sized b.ps left r) ∧ Below w.heap.size w w' := by
  have bb := bl_new (Below.refl _ w) (.cells (bokC b A c).toArray 45)
  have key := szStringS_any b.ps A c left hl _ (h.kept bb)
  obtain ⟨k, l, s, ps⟩ := b
  unfold bok
  unfold bokC at *
  simp only at *
  generalize ps.length = n at *
  have hl1 := hl.2
  go_enter Try.func31, Try.ntmps31
  go_wp2_with (fail)
  refine key.mono ?_; rintro e w1 ⟨⟨r, rfl, hr⟩, rfl⟩
  have hr1 := hr.1
  by_cases hlt : r < 0
  · have hr' := As.mk hr
    clear hr
    go_wp2_with (fail)
    go_ret
    exact ⟨⟨-1, rfl, by omega, .inl rfl⟩, bb⟩
  · have hr' := As.mk hr
    clear hr
    go_wp2_with (fail)
    go_ret
    exact ⟨⟨r, rfl, hr'.out⟩, bb⟩
set_option maxRecDepth 100000 in
set_option maxHeartbeats 1000000 in
theorem toBook_any (b : Bok) (A : Option Addr) (c : Nat) (w : World) (h : SlS w A b.ps) (hn : b.ps.length ≤ 1048576) :
    Calls Try.prog 33 #[bok b A c] w fun e w' => (∃ A' c', e = .returned (bok b A' c') ∧ Own w' w.heap.size 9 (.slice A' b.ps.length c') (strs b.ps)) ∧ Below w.heap.size w w' := by
  have bb := bl_new (bl_new (bl_new (Below.refl _ w) (.cells (bokC b A c).toArray 45)) (.cells #[.int .i8 0, .int .i8 0, .int .i8 0, .slice none 0 0] 48)) (.cells #[.int .i8 b.k, .int .i8 b.l, .int .i8 b.s, .slice none 0 0] 48)
  have key := toStringS_any b.ps A c _ (h.kept bb) hn
  obtain ⟨k, l, s, ps⟩ := b
  unfold bok
  unfold bokC at *
  simp only at *
  have hml : (strs ps).length ≤ 9223372036854775807 := by rw [strs_length]; omega
  have hsl := strs_length ps
  generalize ps.length = n at *
  have B2 : Blk (((w.alloc (.cells #[.int .i8 k, .int .i8 l, .int .i8 s, .slice A n c] 45)).alloc (.cells #[.int .i8 0, .int .i8 0, .int .i8 0, .slice none 0 0] 48)).alloc (.cells #[.int .i8 k, .int .i8 l, .int .i8 s, .slice none 0 0] 48)) (w.heap.size + 1) [.int .i8 0, .int .i8 0, .int .i8 0, .slice none 0 0] 48 := (Blk.mk _ [_, _, _, _] _ (by simp)).alloc _
  have B3 : Blk (((w.alloc (.cells #[.int .i8 k, .int .i8 l, .int .i8 s, .slice A n c] 45)).alloc (.cells #[.int .i8 0, .int .i8 0, .int .i8 0, .slice none 0 0] 48)).alloc (.cells #[.int .i8 k, .int .i8 l, .int .i8 s, .slice none 0 0] 48)) (w.heap.size + 1 + 1) [.int .i8 k, .int .i8 l, .int .i8 s, .slice none 0 0] 48 := Blk.mk _ [_, _, _, _] _ (by simp)
  have hsz : ((((w.alloc (.cells #[.int .i8 k, .int .i8 l, .int .i8 s, .slice A n c] 45)).alloc (.cells #[.int .i8 0, .int .i8 0, .int .i8 0, .slice none 0 0] 48)).alloc (.cells #[.int .i8 k, .int .i8 l, .int .i8 s, .slice none 0 0] 48))).heap.size = w.heap.size + 1 + 1 + 1 := by simp
  go_enter Try.func33, Try.ntmps33
  go_wp2_with (fail)
  refine key.mono ?_; rintro e w1 ⟨rfl, hBl, hb1⟩
  have C2 := B2.kept hb1
  have C3 := B3.kept hb1
  have hb2 := bl_call bb hb1
  have c3 := C3.at 3
  simp only [List.getElem?_cons_zero, List.getElem?_cons_succ] at c3
  have f3 := C3.frozen 3
  rw [hsz] at hBl ⊢
  have hO := hBl.own (base := w.heap.size) (by omega) hml
  rw [hsl] at hO
  have D3 := C3.set 3 (.slice (some ⟨w.heap.size + 1 + 1 + 1, 0, none⟩) n n)
  have D2 := C2.far (p := ⟨w.heap.size + 1 + 1, 3, none⟩) (by simp) (.slice (some ⟨w.heap.size + 1 + 1 + 1, 0, none⟩) n n)
  have hO2 := hO.far (p := ⟨w.heap.size + 1 + 1, 3, none⟩) (by simp [Value.ownBlock]) (.slice (some ⟨w.heap.size + 1 + 1 + 1, 0, none⟩) n n)
  have hb3 := hb2.setCell (p := ⟨w.heap.size + 1 + 1, 3, none⟩) (by simp; omega) (.slice (some ⟨w.heap.size + 1 + 1 + 1, 0, none⟩) n n)
  have D3 : Blk _ _ [.int .i8 k, .int .i8 l, .int .i8 s, .slice (some ⟨w.heap.size + 1 + 1 + 1, 0, none⟩) n n] _ := D3
  clear C2 C3 B2 B3 bb hBl hO key hsz hb1 hb2 h
  go_wp2_with (first | (refine load_blk rfl 48 _ rfl _ rfl D3 Try.underlying48 rfl info_ib rfl ?_) | (refine store_blk rfl 48 _ _ rfl _ rfl (ds := [.int .i8 k, .int .i8 l, .int .i8 s, .slice (some ⟨w.heap.size + 1 + 1 + 1, 0, none⟩) n n]) rfl D2 info_ib rfl rfl (by simp [Value.oneCell']) ?_))
  refine ret_blk rfl _ rfl (D2.setRow _) Try.underlying48 rfl info_ib rfl rfl ⟨⟨_, _, rfl, ?_⟩, bl_setRow hb3 (by omega) _⟩
  exact hO2.grown (row := some (w.heap.size + 1)) (setRow_grown _ _ _) (.inr (by simp [Value.ownBlock]; try omega))

set_option maxRecDepth 100000 in
set_option maxHeartbeats 1000000 in
theorem eqBook_any (a b : Bok) (A B : Option Addr) (c d : Nat) (w : World) (h1 : SlS w A a.ps) (h2 : SlS w B b.ps) :
    Calls Try.prog 35 #[bok a A c, bok b B d] w fun e w' => e = .returned (.bool (decide (a = b))) ∧ Below w.heap.size w w' := by
  have bb := bl_new (bl_new (Below.refl _ w) (.cells (bokC a A c).toArray 48)) (.cells (bokC b B d).toArray 48)
  have g1 := h1.kept bb
  have g2 := h2.kept bb
  obtain ⟨k, l, s, ps⟩ := a
  obtain ⟨k2, l2, s2, ps2⟩ := b
  unfold bok
  unfold bokC at *
  simp only at *
  have n1 := h1.1
  have n2 := h2.1
  have hD := As.mk (show decide ((⟨k, l, s, ps⟩ : Bok) = ⟨k2, l2, s2, ps2⟩) = (decide (k = k2) && (decide (l = l2) && (decide (s = s2) && decide (ps = ps2)))) from by simp [Bool.decide_and])
  by_cases e0 : k = k2
  · have q0 : (k != k2) = false := by rw [bne_eq_false_iff_eq]; exact e0
    by_cases e1 : l = l2
    · have q1 : (l != l2) = false := by rw [bne_eq_false_iff_eq]; exact e1
      by_cases e2 : s = s2
      · have q2 : (s != s2) = false := by rw [bne_eq_false_iff_eq]; exact e2
        have hr := As.mk (show decide ((⟨k, l, s, ps⟩ : Bok) = ⟨k2, l2, s2, ps2⟩) = decide (ps = ps2) by rw [hD.out, decide_eq_true e0, decide_eq_true e1, decide_eq_true e2]; simp)
        have key := eqStringS_any ps ps2 A B c d _ g1 g2
        clear e0 e1 e2
        generalize ps.length = m1 at *
        generalize ps2.length = m2 at *
        generalize decide (ps = ps2) = r at *
        cases r
        all_goals
          go_enter Try.func35, Try.ntmps35
          go_wp2_with (fail)
          refine key.mono ?_; rintro e w1 ⟨rfl, hb⟩
          go_wp2_with (fail)
          go_ret
          exact ⟨ret_b hr.out.symm, bl_call bb hb⟩
      · have q2 : (s != s2) = true := by rw [bne_iff_ne]; exact e2
        have hr := As.mk (show decide ((⟨k, l, s, ps⟩ : Bok) = ⟨k2, l2, s2, ps2⟩) = false by rw [hD.out, decide_eq_false e2]; simp)
        clear e0 e1 e2 g1 g2
        generalize ps.length = m1 at *
        generalize ps2.length = m2 at *
        go_enter Try.func35, Try.ntmps35
        go_wp2_with (fail)
        go_ret
        exact ⟨ret_b hr.out.symm, bb⟩
    · have q1 : (l != l2) = true := by rw [bne_iff_ne]; exact e1
      have hr := As.mk (show decide ((⟨k, l, s, ps⟩ : Bok) = ⟨k2, l2, s2, ps2⟩) = false by rw [hD.out, decide_eq_false e1]; simp)
      clear e0 e1 g1 g2
      generalize ps.length = m1 at *
      generalize ps2.length = m2 at *
      go_enter Try.func35, Try.ntmps35
      go_wp2_with (fail)
      go_ret
      exact ⟨ret_b hr.out.symm, bb⟩
  · have q0 : (k != k2) = true := by rw [bne_iff_ne]; exact e0
    have hr := As.mk (show decide ((⟨k, l, s, ps⟩ : Bok) = ⟨k2, l2, s2, ps2⟩) = false by rw [hD.out, decide_eq_false e0]; simp)
    clear e0 g1 g2
    generalize ps.length = m1 at *
    generalize ps2.length = m2 at *
    go_enter Try.func35, Try.ntmps35
    go_wp2_with (fail)
    go_ret
    exact ⟨ret_b hr.out.symm, bb⟩

set_option maxRecDepth 100000 in
set_option maxHeartbeats 1000000 in
theorem SameBook_any (a b : Bok) (A B : Option Addr) (c d : Nat) (w : World) (h1 : SlS w A a.ps) (h2 : SlS w B b.ps) :
    Calls Try.prog 34 #[bok a A c, bok b B d] w fun e w' => e = .returned (.bool (decide (a = b))) ∧ Below w.heap.size w w' := by
  have bb := bl_new (bl_new (Below.refl _ w) (.cells (bokC a A c).toArray 48)) (.cells (bokC b B d).toArray 48)
  have g1 := h1.kept bb
  have g2 := h2.kept bb
  obtain ⟨k, l, s, ps⟩ := a
  obtain ⟨k2, l2, s2, ps2⟩ := b
  unfold bok
  unfold bokC at *
  simp only at *
  have n1 := h1.1
  have n2 := h2.1
  have hD := As.mk (show decide ((⟨k, l, s, ps⟩ : Bok) = ⟨k2, l2, s2, ps2⟩) = (decide (k = k2) && (decide (l = l2) && (decide (s = s2) && decide (ps = ps2)))) from by simp [Bool.decide_and])
  by_cases e0 : k = k2
  · have q0 : (k == k2) = true := by rw [beq_iff_eq]; exact e0
    by_cases e1 : l = l2
    · have q1 : (l == l2) = true := by rw [beq_iff_eq]; exact e1
      by_cases e2 : s = s2
      · have q2 : (s == s2) = true := by rw [beq_iff_eq]; exact e2
        have hr := As.mk (show decide ((⟨k, l, s, ps⟩ : Bok) = ⟨k2, l2, s2, ps2⟩) = decide (ps = ps2) by rw [hD.out, decide_eq_true e0, decide_eq_true e1, decide_eq_true e2]; simp)
        have key := EqualS_any ps ps2 A B c d _ g1 g2
        clear e0 e1 e2
        generalize ps.length = m1 at *
        generalize ps2.length = m2 at *
        generalize decide (ps = ps2) = r at *
        cases r
        all_goals
          go_enter Try.func34, Try.ntmps34
          go_wp2_with (fail)
          refine key.mono ?_; rintro e w1 ⟨rfl, hb⟩
          go_wp2_with (fail)
          go_ret
          exact ⟨ret_b hr.out.symm, bl_call bb hb⟩
      · have q2 : (s == s2) = false := by rw [beq_eq_false_iff_ne]; exact e2
        have hr := As.mk (show decide ((⟨k, l, s, ps⟩ : Bok) = ⟨k2, l2, s2, ps2⟩) = false by rw [hD.out, decide_eq_false e2]; simp)
        clear e0 e1 e2 g1 g2
        generalize ps.length = m1 at *
        generalize ps2.length = m2 at *
        go_enter Try.func34, Try.ntmps34
        go_wp2_with (fail)
        go_ret
        exact ⟨ret_b hr.out.symm, bb⟩
    · have q1 : (l == l2) = false := by rw [beq_eq_false_iff_ne]; exact e1
      have hr := As.mk (show decide ((⟨k, l, s, ps⟩ : Bok) = ⟨k2, l2, s2, ps2⟩) = false by rw [hD.out, decide_eq_false e1]; simp)
      clear e0 e1 g1 g2
      generalize ps.length = m1 at *
      generalize ps2.length = m2 at *
      go_enter Try.func34, Try.ntmps34
      go_wp2_with (fail)
      go_ret
      exact ⟨ret_b hr.out.symm, bb⟩
  · have q0 : (k == k2) = false := by rw [beq_eq_false_iff_ne]; exact e0
    have hr := As.mk (show decide ((⟨k, l, s, ps⟩ : Bok) = ⟨k2, l2, s2, ps2⟩) = false by rw [hD.out, decide_eq_false e0]; simp)
    clear e0 g1 g2
    generalize ps.length = m1 at *
    generalize ps2.length = m2 at *
    go_enter Try.func34, Try.ntmps34
    go_wp2_with (fail)
    go_ret
    exact ⟨ret_b hr.out.symm, bb⟩

set_option maxRecDepth 100000 in
set_option maxHeartbeats 1000000 in
theorem sSameBook_any (a b : Bok) (A B : Option Addr) (c d : Nat) (w : World) (h1 : SlS w A a.ps) (h2 : SlS w B b.ps) :
    Calls Try.prog 32 #[bok a A c, bok b B d] w fun e w' => e = .returned (.bool (decide (a = b))) ∧ Below w.heap.size w w' := by
  have bb := bl_new (bl_new (Below.refl _ w) (.cells (bokC a A c).toArray 48)) (.cells (bokC b B d).toArray 48)
  have g1 := h1.kept bb
  have g2 := h2.kept bb
  obtain ⟨k, l, s, ps⟩ := a
  obtain ⟨k2, l2, s2, ps2⟩ := b
  unfold bok
  unfold bokC at *
  simp only at *
  have n1 := h1.1
  have n2 := h2.1
  have hD := As.mk (show decide ((⟨k, l, s, ps⟩ : Bok) = ⟨k2, l2, s2, ps2⟩) = (decide (k = k2) && (decide (l = l2) && (decide (s = s2) && decide (ps = ps2)))) from by simp [Bool.decide_and])
  by_cases e0 : k = k2
  · have q0 : (k != k2) = false := by rw [bne_eq_false_iff_eq]; exact e0
    by_cases e1 : l = l2
    · have q1 : (l != l2) = false := by rw [bne_eq_false_iff_eq]; exact e1
      by_cases e2 : s = s2
      · have q2 : (s != s2) = false := by rw [bne_eq_false_iff_eq]; exact e2
        have hr := As.mk (show decide ((⟨k, l, s, ps⟩ : Bok) = ⟨k2, l2, s2, ps2⟩) = decide (ps = ps2) by rw [hD.out, decide_eq_true e0, decide_eq_true e1, decide_eq_true e2]; simp)
        have B1 : Blk ((w.alloc (.cells #[.int .i8 k, .int .i8 l, .int .i8 s, .slice A ps.length c] 48)).alloc (.cells #[.int .i8 k2, .int .i8 l2, .int .i8 s2, .slice B ps2.length d] 48)) w.heap.size [.int .i8 k, .int .i8 l, .int .i8 s, .slice A ps.length c] 48 := (Blk.mk _ [_, _, _, _] _ rfl).alloc _
        have B2 : Blk ((w.alloc (.cells #[.int .i8 k, .int .i8 l, .int .i8 s, .slice A ps.length c] 48)).alloc (.cells #[.int .i8 k2, .int .i8 l2, .int .i8 s2, .slice B ps2.length d] 48)) (w.heap.size + 1) [.int .i8 k2, .int .i8 l2, .int .i8 s2, .slice B ps2.length d] 48 := Blk.mk _ [_, _, _, _] _ (by simp)
        have d1 := B1.at 3
        have d2 := B2.at 3
        simp only [List.getElem?_cons_zero, List.getElem?_cons_succ] at d1 d2
        by_cases hl : ps.length = ps2.length
        · have HE := As.mk (ext_nthS hl)
          have HL := As.mk hl
          rw [hl] at n1 d1 bb g1 g2 d2 ⊢
          generalize hn : ps2.length = n at *
          have HN := As.mk hn
          clear hl hn e0 e1 e2 B1 B2
          go_enter Try.func32, Try.ntmps32
          go_wp2_with (fail)
          generalize (w.alloc (.cells #[.int .i8 k, .int .i8 l, .int .i8 s, .slice A n c] 48)).alloc (.cells #[.int .i8 k2, .int .i8 l2, .int .i8 s2, .slice B n d] 48) = W at *
          go_loopw [5] (fun i wr => ∃ k : Nat, k ≤ n ∧ i = .int .i64 k ∧ As ((∃ q, wr = W.drewN q) ∧ ∀ j, j < k → nthS ps j = nthS ps2 j)) (fun i _ => n - (intOf i).toNat)
          case atStart => exact ⟨0, by omega, rfl, ⟨⟨0, rfl⟩, fun j hj => by omega⟩⟩
          case round =>
            obtain ⟨j, hj, rfl, H⟩ := hrel
            have e1 : wr.cell? ⟨w.heap.size, 3, none⟩ = some (.slice A n c) := by obtain ⟨q, hq⟩ := H.out.1; rw [hq]; exact d1
            have e2 : wr.cell? ⟨w.heap.size + 1, 3, none⟩ = some (.slice B n d) := by obtain ⟨q, hq⟩ := H.out.1; rw [hq]; exact d2
            have hbl := As.mk (show Below w.heap.size w wr by obtain ⟨q, hq⟩ := H.out.1; rw [hq]; exact bl_drewN bb _)
            by_cases hlt : j < n
            · have hlt' : (j : Int) < (n : Int) := by omega
              obtain ⟨b, o, rfl, hr1⟩ := g1.2.2 (by rw [HL.out]; omega)
              obtain ⟨b2, o2, rfl, hr2⟩ := g2.2.2 (by rw [HN.out]; omega)
              have c0 : wr.cell? ⟨b, o + j, none⟩ = some (.string (nthS ps j)) := by obtain ⟨q, hq⟩ := H.out.1; rw [hq]; exact SlS.at hr1 j (by rw [HL.out]; omega)
              have c1 : wr.cell? ⟨b2, o2 + j, none⟩ = some (.string (nthS ps2 j)) := by obtain ⟨q, hq⟩ := H.out.1; rw [hq]; exact SlS.at hr2 j (by rw [HN.out]; omega)
              have hdw : ∀ nq, ∃ q, wr.drewN nq = W.drewN q := fun nq => by obtain ⟨q, hq⟩ := H.out.1; exact ⟨q + nq, by rw [hq]; simp [World.drewN, Nat.add_assoc]⟩
              have hdw := As.mk hdw
              by_cases he : nthS ps j = nthS ps2 j
              · have he' := As.mk (all_succ (p := fun j => nthS ps j = nthS ps2 j) H.out.2 he)
                rw [he] at c0
                clear he
                generalize nthS ps2 j = u at *
                go_wp2
                go_quiet (fail)
                go_wp2
                go_roundw
                case rel => exact ⟨j + 1, by omega, by go_num, ⟨hdw.out _, he'.out⟩⟩
                case measure => simp [intOf]; omega
              · have hne2 := As.mk (show decide (ps = ps2) = false from decide_eq_false (fun e => he (by rw [e])))
                have hb : ((nthS ps j).toList == (nthS ps2 j).toList) = false := toList_ne he
                generalize nthS ps j = u at *
                generalize nthS ps2 j = v at *
                clear he
                go_wp2
                go_quiet (fail)
                go_wp2
                go_ret
                exact ⟨ret_b (by rw [hr.out, hne2.out]), bl_drewN hbl.out _⟩
            · obtain rfl : j = n := by omega
              have hall := As.mk (show decide (ps = ps2) = true from decide_eq_true (HE.out.2 H.out.2))
              go_wp2
              go_ret
              exact ⟨ret_b (by rw [hr.out, hall.out]), hbl.out⟩
        · have hne : ((ps.length : Int) != (ps2.length : Int)) = true := by rw [bne_iff_ne]; omega
          have hr2 := As.mk (show decide (ps = ps2) = false by rw [decide_eq_false]; exact fun e => hl (by rw [e]))
          clear hl e0 e1 e2 g1 g2 B1 B2 d1 d2
          generalize ps.length = m1 at *
          generalize ps2.length = m2 at *
          go_enter Try.func32, Try.ntmps32
          go_wp2_with (fail)
          go_ret
          exact ⟨ret_b (by rw [hr.out, hr2.out]), bb⟩
      · have q2 : (s != s2) = true := by rw [bne_iff_ne]; exact e2
        have hr := As.mk (show decide ((⟨k, l, s, ps⟩ : Bok) = ⟨k2, l2, s2, ps2⟩) = false by rw [hD.out, decide_eq_false e2]; simp)
        clear e0 e1 e2 g1 g2
        generalize ps.length = m1 at *
        generalize ps2.length = m2 at *
        go_enter Try.func32, Try.ntmps32
        go_wp2_with (fail)
        go_ret
        exact ⟨ret_b hr.out.symm, bb⟩
    · have q1 : (l != l2) = true := by rw [bne_iff_ne]; exact e1
      have hr := As.mk (show decide ((⟨k, l, s, ps⟩ : Bok) = ⟨k2, l2, s2, ps2⟩) = false by rw [hD.out, decide_eq_false e1]; simp)
      clear e0 e1 g1 g2
      generalize ps.length = m1 at *
      generalize ps2.length = m2 at *
      go_enter Try.func32, Try.ntmps32
      go_wp2_with (fail)
      go_ret
      exact ⟨ret_b hr.out.symm, bb⟩
  · have q0 : (k != k2) = true := by rw [bne_iff_ne]; exact e0
    have hr := As.mk (show decide ((⟨k, l, s, ps⟩ : Bok) = ⟨k2, l2, s2, ps2⟩) = false by rw [hD.out, decide_eq_false e0]; simp)
    clear e0 g1 g2
    generalize ps.length = m1 at *
    generalize ps2.length = m2 at *
    go_enter Try.func32, Try.ntmps32
    go_wp2_with (fail)
    go_ret
    exact ⟨ret_b hr.out.symm, bb⟩
end Go.Proofs.Ytnokdbnlagoidaa
