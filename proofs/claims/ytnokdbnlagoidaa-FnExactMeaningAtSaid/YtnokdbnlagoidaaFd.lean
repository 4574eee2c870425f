/- Contracts: what the search finds: the spec's side of WaysToHoist, HoistFor, LeastSets. -/
import Derived.Test.YtnokdbnlagoidaaLl
import Derived.Test.YtnokdbnlagoidaaH5
set_option linter.unusedVariables false
namespace Go.Proofs.Ytnokdbnlagoidaa
open Go.RowKit

theorem mOk_nth {m : List Int} (h : mOk m = true) : ∀ k, k < m.length → nth m k = -10 ∨ (0 ≤ nth m k ∧ nth m k ≤ 39) := fun k hk => mOk_kinds h _ (nth_mem m k hk)
theorem mOk_len {m : List Int} (h : mOk m = true) : 1 ≤ m.length ∧ m.length ≤ 8 := hOk_len (mOk_hOk h)

theorem FirstV.own {w : World} {B base : Nat} {fv : Value} {T : List (List Int)} (h : FirstV w B fv T) (hb : base ≤ B + 1) : Own w base 42 fv (i8s (T.headD [])) := by
  rcases h with ⟨rfl, rfl⟩ | ⟨f, r, rfl, hO⟩
  · exact Own.nil _ _ _
  · exact hO.lower hb

set_option maxHeartbeats 1000000 in
theorem l02Find_any (m : List Int) (hm : mOk m = true) (A : Option Addr) (cm sets subs : Nat) (hsubs : subs ≤ 4) (hsets : sets ≤ 8) (w : World) (hs : Sl .i8 w A m) :
    Calls Try.prog 53 #[.slice A m.length cm, .int .i64 sets, .int .i64 subs] w fun e w' => (∃ B, e = .returned (.pointer (some ⟨B, 0, none⟩)) ∧ w.heap.size ≤ B ∧ St w' B A cm m sets subs (found m sets subs)) ∧ Below w.heap.size w w' := by
  have hl := mOk_len hm
  have hf := found_count m sets subs hsubs hl.2
  have lk := lookOk m (mOk_nth hm) A cm sets subs w.heap.size hl.2 hsubs hsets m.length [] 0 [] (by simp) (by simp) (Way.nil _ _) (by simpa [found] using Nat.le_trans hf (by decide))
  obtain ⟨b, o, rfl, hr⟩ := hs.2 hl.1
  have hbw := World.block_lt_of_cell? w _ (hr 0 _ (i8s_get m 0 hl.1))
  have B1 := Blk.mk w (stCells (some ⟨b, o, none⟩) m cm sets subs 0 (.slice none 0 0)) 70 rfl
  have B2 := B1.alloc (.cells #[] 42)
  have b2 := bl_new (bl_new (Below.refl _ w) (.cells (stCells (some ⟨b, o, none⟩) m cm sets subs 0 (.slice none 0 0)).toArray 70)) (.cells #[] 42)
  have hS : St ((w.alloc (.cells (stCells (some ⟨b, o, none⟩) m cm sets subs 0 (.slice none 0 0)).toArray 70)).alloc (.cells #[] 42)) w.heap.size (some ⟨b, o, none⟩) cm m sets subs [] :=
    ⟨⟨hs.1, fun _ => ⟨b, o, rfl, hbw, range_below hr b2⟩⟩, _, B2, .inl ⟨rfl, rfl⟩⟩
  have key := lk _ (.slice (some ⟨w.heap.size + 1, 0, none⟩) 0 0) hS ⟨w.heap.size + 1, 0, rfl, by omega, fun j v hv => by simp [i8s] at hv⟩
  have hfd := As.mk (show look m sets subs m.length [] 0 = found m sets subs from rfl)
  unfold stCells at key b2
  rw [show ((0 : Nat) : Int) = 0 from rfl] at key b2
  clear B1 B2 hS lk
  go_enter Try.func53, Try.ntmps53
  go_wp2_with (fail)
  refine key.mono ?_; rintro e w1 ⟨rfl, S1, g1⟩
  have hb1 : Below w.heap.size w w1 := b2.grown g1 (by simp; omega) (fun k hk => by simp only [Option.some.injEq] at hk; omega)
  go_wp2_with (fail)
  go_ret
  exact ⟨⟨_, rfl, Nat.le_refl _, S1⟩, hb1⟩

/-- The code of a meaning, sets and substitutes. -/
def askC (m : List Int) (sets subs : Int) : Int := if mOk m then (if inR sets 1 8 && inR subs 0 4 then 0 else 2) else 1
theorem askC_zero {m : List Int} {sets subs : Int} (h : askC m sets subs = 0) : mOk m = true ∧ inR sets 1 8 = true ∧ inR subs 0 4 = true := by
  unfold askC at h
  split at h
  · rename_i h1
    split at h
    · rename_i h2
      simp only [Bool.and_eq_true] at h2
      exact ⟨h1, h2.1, h2.2⟩
    · omega
  · omega
set_option maxHeartbeats 1000000 in
theorem l02Asked_any (m : List Int) (rm : ∀ n ∈ m, -128 ≤ n ∧ n ≤ 127) (A : Option Addr) (cm : Nat) (sets subs : Int) (w : World) (hs : Sl .i8 w A m) :
    Calls Try.prog 52 #[.slice A m.length cm, .int .i64 sets, .int .i64 subs] w fun e w' => e = .returned (.int .i64 (askC m sets subs)) ∧ Below w.heap.size w w' := by
  have key := l02Plain_any m A cm w hs rm
  have hC := As.mk (show askC m sets subs = if mOk m then (if inR sets 1 8 && inR subs 0 4 then 0 else 2) else 1 from rfl)
  cases hk : mOk m
  · go_enter Try.func52, Try.ntmps52
    go_wp2_with (fail)
    refine key.mono ?_; rintro e w1 ⟨rfl, hb⟩
    rw [hk]
    go_wp2_with (fail)
    go_ret
    exact ⟨ret_n (by rw [hC.out, hk]; rfl), hb⟩
  · cases h1 : inR sets 1 8
    · go_enter Try.func52, Try.ntmps52
      go_wp2_with (fail)
      refine key.mono ?_; rintro e w1 ⟨rfl, hb⟩
      rw [hk]
      go_wp2_with (go_at_call 59; refine (l00In_any _ _ _ _).mono ?_; rintro e w' ⟨rfl, rfl⟩)
      go_ret
      exact ⟨ret_n (by rw [hC.out, hk, h1]; rfl), hb⟩
    · cases h2 : inR subs 0 4
      all_goals
        go_enter Try.func52, Try.ntmps52
        go_wp2_with (fail)
        refine key.mono ?_; rintro e w1 ⟨rfl, hb⟩
        rw [hk]
        go_wp2_with (go_at_call 59; refine (l00In_any _ _ _ _).mono ?_; rintro e w' ⟨rfl, rfl⟩)
        go_ret
        exact ⟨ret_n (by rw [hC.out, hk, h1, h2]; rfl), hb⟩

/-- How many ways; the first one; its code. -/
def waysN (m : List Int) (sets subs : Int) : Int := if askC m sets subs = 0 then ((found m sets.toNat subs.toNat).length : Int) else 0
def forC (m : List Int) (sets subs : Int) : Int := if askC m sets subs = 0 then (if (found m sets.toNat subs.toNat).length = 0 then 6 else 0) else askC m sets subs
def forL (m : List Int) (sets subs : Int) : List Int := if askC m sets subs = 0 then (found m sets.toNat subs.toNat).headD [] else []

theorem ask_nat {m : List Int} {sets subs : Int} (h : askC m sets subs = 0) : mOk m = true ∧ sets = (sets.toNat : Int) ∧ subs = (subs.toNat : Int) ∧ sets.toNat ≤ 8 ∧ subs.toNat ≤ 4 := by
  obtain ⟨h0, h1, h2⟩ := askC_zero h
  rw [inR_iff] at h1 h2
  exact ⟨h0, by omega, by omega, by omega, by omega⟩

set_option maxRecDepth 100000 in
set_option maxHeartbeats 1000000 in
theorem sWaysToHoist_any (m : List Int) (rm : ∀ n ∈ m, -128 ≤ n ∧ n ≤ 127) (A : Option Addr) (cm : Nat) (sets subs : Int) (w : World) (hs : Sl .i8 w A m) :
    Calls Try.prog 25 #[.slice A m.length cm, .int .i64 sets, .int .i64 subs] w fun e w' => e = .returned (.tuple #[.int .i64 (waysN m sets subs), .int .i64 (askC m sets subs)]) ∧ Below w.heap.size w w' := by
  have key := l02Asked_any m rm A cm sets subs w hs
  unfold waysN
  by_cases h0 : askC m sets subs = 0
  · obtain ⟨hm, e1, e2, l1, l2⟩ := ask_nat h0
    have fnd := fun W h => l02Find_any m hm A cm sets.toNat subs.toNat l2 l1 W h
    have hF := As.mk (found_count m sets.toNat subs.toNat l2 (mOk_len hm).2)
    rw [if_pos h0]
    rw [h0] at key ⊢
    rw [← e1, ← e2] at fnd
    generalize (found m sets.toNat subs.toNat) = T at *
    clear h0 e1 e2
    go_enter Try.func25, Try.ntmps25
    go_wp2_with (fail)
    refine key.mono ?_; rintro e w1 ⟨rfl, hb⟩
    go_wp2_with (fail)
    refine (fnd _ (hs.kept hb)).mono ?_; rintro e w2 ⟨⟨B, rfl, hB, S2⟩, hb2⟩
    obtain ⟨_, fv, hBk, _⟩ := S2
    have c3 := (St.cell hBk).2.2.2.1
    go_wp2_with (fail)
    go_ret2
    exact ⟨rfl, bl_call hb hb2⟩
  · rw [if_neg h0]
    have h0' : (askC m sets subs != 0) = true := by rw [bne_iff_ne]; exact h0
    generalize askC m sets subs = cc at *
    go_enter Try.func25, Try.ntmps25
    go_wp2_with (fail)
    refine key.mono ?_; rintro e w1 ⟨rfl, hb⟩
    go_wp2_with (fail)
    go_ret2
    exact ⟨rfl, hb⟩

set_option maxRecDepth 100000 in
set_option maxHeartbeats 1000000 in
theorem sHoistFor_any (m : List Int) (rm : ∀ n ∈ m, -128 ≤ n ∧ n ≤ 127) (A : Option Addr) (cm : Nat) (sets subs : Int) (w : World) (hs : Sl .i8 w A m) :
    Calls Try.prog 15 #[.slice A m.length cm, .int .i64 sets, .int .i64 subs] w fun e w' => Gave 42 (i8s (forL m sets subs)) (forC m sets subs) w.heap.size e w' ∧ Below w.heap.size w w' := by
  have key := l02Asked_any m rm A cm sets subs w hs
  unfold forC forL
  by_cases h0 : askC m sets subs = 0
  · obtain ⟨hm, e1, e2, l1, l2⟩ := ask_nat h0
    have fnd := fun W h => l02Find_any m hm A cm sets.toNat subs.toNat l2 l1 W h
    have hF := As.mk (found_count m sets.toNat subs.toNat l2 (mOk_len hm).2)
    rw [if_pos h0, if_pos h0]
    rw [h0] at key
    rw [← e1, ← e2] at fnd
    generalize found m sets.toNat subs.toNat = T at *
    clear h0 e1 e2
    by_cases hT : T.length = 0
    · have hT' : T = [] := List.eq_nil_of_length_eq_zero hT
      rw [if_pos hT]
      go_enter Try.func15, Try.ntmps15
      go_wp2_with (fail)
      refine key.mono ?_; rintro e w1 ⟨rfl, hb⟩
      go_wp2_with (fail)
      refine (fnd _ (hs.kept hb)).mono ?_; rintro e w2 ⟨⟨B, rfl, hB, S2⟩, hb2⟩
      obtain ⟨_, fv, hBk, hfv⟩ := S2
      have c3 := (St.cell hBk).2.2.2.1
      have c4 := (St.cell hBk).2.2.2.2
      have hsz := hb.size
      rw [hT] at c3
      go_wp2_with (fail)
      go_ret2
      refine ⟨⟨_, rfl, ?_⟩, bl_new (bl_call hb hb2) _⟩
      rw [hT']
      exact Own.lit w2 w.heap.size 42 [] (bl_call hb hb2).size (by simp)
    · have hne : ((T.length : Int) == 0) = false := by rw [beq_eq_false_iff_ne]; omega
      rw [if_neg hT]
      go_enter Try.func15, Try.ntmps15
      go_wp2_with (fail)
      refine key.mono ?_; rintro e w1 ⟨rfl, hb⟩
      go_wp2_with (fail)
      refine (fnd _ (hs.kept hb)).mono ?_; rintro e w2 ⟨⟨B, rfl, hB, S2⟩, hb2⟩
      obtain ⟨_, fv, hBk, hfv⟩ := S2
      have c3 := (St.cell hBk).2.2.2.1
      have c4 := (St.cell hBk).2.2.2.2
      have hsz := hb.size
      go_wp2_with (fail)
      go_ret2
      exact ⟨⟨_, rfl, hfv.own (by omega)⟩, bl_call hb hb2⟩
  · rw [if_neg h0, if_neg h0]
    have h0' : (askC m sets subs != 0) = true := by rw [bne_iff_ne]; exact h0
    generalize askC m sets subs = cc at *
    go_enter Try.func15, Try.ntmps15
    go_wp2_with (fail)
    refine key.mono ?_; rintro e w1 ⟨rfl, hb⟩
    go_wp2_with (fail)
    go_ret2
    exact ⟨⟨_, rfl, Own.lit w1 w.heap.size 42 [] hb.size (by simp)⟩, bl_new hb _⟩

/-- With as many sets as numbers each meaning has a hoist. -/
theorem look_some (m : List Int) (subs : Nat) (h8 : m.length ≤ 8) : ∀ (d : Nat) (h : List Int) (g : Nat), h.length + d = m.length → look m 8 subs d h g ≠ []
  | 0, h, g, hl => by simp [look]
  | d + 1, h, g, hl => by
    by_cases hx : nth m h.length = -10
    · rw [look_brk hx]
      exact look_some m subs h8 d _ _ (by simp; omega)
    · rw [look_kind hx]
      intro hn
      rw [List.flatMap_eq_nil_iff] at hn
      have he : enough 8 h (nth m h.length) = true := by
        unfold enough
        rw [decide_eq_true_eq]
        have := List.count_le_length (a := nth m h.length) (l := h)
        omega
      have := hn (nth m h.length) (by
        rw [List.mem_filter]
        exact ⟨by unfold optsAt; rw [List.mem_append]; right; simp, he⟩)
      exact look_some m subs h8 d _ _ (by simp; omega) this
/-- Whether j + 1 sets serve. -/
def serve (m : List Int) (subs : Nat) (j : Nat) : Bool := !(found m (j + 1) subs).isEmpty
theorem serve_iff {m : List Int} {subs j : Nat} : serve m subs j = true ↔ ¬ (found m (j + 1) subs).length = 0 := by
  unfold serve
  cases found m (j + 1) subs <;> simp
theorem serve_8 {m : List Int} (hm : mOk m = true) (subs : Nat) : serve m subs 7 = true := by
  rw [serve_iff]
  have := look_some m subs (mOk_len hm).2 m.length [] 0 (by simp)
  intro h
  exact this (List.eq_nil_of_length_eq_zero h)
/-- The least number of sets. -/
def leastN (m : List Int) (subs : Int) : Int := if askC m 1 subs = 0 then firstIdx (serve m subs.toNat) 8 0 + 1 else 0
set_option maxRecDepth 100000 in
set_option maxHeartbeats 1000000 in
theorem sLeastSets_any (m : List Int) (rm : ∀ n ∈ m, -128 ≤ n ∧ n ≤ 127) (A : Option Addr) (cm : Nat) (subs : Int) (w : World) (hs : Sl .i8 w A m) :
    Calls Try.prog 23 #[.slice A m.length cm, .int .i64 subs] w fun e w' => e = .returned (.tuple #[.int .i64 (leastN m subs), .int .i64 (askC m 1 subs)]) ∧ Below w.heap.size w w' := by
  have key := l02Asked_any m rm A cm 1 subs w hs
  unfold leastN
  by_cases h0 : askC m 1 subs = 0
  · obtain ⟨hm, e1, e2, l1, l2⟩ := ask_nat h0
    have fnd := fun k (hk : k < 8) W h => l02Find_any m hm A cm (k + 1) subs.toNat l2 (by omega) W h
    have hF := fun k => found_count m (k + 1) subs.toNat l2 (mOk_len hm).2
    have h8 := As.mk (serve_8 hm subs.toNat)
    have hsv := fun j => serve_iff (m := m) (subs := subs.toNat) (j := j)
    rw [if_pos h0]
    rw [h0] at key ⊢
    rw [← e2] at fnd
    generalize serve m subs.toNat = p at *
    clear h0 e1 e2
    go_enter Try.func23, Try.ntmps23
    go_wp2_with (fail)
    refine key.mono ?_; rintro e w1 ⟨rfl, hb⟩
    go_wp2_with (fail)
    go_loopw [7] (fun i wr => ∃ k : Nat, k < 8 ∧ i = .int .i64 ((k : Int) + 1) ∧ Below w.heap.size w wr ∧ As (∀ j, j < k → p j = false)) (fun i _ => 9 - (intOf i).toNat)
    case atStart => exact ⟨0, by omega, rfl, hb, ⟨fun j hj => by omega⟩⟩
    case round =>
      obtain ⟨k, hk, rfl, hbr, H⟩ := hrel
      have fk := fnd k hk wr (hs.kept hbr)
      have hFk := hF k
      rw [show ((k + 1 : Nat) : Int) = (k : Int) + 1 from rfl] at fk
      go_wp2_with (fail)
      refine fk.mono ?_; rintro e w2 ⟨⟨B, rfl, hB, S2⟩, hb2⟩
      obtain ⟨_, fv, hBk, hfv⟩ := S2
      have c3 := (St.cell hBk).2.2.2.1
      by_cases hT : (found m (k + 1) subs.toNat).length = 0
      · have hpk : p k = false := by
          cases hq : p k
          · rfl
          · exact absurd hT ((hsv k).1 hq)
        have hk7 : k < 7 := by
          rcases Nat.lt_or_ge k 7 with h | h
          · exact h
          · have : k = 7 := by omega
            rw [this, h8.out] at hpk; cases hpk
        rw [hT] at c3
        go_wp2_with (fail)
        go_roundw
        case rel => exact ⟨k + 1, by omega, by go_num, bl_call hbr hb2, ⟨all_succ H.out hpk⟩⟩
        case measure => simp [intOf]; omega
      · have hpk := (hsv k).2 hT
        have hne : (((found m (k + 1) subs.toNat).length : Int) == 0) = false := by rw [beq_eq_false_iff_ne]; omega
        generalize (found m (k + 1) subs.toNat).length = n at *
        go_wp2_with (fail)
        go_ret2
        exact ⟨ret_2 (by rw [firstIdx_hit p 8 0 k hk (by simpa using H.out) (by simpa using hpk)]; simp) rfl, bl_call hbr hb2⟩
  · rw [if_neg h0]
    have h0' : (askC m 1 subs != 0) = true := by rw [bne_iff_ne]; exact h0
    generalize askC m 1 subs = cc at *
    go_enter Try.func23, Try.ntmps23
    go_wp2_with (fail)
    refine key.mono ?_; rintro e w1 ⟨rfl, hb⟩
    go_wp2_with (fail)
    go_ret2
    exact ⟨rfl, hb⟩
end Go.Proofs.Ytnokdbnlagoidaa
