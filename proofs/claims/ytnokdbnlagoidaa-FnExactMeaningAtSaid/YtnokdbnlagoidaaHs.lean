/- Contracts: hoists, first, and what is called for each hoist (impl). -/
import Derived.Test.YtnokdbnlagoidaaIk
import Derived.Laws.EntriesVeiled
set_option linter.unusedVariables false
namespace Go.Proofs.Ytnokdbnlagoidaa
open Go.RowKit

theorem chOk (s : Sea) (ok : SeaOk s) : ∀ d, ChOk s d
  | 0 => ch_leaf s ok
  | d + 1 => fun h g T hd hg hway hone hT w v hj hv => by
    by_cases hx : nth s.m h.length = -10
    · exact ch_brk s ok d (chOk s ok d) h g T hd hway hone hT hx w v hj hv
    · exact ch_num s ok d (chOk s ok d) h g T hd hg hway hone hT hx w v hj hv

set_option maxRecDepth 100000 in
set_option maxHeartbeats 2000000 in
theorem hoists_any (s : Sea) (ok : SeaOk s) (w : World) (hL : s.L = w.heap.size) (hs : Sl .i8 w s.A s.m) (hx : s.X w []) :
    Calls Try.prog 57 #[.slice s.A s.m.length s.cm, .agg (i64s (haveL s.sets s.subs [])).toArray, .func (.func s.g) #[] s.lb] w fun e w' =>
      e = .returned (.bool (goes s.one (found s.m s.sets s.subs))) ∧ s.X w' (vis s.one (found s.m s.sets s.subs)) ∧ Grw s.R w w' := by
  have hf := found_count s.m s.sets s.subs ok.subs ok.len
  have key := chOk s ok s.m.length [] 0 [] (by simp) (by simp) (Way.nil _ _) (fun _ => rfl) (by simpa [found] using Nat.le_trans hf (by decide))
  obtain ⟨m, A, cm, sets, subs, L, g, lb, one, R, X⟩ := s
  simp only at *
  subst hL
  obtain ⟨slf, hslf⟩ : ∃ slf : Value, slf = .func (.func 91) #[] #[.pointer (some ⟨w.heap.size, 0, none⟩), .pointer (some ⟨w.heap.size + 2, 0, none⟩), .pointer (some ⟨w.heap.size + 3, 0, none⟩), .pointer (some ⟨w.heap.size + 1, 0, none⟩)] := ⟨_, rfl⟩
  have bs : Below w.heap.size w ((((w.alloc (.cells #[.slice A m.length cm] 26)).alloc (.cells (i64s (haveL sets subs [])).toArray 76)).alloc (.cells #[.func (.func g) #[] lb] 79)).alloc (.cells #[slf] 107)) := bl_new (bl_new (bl_new (bl_new (Below.refl _ w) _) _) _) _
  have hj : J ⟨m, A, cm, sets, subs, w.heap.size, g, lb, one, R, X⟩ ((((w.alloc (.cells #[.slice A m.length cm] 26)).alloc (.cells (i64s (haveL sets subs [])).toArray 76)).alloc (.cells #[.func (.func g) #[] lb] 79)).alloc (.cells #[slf] 107)) [] [] := by
    have B0 : Blk ((((w.alloc (.cells #[.slice A m.length cm] 26)).alloc (.cells (i64s (haveL sets subs [])).toArray 76)).alloc (.cells #[.func (.func g) #[] lb] 79)).alloc (.cells #[slf] 107)) w.heap.size [.slice A m.length cm] 26 := (((Blk.mk _ [_] _ rfl).alloc _).alloc _).alloc _
    have B1 : Blk ((((w.alloc (.cells #[.slice A m.length cm] 26)).alloc (.cells (i64s (haveL sets subs [])).toArray 76)).alloc (.cells #[.func (.func g) #[] lb] 79)).alloc (.cells #[slf] 107)) (w.heap.size + 1) (i64s (haveL sets subs [])) 76 := ((Blk.mk _ _ _ (by simp)).alloc _).alloc _
    have B2 : Blk ((((w.alloc (.cells #[.slice A m.length cm] 26)).alloc (.cells (i64s (haveL sets subs [])).toArray 76)).alloc (.cells #[.func (.func g) #[] lb] 79)).alloc (.cells #[slf] 107)) (w.heap.size + 1 + 1) [.func (.func g) #[] lb] 79 := (Blk.mk _ [_] _ (by simp)).alloc _
    have B3 : Blk ((((w.alloc (.cells #[.slice A m.length cm] 26)).alloc (.cells (i64s (haveL sets subs [])).toArray 76)).alloc (.cells #[.func (.func g) #[] lb] 79)).alloc (.cells #[slf] 107)) (w.heap.size + 1 + 1 + 1) [slf] 107 := Blk.mk _ [_] _ (by simp)
    refine ⟨?_, B1, ?_, ?_, hs.kept bs, ok.stab _ _ _ hx (Grw.below bs)⟩
    · have := B0.at 0; simpa using this
    · have := B2.at 0; simpa using this
    · have := B3.at 0; rw [← hslf]; simpa using this
  have k2 := key _ _ hj (Own.nil _ _ _)
  have hfd : look m sets subs m.length [] 0 = found m sets subs := rfl
  rw [hfd, List.nil_append] at k2
  have hkept : ∀ w', Grw (Sea.S ⟨m, A, cm, sets, subs, w.heap.size, g, lb, one, R, X⟩) ((((w.alloc (.cells #[.slice A m.length cm] 26)).alloc (.cells (i64s (haveL sets subs [])).toArray 76)).alloc (.cells #[.func (.func g) #[] lb] 79)).alloc (.cells #[slf] 107)) w' → Grw R w w' := fun w' h =>
    ⟨h.os.trans bs.os, h.tape.trans bs.tape, h.output.trans bs.output, Nat.le_trans bs.size h.size, fun k hk hn => (h.block k (Nat.lt_of_lt_of_le hk bs.size) (fun e : _ ∨ _ => e.elim (fun e => by simp only at e; omega) hn)).trans (bs.block k hk)⟩
  rw [show ((0 : Nat) : Int) = 0 from rfl] at k2
  clear key hj hs hx bs
  subst hslf
  go_enter Try.func57, Try.ntmps57
  go_wp2_with (fail)
  refine k2.mono ?_; rintro e w5 ⟨rfl, hj5, hg5⟩
  go_wp2_with (fail)
  go_ret
  exact ⟨rfl, hj5.x, hkept _ hg5⟩

set_option maxHeartbeats 400000 in
theorem WaysToHoist1_any (N : Nat) (n : Nat) (hn : n ≤ 999999) (v : Value) (w : World) (hB : Blk w N [.int .i64 (n : Int)] 2) :
    Calls Try.prog 58 #[v, .pointer (some ⟨N, 0, none⟩)] w fun e w' => e = .returned (.bool true) ∧ Blk w' N [.int .i64 ((n + 1 : Nat) : Int)] 2 ∧ w.grownBy w' (some N) := by
  have c0 := hB.at 0
  simp only [List.getElem?_cons_zero] at c0
  have f0 := hB.frozen 0
  have hS := hB.set 0 (.int .i64 ((n : Int) + 1))
  have hg := grow_set (World.grownBy.refl w (some N)) 0 (.int .i64 ((n : Int) + 1))
  have hn' : (n : Int) ≤ 999999 := by omega
  go_enter Try.func58, Try.ntmps58
  go_wp2_with (fail)
  go_ret
  exact ⟨rfl, hS, hg⟩
/-- The search that counts. -/
def seaN (m : List Int) (A : Option Addr) (cm sets subs L N : Nat) : Sea := ⟨m, A, cm, sets, subs, L, 58, #[.pointer (some ⟨N, 0, none⟩)], false, fun k => k = N, fun W T => Blk W N [.int .i64 (T.length : Int)] 2⟩
theorem seaN_ok (m : List Int) (A : Option Addr) (cm sets subs L N : Nat) (hm : mOk m = true) (hsets : sets ≤ 8) (hsubs : subs ≤ 4) (hN : N < L) (hA : ∀ b o, A = some ⟨b, o, none⟩ → b < N) : SeaOk (seaN m A cm sets subs L N) where
  kinds := mOk_nth hm
  pos := (mOk_len hm).1
  len := (mOk_len hm).2
  subs := hsubs
  sets := hsets
  low := fun b o e => ⟨Nat.lt_trans (hA b o e) hN, fun e' => by have := hA b o e; have e' : b = N := e'; omega⟩
  rl := fun k e => by have e : k = N := e; show k < L; omega
  enters := enters Try.func58 (by kernel_rfl) rfl
  stab := fun w w' T hx hg => hg.blk hx (fun e => by have e : N = L + 1 := e; omega)
  each := fun w T h v hx _ _ _ hT => (WaysToHoist1_any N T.length hT v w hx).mono fun e w' hR => ⟨hR.1, by show Blk w' N [.int .i64 ((T ++ [h]).length : Int)] _; rw [List.length_append]; exact hR.2.1, Grw.grown hR.2.2 rfl⟩

set_option maxRecDepth 100000 in
set_option maxHeartbeats 1000000 in
theorem WaysToHoist_any (m : List Int) (rm : ∀ n ∈ m, -128 ≤ n ∧ n ≤ 127) (hn : m.length ≤ 1048576) (A : Option Addr) (cm : Nat) (sets subs : Int) (w : World) (hs : Sl .i8 w A m) :
    Calls Try.prog 26 #[.slice A m.length cm, .int .i64 sets, .int .i64 subs] w fun e w' => e = .returned (.tuple #[.int .i64 (waysN m sets subs), .int .i64 (askC m sets subs)]) ∧ Below w.heap.size w w' := by
  have key := hoistCode_any m rm hn A cm sets subs w hs
  unfold waysN
  by_cases h0 : askC m sets subs = 0
  · obtain ⟨hm, e1, e2, l1, l2⟩ := ask_nat h0
    have hev := fun W => even_any sets.toNat subs.toNat l1 l2 W
    have hho := fun N W (hN : N < W.heap.size) (hA : ∀ b o, A = some ⟨b, o, none⟩ → b < N) hsl hx => hoists_any (seaN m A cm sets.toNat subs.toNat W.heap.size N) (seaN_ok m A cm sets.toNat subs.toNat W.heap.size N hm l1 l2 hN hA) W rfl hsl hx
    rw [if_pos h0]
    rw [h0] at key ⊢
    rw [← e1, ← e2] at hev
    have hAw : ∀ b o, A = some ⟨b, o, none⟩ → b < w.heap.size := fun b o e => by
      obtain ⟨b', o', e', hr⟩ := hs.2 (mOk_len hm).1
      rw [e] at e'
      simp only [Option.some.injEq, Addr.mk.injEq] at e'
      rw [e'.1]
      exact World.block_lt_of_cell? w _ (hr 0 _ (i8s_get m 0 (mOk_len hm).1))
    have hpl := As.mk (show ∀ T : List (List Int), goes false T = true ∧ vis false T = T from fun T => ⟨rfl, rfl⟩)
    simp only [seaN, (hpl.out _).1, (hpl.out _).2] at hho
    have hF := As.mk (found_count m sets.toNat subs.toNat l2 (mOk_len hm).2)
    generalize found m sets.toNat subs.toNat = T at *
    generalize haveL sets.toNat subs.toNat [] = ps at *
    clear h0 e1 e2 hpl
    go_enter Try.func26, Try.ntmps26
    go_wp2_with (fail)
    refine key.mono ?_; rintro e w1 ⟨rfl, hb⟩
    have B1 : Blk (w1.alloc (.cells #[.int .i64 0] 2)) w1.heap.size [.int .i64 0] 2 := Blk.mk _ [_] _ rfl
    have hb1 := bl_new hb (.cells #[.int .i64 0] 2)
    go_wp2_with (fail)
    refine (hev _).mono ?_; rintro e w2 ⟨rfl, hb2⟩
    have B2 := B1.kept hb2
    have hh := hho w1.heap.size w2 B2.lt (fun b o e => Nat.lt_of_lt_of_le (hAw b o e) hb.size) ((hs.kept hb1).kept hb2) B2
    have hb3 := bl_call hb1 hb2
    have hsz := hb.size
    clear B1 hho hev
    go_wp2_with (fail)
    refine hh.mono ?_; rintro e w3 ⟨rfl, B3, g3⟩
    have hb4 : Below w.heap.size w w3 := g3.toBelow hb3 hb3.size (fun k e => by rw [show k = w1.heap.size from e]; exact hsz)
    have c3 := B3.at 0
    simp only [List.getElem?_cons_zero] at c3
    go_wp2_with (fail)
    go_ret2
    exact ⟨rfl, hb4⟩
  · rw [if_neg h0]
    have h0' : (askC m sets subs != 0) = true := by rw [bne_iff_ne]; exact h0
    generalize askC m sets subs = cc at *
    go_enter Try.func26, Try.ntmps26
    go_wp2_with (fail)
    refine key.mono ?_; rintro e w1 ⟨rfl, hb⟩
    go_wp2_with (fail)
    go_ret2
    exact ⟨rfl, hb⟩
end Go.Proofs.Ytnokdbnlagoidaa
