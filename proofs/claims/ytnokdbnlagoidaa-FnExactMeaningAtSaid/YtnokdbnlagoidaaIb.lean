/- Contract: (impl.Meaning).hoists$1: at a break. (Printed by genIh.py.) -/
import Derived.Test.YtnokdbnlagoidaaIh
set_option linter.unusedVariables false
namespace Go.Proofs.Ytnokdbnlagoidaa
open Go.RowKit

set_option maxRecDepth 100000 in
set_option maxHeartbeats 4000000 in
theorem ch_brk (s : Sea) (ok : SeaOk s) (d : Nat) (ih : ChOk s d) (h : List Int) (g : Nat) (T1 : List (List Int)) (hd : h.length + (d + 1) = s.m.length) (hway : Way s.sets s.subs h) (hone : s.one = true → T1 = []) (hT : T1.length + (look s.m s.sets s.subs (d + 1) h g).length ≤ 999999) (hx : nth s.m h.length = -10)
    (w : World) (v : Value) (hj : J s w T1 h) (hv : Hv s.L w v h) :
    Calls Try.prog 91 #[v, .int .i64 g, .pointer (some ⟨s.L, 0, none⟩), .pointer (some ⟨s.L + 2, 0, none⟩), .pointer (some ⟨s.L + 3, 0, none⟩), .pointer (some ⟨s.L + 1, 0, none⟩)] w fun e w' =>
      e = .returned (.bool (goes s.one (look s.m s.sets s.subs (d + 1) h g))) ∧ J s w' (T1 ++ vis s.one (look s.m s.sets s.subs (d + 1) h g)) h ∧ Grw s.S w w' := by
  rw [look_brk hx] at hT ⊢
  have ihb := ih (h ++ [-10]) (h.length + 1) T1 (by simp; omega) (by simp) hway.brk hone hT
  have hjb : J s w T1 (h ++ [-10]) := ⟨hj.m0, by rw [have_brk]; exact hj.pcs, hj.each, hj.self, hj.mean, hj.x⟩
  have m0 := hj.m0
  have e3 : w.drew.cell? ⟨s.L + 3, 0, none⟩ = _ := hj.self
  obtain ⟨b, o, hA, hr⟩ := hj.mean.2 (by omega)
  have c0 := hr h.length _ (i8s_get s.m h.length (by omega))
  rw [hx] at c0
  rw [hA] at m0
  have h8 : h.length ≤ 8 := by have := ok.len; omega
  have hlm : (h.length : Int) < (s.m.length : Int) := by omega
  have hm8 : (s.m.length : Int) ≤ 8 := by have := ok.len; omega
  have hne : ((h.length : Int) == (s.m.length : Int)) = false := by rw [beq_eq_false_iff_ne]; omega
  have hL : s.L + 4 ≤ w.drew.heap.size := by have := World.block_lt_of_cell? w _ hj.self; simp at this; exact this
  have hS3 : ¬ s.S (s.L + 3) := fun e => by rcases e with e | e; · omega
                                            · have := ok.rl _ e; omega
  have hp2 : 0 < (h ++ [(-10 : Int)]).length := by simp
  have hbk := As.mk (have_brk (sets := s.sets) (subs := s.subs) (h := h))
  have hil := i8s_length h
  have wn : IntKind.i64.wrap ((h.length : Int) + 1) = (h.length : Int) + 1 := by simp [IntKind.wrap, IntKind.bits, IntKind.signed]; omega
  have hvd : Hv s.L w.drew v h := hv
  have hjd : J s w.drew T1 (h ++ [-10]) := ⟨hjb.m0, hjb.pcs, hjb.each, hjb.self, hjb.mean, ok.stab _ _ _ hjb.x (Grw.refl _ _).drew⟩
  obtain ⟨A, c, rfl⟩ := hv.len
  rw [show ((h.length + 1 : Nat) : Int) = (h.length : Int) + 1 from rfl] at ihb
  generalize hlk : look s.m s.sets s.subs d (h ++ [-10]) (h.length + 1) = lk at *
  have hln := As.mk (show h.length = h.length from rfl)
  generalize hn : h.length = n at *
  clear hx hT hlk hd hj hjb hv hr
  go_enter Try.func91, Try.ntmps91
  go_wp2_with (fail)
  refine wp_region_held_drew (S := (Grw s.S w.drew)) (by kernel_rfl) (Grw.refl s.S w.drew) (fun hHeld => ?_)
  (refine hTake 0 30 (v := .func (.func 91) #[] #[.pointer (some ⟨s.L, 0, none⟩), .pointer (some ⟨s.L + 2, 0, none⟩), .pointer (some ⟨s.L + 3, 0, none⟩), .pointer (some ⟨s.L + 1, 0, none⟩)]) rfl rfl (by kernel_rfl) (by kernel_rfl) (by kernel_rfl) (fun _ _ _ h => h) (Or.inl ⟨by rfl, fun W h => by (have h1 := h.cell e3 hS3; clear h; go_simp)⟩) hHeld ?_; simp only [List.set_cons_zero, List.set_cons_succ])
  (refine hTake 1 31 (v := .slice A n c) rfl rfl (by kernel_rfl) (by kernel_rfl) (by kernel_rfl) (fun _ _ _ h => h) (Or.inl ⟨by rfl, fun W _ => rfl⟩) hHeld ?_; simp only [List.set_cons_zero, List.set_cons_succ])
  (refine hTake 5 35 (v := .int .i64 n) rfl rfl (by kernel_rfl) (by kernel_rfl) (by kernel_rfl) (fun _ _ _ h => h) (Or.inl ⟨by rfl, fun W _ => rfl⟩) hHeld ?_; simp only [List.set_cons_zero, List.set_cons_succ])
  (refine hTake 6 36 (v := .int .i64 ((n : Int) + 1)) rfl rfl (by kernel_rfl) (by kernel_rfl) (by kernel_rfl) (fun _ _ _ h => h) (Or.inl ⟨by rfl, fun W h => by go_simp⟩) hHeld ?_; simp only [List.set_cons_zero, List.set_cons_succ])
  clear hHeld
  refine wpAnyH_ready (rs := [2, 3]) (by kernel_rfl) (by simp) ?_
  refine kCallE 2 32 92 rfl rfl (args := #[.slice A n c]) (by rfl) (by go_simp) (R := fun u w' => Own w' (w.drew).heap.size 42 u (i8s h) ∧ Below (w.drew).heap.size (w.drew) w') (CloneH_hv s.L h _ _ hvd (by rw [hn]; exact h8)) (fun u w1 hR => ⟨Grw.below hR.2, ?_⟩) ?_
  · obtain ⟨hO1, hb1⟩ := hR
    simp only [List.set_cons_zero, List.set_cons_succ]
    have hb2 := bl_new hb1 (.cells #[.int .i8 (-10)] 42)
    refine wpAnyH_ready (rs := [3]) (by kernel_rfl) (by simp) ?_
    refine kVal 3 33 rfl rfl (by rfl) (v := .slice (some ⟨w1.heap.size, 0, none⟩) 1 1) (w' := w1.alloc (.cells #[.int .i8 (-10)] 42)) (by go_simp) (Grw.below hb2) ?_ AllReadyH.nil
    simp only [List.set_cons_zero, List.set_cons_succ]
    have hBx : Blk (w1.alloc (.cells #[.int .i8 (-10)] 42)) w1.heap.size [.int .i8 (-10)] 42 := Blk.mk _ [_] _ rfl
    have hO1' := hO1.alloc (.cells #[.int .i8 (-10)] 42)
    clear hO1 hb1
    generalize w1.alloc (.cells #[.int .i8 (-10)] 42) = w2 at *
    generalize w1.heap.size = bx at *
    refine wpAnyH_ready (rs := [4]) (by kernel_rfl) (by simp) ?_
    refine kApp (w0 := w.drew) 4 34 (w.drew).heap.size rfl rfl (.tmp 32) (.tmp 33) 23 42 (.int .i8 0) 1 rfl (by rfl) Try.underlying23 info_i8 rfl (by omega) u (i8s h) [.int .i8 (-10)] bx 0 1 1 rfl rfl rfl (by simp [Value.oneCell']) hO1' (by exact hBx.range) hb2 (hb2).size (by rw [hil]; omega) (fun v2 w4 hO2 hb4 => ⟨Grw.below hb4, ?_⟩) AllReadyH.nil
    simp only [List.set_cons_zero, List.set_cons_succ]
    rw [show i8s h ++ [Value.int .i8 (-10)] = i8s (h ++ [-10]) from i8s_snoc _ _] at hO2
    refine wpAnyH_ready (rs := [7]) (by kernel_rfl) (by simp) ?_
    refine kCallE 7 37 91 rfl rfl (args := #[v2, .int .i64 ((n : Int) + 1), .pointer (some ⟨s.L, 0, none⟩), .pointer (some ⟨s.L + 2, 0, none⟩), .pointer (some ⟨s.L + 3, 0, none⟩), .pointer (some ⟨s.L + 1, 0, none⟩)]) (by rfl) (by go_simp) (R := fun v w' => v = .bool (goes s.one lk) ∧ J s w' (T1 ++ vis s.one lk) (h ++ [-10]) ∧ Grw s.S w4 w')
      (((ihb w4 v2 (J.kept ok hjd hb4) (Hv.of_own hO2 hL hp2)).mono (fun e w' h => ⟨_, h.1, rfl, h.2.1, h.2.2⟩))) (fun v3 w5 hR => ⟨(Grw.below hb4).trans hR.2.2, ?_⟩) AllReadyH.nil
    obtain ⟨rfl, hj5, hg5⟩ := hR
    simp only [List.set_cons_zero, List.set_cons_succ]
    refine wpAnyH_ready (rs := [8]) (by kernel_rfl) (by simp) ?_
    refine kVal 8 8 rfl rfl (by rfl) (v := .bool (goes s.one lk)) (by rfl) ((Grw.below hb4).trans hg5) ?_ AllReadyH.nil
    simp only [List.set_cons_zero, List.set_cons_succ]
    refine wpAnyH_done (by kernel_rfl) ?_ _
    have hg6 : Grw s.S (w.drew) w5 := (Grw.below hb4).trans hg5
    clear hO2 hb4 hg5
    go_wp2_with (fail)
    go_ret
    exact ⟨rfl, ⟨hj5.m0, by rw [← hbk.out]; exact hj5.pcs, hj5.each, hj5.self, hj5.mean, hj5.x⟩, ((Grw.refl s.S w).drew).trans hg6⟩
  · have hb1 := bl_new (Below.refl (w.drew).heap.size (w.drew)) (.cells #[.int .i8 (-10)] 42)
    refine kVal 3 33 rfl rfl (by rfl) (v := .slice (some ⟨(w.drew).heap.size, 0, none⟩) 1 1) (w' := (w.drew).alloc (.cells #[.int .i8 (-10)] 42)) (by go_simp) (Grw.below hb1) ?_ AllReadyH.nil
    simp only [List.set_cons_zero, List.set_cons_succ]
    have hBx : Blk ((w.drew).alloc (.cells #[.int .i8 (-10)] 42)) (w.drew).heap.size [.int .i8 (-10)] 42 := Blk.mk _ [_] _ rfl
    have hvb := (hvd).grw (Grw.below (S := fun _ => False) hb1) (fun _ e => e.elim)
    generalize (w.drew).alloc (.cells #[.int .i8 (-10)] 42) = w1 at *
    generalize hbx : (w.drew).heap.size = bx at hBx ⊢
    refine wpAnyH_ready (rs := [2]) (by kernel_rfl) (by simp) ?_
    refine kCallE 2 32 92 rfl rfl (args := #[.slice A n c]) (by rfl) (by go_simp) (R := fun u w' => Own w' w1.heap.size 42 u (i8s h) ∧ Below w1.heap.size w1 w') (CloneH_hv s.L h _ _ hvb (by rw [hn]; exact h8)) (fun u w2 hR => ⟨Grw.below (bl_call hb1 hR.2), ?_⟩) AllReadyH.nil
    obtain ⟨hO1, hb2'⟩ := hR
    simp only [List.set_cons_zero, List.set_cons_succ]
    have hb2 := bl_call hb1 hb2'
    have hBx2 := hBx.kept hb2'
    have hO1' := hO1.lower hb1.size
    clear hO1 hb2' hBx hvb hb1
    subst hbx
    refine wpAnyH_ready (rs := [4]) (by kernel_rfl) (by simp) ?_
    refine kApp (w0 := w.drew) 4 34 (w.drew).heap.size rfl rfl (.tmp 32) (.tmp 33) 23 42 (.int .i8 0) 1 rfl (by rfl) Try.underlying23 info_i8 rfl (by omega) u (i8s h) [.int .i8 (-10)] (w.drew).heap.size 0 1 1 rfl rfl rfl (by simp [Value.oneCell']) hO1' (by exact hBx2.range) hb2 (hb2).size (by rw [hil]; omega) (fun v2 w4 hO2 hb4 => ⟨Grw.below hb4, ?_⟩) AllReadyH.nil
    simp only [List.set_cons_zero, List.set_cons_succ]
    rw [show i8s h ++ [Value.int .i8 (-10)] = i8s (h ++ [-10]) from i8s_snoc _ _] at hO2
    refine wpAnyH_ready (rs := [7]) (by kernel_rfl) (by simp) ?_
    refine kCallE 7 37 91 rfl rfl (args := #[v2, .int .i64 ((n : Int) + 1), .pointer (some ⟨s.L, 0, none⟩), .pointer (some ⟨s.L + 2, 0, none⟩), .pointer (some ⟨s.L + 3, 0, none⟩), .pointer (some ⟨s.L + 1, 0, none⟩)]) (by rfl) (by go_simp) (R := fun v w' => v = .bool (goes s.one lk) ∧ J s w' (T1 ++ vis s.one lk) (h ++ [-10]) ∧ Grw s.S w4 w')
      (((ihb w4 v2 (J.kept ok hjd hb4) (Hv.of_own hO2 hL hp2)).mono (fun e w' h => ⟨_, h.1, rfl, h.2.1, h.2.2⟩))) (fun v3 w5 hR => ⟨(Grw.below hb4).trans hR.2.2, ?_⟩) AllReadyH.nil
    obtain ⟨rfl, hj5, hg5⟩ := hR
    simp only [List.set_cons_zero, List.set_cons_succ]
    refine wpAnyH_ready (rs := [8]) (by kernel_rfl) (by simp) ?_
    refine kVal 8 8 rfl rfl (by rfl) (v := .bool (goes s.one lk)) (by rfl) ((Grw.below hb4).trans hg5) ?_ AllReadyH.nil
    simp only [List.set_cons_zero, List.set_cons_succ]
    refine wpAnyH_done (by kernel_rfl) ?_ _
    have hg6 : Grw s.S (w.drew) w5 := (Grw.below hb4).trans hg5
    clear hO2 hb4 hg5
    go_wp2_with (fail)
    go_ret
    exact ⟨rfl, ⟨hj5.m0, by rw [← hbk.out]; exact hj5.pcs, hj5.each, hj5.self, hj5.mean, hj5.x⟩, ((Grw.refl s.S w).drew).trans hg6⟩
end Go.Proofs.Ytnokdbnlagoidaa
