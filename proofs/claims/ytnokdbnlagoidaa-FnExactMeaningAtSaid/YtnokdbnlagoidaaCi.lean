/- Contract: CountMeanings (impl). (Printed by ci.py.) -/
import Derived.Test.YtnokdbnlagoidaaCm
set_option linter.unusedVariables false
namespace Go.Proofs.Ytnokdbnlagoidaa
open Go.RowKit

set_option maxRecDepth 100000 in
set_option maxHeartbeats 400000 in
theorem CloneM_own (m : List Int) (v : Value) (base : Nat) (w : World) (hv : Own w base 42 v (i8s m)) (hn : m.length ≤ 1048576) :
    Calls Try.prog 64 #[v] w fun e w' => ∃ u, e = .returned u ∧ Own w' w.heap.size 42 u (i8s m) ∧ Below w.heap.size w w' := by
  rcases hv.form with ⟨rfl, hn0⟩ | ⟨g, c, rfl, _, _, hr, _⟩
  · obtain rfl : m = [] := by simpa [i8s] using hn0
    have he : ∀ W : World, (binOp .eql 26 (.slice none 0 0) (.slice none 0 0)).run Try.prog W = .ok (.bool true) W := fun _ => rfl
    go_enter Try.func64, Try.ntmps64
    go_wp2_with (fail)
    go_ret
    exact ⟨_, rfl, Own.nil _ _ _, Below.refl _ _⟩
  · rw [i8s_length]
    have hO := Own.lit w w.heap.size 42 [] (Nat.le_refl _) (by simp)
    have hb := bl_new (Below.refl _ w) (.cells #[] 42)
    have hr' : (w.alloc (.cells #[] 42)).rangeAt g 0 (i8s m) := range_below hr hb
    have he : ∀ W : World, (binOp .eql 26 (.slice (some ⟨g, 0, none⟩) m.length c) (.slice none 0 0)).run Try.prog W = .ok (.bool false) W := fun _ => rfl
    have hil := i8s_length m
    go_enter Try.func64, Try.ntmps64
    go_wp2_with (at_builtin; refine appN (w0 := w) (w.heap.size) rfl (.tmp 5) (.tmp 6) 26 42 (.int .i8 0) 1 rfl Try.underlying26 info_i8 rfl (by omega) (.slice (some ⟨w.heap.size, 0, none⟩) 0 0) ([]) (i8s m) g 0 c m.length rfl rfl hil (i8s_one _) hO hr' hb hb.size (by simp; omega) ?_)
    intro v1 w1 hO1 hb1 _ _
    go_wp2_with (fail)
    go_ret
    exact ⟨_, rfl, hO1, hb1⟩

/-- What the count has at hand: its numbers and itself. -/
structure Cj (K len sets subs L : Nat) (w : World) : Prop where
  k : w.cell? ⟨L, 0, none⟩ = some (.int .i64 K)
  len : w.cell? ⟨L + 1, 0, none⟩ = some (.int .i64 len)
  sets : w.cell? ⟨L + 2, 0, none⟩ = some (.int .i64 sets)
  subs : w.cell? ⟨L + 3, 0, none⟩ = some (.int .i64 subs)
  self : w.cell? ⟨L + 4, 0, none⟩ = some (.func (.func 62) #[] #[.pointer (some ⟨L + 1, 0, none⟩), .pointer (some ⟨L + 2, 0, none⟩), .pointer (some ⟨L + 3, 0, none⟩), .pointer (some ⟨L + 4, 0, none⟩), .pointer (some ⟨L, 0, none⟩)])
theorem Cj.kept {K len sets subs L : Nat} {w w' : World} (j : Cj K len sets subs L w) (hb : Below w.heap.size w w') : Cj K len sets subs L w' :=
  have hg : Grw (fun _ => False) w w' := Grw.below hb
  ⟨hg.cell j.k (fun e => e), hg.cell j.len (fun e => e), hg.cell j.sets (fun e => e), hg.cell j.subs (fun e => e), hg.cell j.self (fun e => e)⟩

/-- The contract of the count where d kinds are still to come (impl). -/
def CntOk (K len sets subs d : Nat) : Prop := ∀ (m : List Int) (nx : Nat), m.length + d = len → nx ≤ m.length → nx ≤ K → (∀ x ∈ m, 0 ≤ x ∧ x ≤ 39) → ∀ (L : Nat) (w : World) (v : Value), Cj K len sets subs L w → Own w 0 42 v (i8s m) →
  Calls Try.prog 62 #[v, .int .i64 nx, .int .i64 (prodK K nx), .pointer (some ⟨L + 1, 0, none⟩), .pointer (some ⟨L + 2, 0, none⟩), .pointer (some ⟨L + 3, 0, none⟩), .pointer (some ⟨L + 4, 0, none⟩), .pointer (some ⟨L, 0, none⟩)] w fun e w' =>
    e = .returned (.int .i64 (pat K sets subs d m nx)) ∧ Below w.heap.size w w'

set_option maxRecDepth 100000 in
set_option maxHeartbeats 2000000 in
theorem cnt_leaf (K len sets subs : Nat) (hlen : 1 ≤ len ∧ len ≤ 6) (hsets : sets ≤ 8) (hsubs : subs ≤ 4) : CntOk K len sets subs 0 := by
  intro m nx hd hnx hnK hmk L w v hj hv
  have hl : m.length = len := by omega
  have hm := kinds_mOk hmk (by omega) (by omega)
  obtain ⟨A, c, rfl, hs⟩ := hv.sl
  rw [hl]
  have hev := fun W => even_any sets subs hsets hsubs W
  have hfi := fun W h => first_any m hm A c sets subs hsets hsubs W h
  rw [hl] at hfi
  have hP := As.mk (show pat K sets subs 0 m nx = if (found m sets subs).isEmpty then 0 else prodK K nx from rfl)
  generalize pat K sets subs 0 m nx = res at *
  generalize found m sets subs = T at *
  generalize haveL sets subs [] = ps at *
  have k1 := hj.len
  have k2 := hj.sets
  have k3 := hj.subs
  clear hd hnx hmk hm hl hlen hj hv
  cases hT : T.isEmpty
  all_goals
    have hP0 := hP.out
    rw [hT] at hP0 hfi
    have hP0 := As.mk hP0
    go_enter Try.func62, Try.ntmps62
    go_wp2_with (fail)
    go_quiet ((go_at_call 63; exact Calls.quiet_of_same ((size8_any _ _ _ _).mono fun e w' h => ⟨h.1, h.2.symm⟩)))
    go_wp2_with (fail)
    refine (hev _).mono ?_; rintro e w2 ⟨rfl, hb2⟩
    have hb3 := bl_call (bl_drewN (Below.refl w.heap.size w) nq) hb2
    go_wp2_with (fail)
    refine (hfi _ (hs.kept hb3)).mono ?_; rintro e w3 ⟨⟨u, rfl, hO⟩, hb4⟩
    go_wp2_with (fail)
    go_ret
    exact ⟨ret_n (by rw [hP0.out]; rfl), bl_call hb3 hb4⟩

set_option maxRecDepth 100000 in
set_option maxHeartbeats 8000000 in
theorem cnt_step (K len sets subs d : Nat) (hK : K ≤ 40) (hlen : 1 ≤ len ∧ len ≤ 6) (ih : CntOk K len sets subs d) : CntOk K len sets subs (d + 1) := by
  intro m nx hd hnx hnK hmk L w v hj hv
  have hP := As.mk (show pat K sets subs (d + 1) m nx = patK K sets subs d m nx (endK K nx) from rfl)
  have hl : ((m.length : Int) == (len : Int)) = false := by rw [beq_eq_false_iff_ne]; omega
  have hbd := fun k (hk : k ≤ endK K nx) => patK_bound (K := K) (sets := sets) (subs := subs) (d := d) (m := m) (nx := nx) (k := k) hnK hK (by omega) hk
  have hm6 : m.length ≤ 5 := by omega
  have hl2 : ∀ x : Int, (m ++ [x]).length = m.length + 1 := fun x => by simp
  have ih2 := As.mk (fun (x : Nat) (hx : x < endK K nx) => ih (m ++ [(x : Int)]) (if x = nx then nx + 1 else nx) (by rw [hl2]; omega) (by rw [hl2]; split <;> omega) (by unfold endK at hx; split at hx <;> split <;> omega)
    (fun y hy => by
      rcases List.mem_append.1 hy with hy | hy
      · exact hmk y hy
      · simp at hy; subst hy; unfold endK at hx; split at hx <;> omega))
  have hil := i8s_length m
  have hnx6 : nx ≤ 5 := by omega
  have hn6 : (nx : Int) ≤ 5 := by omega
  have hK' : (K : Int) ≤ 40 := by omega
  have hnK' : (nx : Int) ≤ (K : Int) := by omega
  have HB := As.mk hbd
  have hpn := prodK_bound (k := nx) hK (by omega)
  have hpn2 := prodK_bound (k := nx + 1) hK (by omega)
  have hEnd := As.mk (show ∀ k, k ≤ nx → k ≤ endK K nx from fun k hk => by unfold endK; split <;> omega)
  generalize hres : pat K sets subs (d + 1) m nx = res at *
  clear ih hd hnx hmk hbd hlen hl2 hres
  obtain ⟨A, c, rfl, _⟩ := hv.sl
  generalize hmn : m.length = mn at *
  have HM := As.mk hmn
  clear hmn
  have k1 := hj.len
  have k5 := hj.k
  go_enter Try.func62, Try.ntmps62
  go_wp2_with (fail)
  go_quiet ((go_at_call 63; exact Calls.quiet_of_same ((size8_any _ _ _ _).mono fun e w' h => ⟨h.1, h.2.symm⟩)))
  have hjq : Cj K len sets subs L (w.drewN nq) := ⟨hj.k, hj.len, hj.sets, hj.subs, hj.self⟩
  have hvq : Own (w.drewN nq) 0 42 (.slice A mn c) (i8s m) := hv
  have hbq : Below w.heap.size w (w.drewN nq) := bl_drewN (Below.refl _ _) nq
  clear hj hv k1 k5
  generalize w.drewN nq = wq at *
  go_wp2_with (fail)
  go_loopw [14, 32] (fun sum x wr => ∃ k : Nat, k ≤ nx ∧ x = .int .i64 k ∧ sum = .int .i64 (patK K sets subs d m nx k) ∧ Below wq.heap.size wq wr) (fun _ x _ => nx - (intOf x).toNat)
  case atStart => exact ⟨0, by omega, rfl, rfl, Below.refl _ _⟩
  case round =>
    obtain ⟨k, hk, rfl, rfl, hb⟩ := hrel
    have hjr := hjq.kept hb
    have hvr := hvq.kept hb
    by_cases hlt : k < nx
    · have hi := ih2.out k (by have := hEnd.out (k + 1) hlt; omega)
      have hb2 := HB.out (k + 1) (hEnd.out _ hlt)
      have hps := As.mk (patK_succ (K := K) (sets := sets) (subs := subs) (d := d) (m := m) (nx := nx) (k := k))
      rw [hps.out] at hb2
      have hne : ¬ k = nx := by omega
      rw [if_neg hne] at hi hb2
      have hps := As.mk (show patK K sets subs d m nx (k + 1) = patK K sets subs d m nx k + pat K sets subs d (m ++ [(k : Int)]) nx by rw [hps.out, if_neg hne])
      have hlt' : (k : Int) < (nx : Int) := by omega
      generalize hpv : pat K sets subs d (m ++ [(k : Int)]) nx = pv at *
      generalize hpk : patK K sets subs d m nx k = pk at *
      generalize prodK K nx = pn at *
      have hb1' : (pk : Int) ≤ 4096000000 := by omega
      have hb2' : (pk : Int) + (pv : Int) ≤ 4096000000 := by omega
      have w8 : IntKind.i8.wrap (k : Int) = (k : Int) := by simp [IntKind.wrap, IntKind.bits, IntKind.signed]; omega
      have ws : IntKind.i64.wrap ((pk : Int) + (pv : Int)) = (pk : Int) + (pv : Int) := by simp [IntKind.wrap, IntKind.bits, IntKind.signed]; omega
      clear hb2 hk hpv hpk hne
      have hlt := As.mk hlt
      have hjd : Cj K len sets subs L wr.drew := ⟨hjr.k, hjr.len, hjr.sets, hjr.subs, hjr.self⟩
      have hvd : Own wr.drew 0 42 (.slice A mn c) (i8s m) := hvr
      have e3 := hjd.self
      go_wp2_with (fail)
      refine wp_region_held_drew (S := (Below wr.drew.heap.size wr.drew)) (by kernel_rfl) (Below.refl wr.drew.heap.size wr.drew) (fun hHeld => ?_)
      (refine hTake 0 35 (v := .int .i64 (pk : Int)) rfl rfl (by kernel_rfl) (by kernel_rfl) (by kernel_rfl) (fun _ _ _ h => h) (Or.inl ⟨by rfl, fun W _ => rfl⟩) hHeld ?_; simp only [List.set_cons_zero, List.set_cons_succ])
      (refine hTake 1 36 (v := .func (.func 62) #[] #[.pointer (some ⟨L + 1, 0, none⟩), .pointer (some ⟨L + 2, 0, none⟩), .pointer (some ⟨L + 3, 0, none⟩), .pointer (some ⟨L + 4, 0, none⟩), .pointer (some ⟨L, 0, none⟩)]) rfl rfl (by kernel_rfl) (by kernel_rfl) (by kernel_rfl) (fun _ _ _ h => h) (Or.inl ⟨by rfl, fun W h => by (have h1 := (Grw.below (S := fun _ => False) h).cell e3 (fun e => e); clear h; go_simp)⟩) hHeld ?_; simp only [List.set_cons_zero, List.set_cons_succ])
      (refine hTake 2 37 (v := .slice A mn c) rfl rfl (by kernel_rfl) (by kernel_rfl) (by kernel_rfl) (fun _ _ _ h => h) (Or.inl ⟨by rfl, fun W _ => rfl⟩) hHeld ?_; simp only [List.set_cons_zero, List.set_cons_succ])
      (refine hTake 4 39 (v := .int .i64 (k : Int)) rfl rfl (by kernel_rfl) (by kernel_rfl) (by kernel_rfl) (fun _ _ _ h => h) (Or.inl ⟨by rfl, fun W _ => rfl⟩) hHeld ?_; simp only [List.set_cons_zero, List.set_cons_succ])
      (refine hTake 5 40 (v := .int .i8 (k : Int)) rfl rfl (by kernel_rfl) (by kernel_rfl) (by kernel_rfl) (fun _ _ _ h => h) (Or.inl ⟨by rfl, fun W h => by go_simp⟩) hHeld ?_; simp only [List.set_cons_zero, List.set_cons_succ])
      (refine hTake 8 43 (v := .int .i64 (nx : Int)) rfl rfl (by kernel_rfl) (by kernel_rfl) (by kernel_rfl) (fun _ _ _ h => h) (Or.inl ⟨by rfl, fun W _ => rfl⟩) hHeld ?_; simp only [List.set_cons_zero, List.set_cons_succ])
      (refine hTake 9 44 (v := .int .i64 (pn : Int)) rfl rfl (by kernel_rfl) (by kernel_rfl) (by kernel_rfl) (fun _ _ _ h => h) (Or.inl ⟨by rfl, fun W _ => rfl⟩) hHeld ?_; simp only [List.set_cons_zero, List.set_cons_succ])
      clear hHeld
      refine wpAnyH_ready (rs := [3, 6]) (by kernel_rfl) (by simp) ?_
      refine kCallE 3 38 64 rfl rfl (args := #[.slice A mn c]) (by rfl) (by go_simp) (R := fun u w' => Own w' (wr.drew).heap.size 42 u (i8s m) ∧ Below (wr.drew).heap.size (wr.drew) w') (CloneM_own m _ 0 _ hvd (by rw [HM.out]; omega)) (fun u w1 hR => ⟨hR.2, ?_⟩) ?_
      · obtain ⟨hO1, hb1⟩ := hR
        simp only [List.set_cons_zero, List.set_cons_succ]
        have hb2 := bl_new hb1 (.cells #[.int .i8 ((k : Int))] 42)
        refine wpAnyH_ready (rs := [6]) (by kernel_rfl) (by simp) ?_
        refine kVal 6 41 rfl rfl (by rfl) (v := .slice (some ⟨w1.heap.size, 0, none⟩) 1 1) (w' := w1.alloc (.cells #[.int .i8 ((k : Int))] 42)) (by go_simp) hb2 ?_ AllReadyH.nil
        simp only [List.set_cons_zero, List.set_cons_succ]
        have hBx : Blk (w1.alloc (.cells #[.int .i8 ((k : Int))] 42)) w1.heap.size [.int .i8 ((k : Int))] 42 := Blk.mk _ [_] _ rfl
        have hO1' := hO1.alloc (.cells #[.int .i8 ((k : Int))] 42)
        clear hO1 hb1
        generalize w1.alloc (.cells #[.int .i8 ((k : Int))] 42) = w2 at *
        generalize w1.heap.size = bx at *
        refine wpAnyH_ready (rs := [7]) (by kernel_rfl) (by simp) ?_
        refine kApp (w0 := wr.drew) 7 42 (wr.drew).heap.size rfl rfl (.tmp 38) (.tmp 41) 26 42 (.int .i8 0) 1 rfl (by rfl) Try.underlying26 info_i8 rfl (by omega) u (i8s m) [.int .i8 ((k : Int))] bx 0 1 1 rfl rfl rfl (by simp [Value.oneCell']) hO1' (by exact hBx.range) hb2 (hb2).size (by rw [hil]; omega) (fun v2 w4 hO2 hb4 => ⟨hb4, ?_⟩) AllReadyH.nil
        simp only [List.set_cons_zero, List.set_cons_succ]
        rw [show i8s m ++ [Value.int .i8 ((k : Int))] = i8s (m ++ [(k : Int)]) from i8s_snoc _ _] at hO2
        refine wpAnyH_ready (rs := [10]) (by kernel_rfl) (by simp) ?_
        refine kCall 10 45 62 rfl rfl (args := #[v2, .int .i64 ((nx : Int)), .int .i64 ((pn : Int)), .pointer (some ⟨L + 1, 0, none⟩), .pointer (some ⟨L + 2, 0, none⟩), .pointer (some ⟨L + 3, 0, none⟩), .pointer (some ⟨L + 4, 0, none⟩), .pointer (some ⟨L, 0, none⟩)]) (by rfl) (by go_simp) (.int .i64 (pv : Int)) (hi L w4 v2 (hjd.kept hb4) (hO2.lower (Nat.zero_le _))) (fun w5 hb5' => ⟨bl_call hb4 hb5', ?_⟩) AllReadyH.nil
        have hb5 := bl_call hb4 hb5'
        clear hO2 hb4 hb5'
        simp only [List.set_cons_zero, List.set_cons_succ]
        refine wpAnyH_ready (rs := [11]) (by kernel_rfl) (by simp) ?_
        refine kVal 11 46 rfl rfl (by rfl) (v := .int .i64 ((pk : Int) + (pv : Int))) (by go_simp) hb5 ?_ AllReadyH.nil
        simp only [List.set_cons_zero, List.set_cons_succ]
        refine wpAnyH_ready (rs := [12]) (by kernel_rfl) (by simp) ?_
        refine kVal 12 14 rfl rfl (by rfl) (v := .int .i64 ((pk : Int) + (pv : Int))) (by rfl) hb5 ?_ AllReadyH.nil
        simp only [List.set_cons_zero, List.set_cons_succ]
        refine wpAnyH_done (by kernel_rfl) ?_ _
        have hb6 : Below wq.heap.size wq w5 := (hb.trans ((show Below wr.heap.size wr wr.drew from (Below.refl _ wr).drew).mono hb.size)).trans (hb5.mono (by exact hb.size))
        go_wp2_with (fail)
        go_roundw
        case rel => exact ⟨k + 1, hlt.out, by go_num, by rw [hps.out, Int.natCast_add], hb6⟩
        case measure => have := hlt.out; simp [intOf]; omega
      · have hb1 := bl_new (Below.refl (wr.drew).heap.size (wr.drew)) (.cells #[.int .i8 ((k : Int))] 42)
        refine kVal 6 41 rfl rfl (by rfl) (v := .slice (some ⟨(wr.drew).heap.size, 0, none⟩) 1 1) (w' := (wr.drew).alloc (.cells #[.int .i8 ((k : Int))] 42)) (by go_simp) hb1 ?_ AllReadyH.nil
        simp only [List.set_cons_zero, List.set_cons_succ]
        have hBx : Blk ((wr.drew).alloc (.cells #[.int .i8 ((k : Int))] 42)) (wr.drew).heap.size [.int .i8 ((k : Int))] 42 := Blk.mk _ [_] _ rfl
        have hvb := hvd.kept hb1
        generalize (wr.drew).alloc (.cells #[.int .i8 ((k : Int))] 42) = w1 at *
        generalize hbx : (wr.drew).heap.size = bx at hBx ⊢
        refine wpAnyH_ready (rs := [3]) (by kernel_rfl) (by simp) ?_
        refine kCallE 3 38 64 rfl rfl (args := #[.slice A mn c]) (by rfl) (by go_simp) (R := fun u w' => Own w' w1.heap.size 42 u (i8s m) ∧ Below w1.heap.size w1 w') (CloneM_own m _ 0 _ hvb (by rw [HM.out]; omega)) (fun u w2 hR => ⟨?_, ?_⟩) AllReadyH.nil
        · subst hbx; exact bl_call hb1 hR.2
        obtain ⟨hO1, hb2'⟩ := hR
        simp only [List.set_cons_zero, List.set_cons_succ]
        have hb2 := bl_call hb1 hb2'
        have hBx2 := hBx.kept hb2'
        have hO1' := hO1.lower hb1.size
        clear hO1 hb2' hBx hvb hb1
        subst hbx
        refine wpAnyH_ready (rs := [7]) (by kernel_rfl) (by simp) ?_
        refine kApp (w0 := wr.drew) 7 42 (wr.drew).heap.size rfl rfl (.tmp 38) (.tmp 41) 26 42 (.int .i8 0) 1 rfl (by rfl) Try.underlying26 info_i8 rfl (by omega) u (i8s m) [.int .i8 ((k : Int))] (wr.drew).heap.size 0 1 1 rfl rfl rfl (by simp [Value.oneCell']) hO1' (by exact hBx2.range) hb2 (hb2).size (by rw [hil]; omega) (fun v2 w4 hO2 hb4 => ⟨hb4, ?_⟩) AllReadyH.nil
        simp only [List.set_cons_zero, List.set_cons_succ]
        rw [show i8s m ++ [Value.int .i8 ((k : Int))] = i8s (m ++ [(k : Int)]) from i8s_snoc _ _] at hO2
        refine wpAnyH_ready (rs := [10]) (by kernel_rfl) (by simp) ?_
        refine kCall 10 45 62 rfl rfl (args := #[v2, .int .i64 ((nx : Int)), .int .i64 ((pn : Int)), .pointer (some ⟨L + 1, 0, none⟩), .pointer (some ⟨L + 2, 0, none⟩), .pointer (some ⟨L + 3, 0, none⟩), .pointer (some ⟨L + 4, 0, none⟩), .pointer (some ⟨L, 0, none⟩)]) (by rfl) (by go_simp) (.int .i64 (pv : Int)) (hi L w4 v2 (hjd.kept hb4) (hO2.lower (Nat.zero_le _))) (fun w5 hb5' => ⟨bl_call hb4 hb5', ?_⟩) AllReadyH.nil
        have hb5 := bl_call hb4 hb5'
        clear hO2 hb4 hb5'
        simp only [List.set_cons_zero, List.set_cons_succ]
        refine wpAnyH_ready (rs := [11]) (by kernel_rfl) (by simp) ?_
        refine kVal 11 46 rfl rfl (by rfl) (v := .int .i64 ((pk : Int) + (pv : Int))) (by go_simp) hb5 ?_ AllReadyH.nil
        simp only [List.set_cons_zero, List.set_cons_succ]
        refine wpAnyH_ready (rs := [12]) (by kernel_rfl) (by simp) ?_
        refine kVal 12 14 rfl rfl (by rfl) (v := .int .i64 ((pk : Int) + (pv : Int))) (by rfl) hb5 ?_ AllReadyH.nil
        simp only [List.set_cons_zero, List.set_cons_succ]
        refine wpAnyH_done (by kernel_rfl) ?_ _
        have hb6 : Below wq.heap.size wq w5 := (hb.trans ((show Below wr.heap.size wr wr.drew from (Below.refl _ wr).drew).mono hb.size)).trans (hb5.mono (by exact hb.size))
        go_wp2_with (fail)
        go_roundw
        case rel => exact ⟨k + 1, hlt.out, by go_num, by rw [hps.out, Int.natCast_add], hb6⟩
        case measure => have := hlt.out; simp [intOf]; omega
    · obtain rfl : k = nx := by omega
      clear hk hlt
      by_cases hkK : k < K
      · have hkK' : (k : Int) < (K : Int) := by omega
        have hee := As.mk (show endK K k = k + 1 by unfold endK; rw [if_pos hkK])
        have hi := ih2.out k (by rw [hee.out]; omega)
        rw [if_pos rfl] at hi
        have hps := As.mk (patK_succ (K := K) (sets := sets) (subs := subs) (d := d) (m := m) (nx := k) (k := k))
        have hb2 := HB.out (k + 1) (by rw [hee.out]; omega)
        rw [hps.out, if_pos rfl] at hb2
        have hfin := As.mk (show patK K sets subs d m k k + pat K sets subs d (m ++ [(k : Int)]) (k + 1) = res by rw [hP.out, hee.out, hps.out, if_pos rfl])
        generalize hpv : pat K sets subs d (m ++ [(k : Int)]) (k + 1) = pv at *
        generalize hpk : patK K sets subs d m k k = pk at *
        have hmul : (prodK K k : Int) * ((K : Int) - (k : Int)) = (prodK K (k + 1) : Int) := by
          rw [show prodK K (k + 1) = prodK K k * (K - k) from rfl, Int.natCast_mul, Int.natCast_sub (by omega)]
        have hw : IntKind.i64.wrap ((prodK K k : Int) * ((K : Int) - (k : Int))) = (prodK K (k + 1) : Int) := by
          rw [hmul]; simp [IntKind.wrap, IntKind.bits, IntKind.signed]; omega
        generalize prodK K (k + 1) = pn1 at *
        generalize prodK K k = pn at *
        rw [show ((k + 1 : Nat) : Int) = (k : Int) + 1 from rfl] at hi
        have hb1' : (pk : Int) ≤ 4096000000 := by omega
        have hb2' : (pk : Int) + (pv : Int) ≤ 4096000000 := by omega
        have w1 : IntKind.i64.wrap ((k : Int) + 1) = (k : Int) + 1 := by simp [IntKind.wrap, IntKind.bits, IntKind.signed]; omega
        have w2 : IntKind.i64.wrap ((K : Int) - (k : Int)) = (K : Int) - (k : Int) := by simp [IntKind.wrap, IntKind.bits, IntKind.signed]; omega
        have w8 : IntKind.i8.wrap (k : Int) = (k : Int) := by simp [IntKind.wrap, IntKind.bits, IntKind.signed]; omega
        have ws : IntKind.i64.wrap ((pk : Int) + (pv : Int)) = (pk : Int) + (pv : Int) := by simp [IntKind.wrap, IntKind.bits, IntKind.signed]; omega
        clear hb2 hpv hpk hps hkK hmul
        have hjd : Cj K len sets subs L wr.drew := ⟨hjr.k, hjr.len, hjr.sets, hjr.subs, hjr.self⟩
        have hvd : Own wr.drew 0 42 (.slice A mn c) (i8s m) := hvr
        have e3 := hjd.self
        have e0 := hjd.k
        have k5 := hjr.k
        go_wp2_with (fail)
        refine wp_region_held_drew (S := (Below wr.drew.heap.size wr.drew)) (by kernel_rfl) (Below.refl wr.drew.heap.size wr.drew) (fun hHeld => ?_)
        (refine hTake 0 51 (v := .int .i64 (pk : Int)) rfl rfl (by kernel_rfl) (by kernel_rfl) (by kernel_rfl) (fun _ _ _ h => h) (Or.inl ⟨by rfl, fun W _ => rfl⟩) hHeld ?_; simp only [List.set_cons_zero, List.set_cons_succ])
        (refine hTake 1 52 (v := .func (.func 62) #[] #[.pointer (some ⟨L + 1, 0, none⟩), .pointer (some ⟨L + 2, 0, none⟩), .pointer (some ⟨L + 3, 0, none⟩), .pointer (some ⟨L + 4, 0, none⟩), .pointer (some ⟨L, 0, none⟩)]) rfl rfl (by kernel_rfl) (by kernel_rfl) (by kernel_rfl) (fun _ _ _ h => h) (Or.inl ⟨by rfl, fun W h => by (have h1 := (Grw.below (S := fun _ => False) h).cell e3 (fun e => e); clear h; go_simp)⟩) hHeld ?_; simp only [List.set_cons_zero, List.set_cons_succ])
        (refine hTake 2 53 (v := .slice A mn c) rfl rfl (by kernel_rfl) (by kernel_rfl) (by kernel_rfl) (fun _ _ _ h => h) (Or.inl ⟨by rfl, fun W _ => rfl⟩) hHeld ?_; simp only [List.set_cons_zero, List.set_cons_succ])
        (refine hTake 4 55 (v := .int .i64 (k : Int)) rfl rfl (by kernel_rfl) (by kernel_rfl) (by kernel_rfl) (fun _ _ _ h => h) (Or.inl ⟨by rfl, fun W _ => rfl⟩) hHeld ?_; simp only [List.set_cons_zero, List.set_cons_succ])
        (refine hTake 5 56 (v := .int .i8 (k : Int)) rfl rfl (by kernel_rfl) (by kernel_rfl) (by kernel_rfl) (fun _ _ _ h => h) (Or.inl ⟨by rfl, fun W h => by go_simp⟩) hHeld ?_; simp only [List.set_cons_zero, List.set_cons_succ])
        (refine hTake 8 59 (v := .int .i64 (k : Int)) rfl rfl (by kernel_rfl) (by kernel_rfl) (by kernel_rfl) (fun _ _ _ h => h) (Or.inl ⟨by rfl, fun W _ => rfl⟩) hHeld ?_; simp only [List.set_cons_zero, List.set_cons_succ])
        (refine hTake 9 60 (v := .int .i64 ((k : Int) + 1)) rfl rfl (by kernel_rfl) (by kernel_rfl) (by kernel_rfl) (fun _ _ _ h => h) (Or.inl ⟨by rfl, fun W h => by go_simp⟩) hHeld ?_; simp only [List.set_cons_zero, List.set_cons_succ])
        (refine hTake 10 61 (v := .int .i64 (pn : Int)) rfl rfl (by kernel_rfl) (by kernel_rfl) (by kernel_rfl) (fun _ _ _ h => h) (Or.inl ⟨by rfl, fun W _ => rfl⟩) hHeld ?_; simp only [List.set_cons_zero, List.set_cons_succ])
        (refine hTake 11 62 (v := .int .i64 (K : Int)) rfl rfl (by kernel_rfl) (by kernel_rfl) (by kernel_rfl) (fun _ _ _ h => h) (Or.inl ⟨by rfl, fun W h => by (have h1 := (Grw.below (S := fun _ => False) h).cell e0 (fun e => e); clear h; go_simp)⟩) hHeld ?_; simp only [List.set_cons_zero, List.set_cons_succ])
        (refine hTake 12 63 (v := .int .i64 (k : Int)) rfl rfl (by kernel_rfl) (by kernel_rfl) (by kernel_rfl) (fun _ _ _ h => h) (Or.inl ⟨by rfl, fun W _ => rfl⟩) hHeld ?_; simp only [List.set_cons_zero, List.set_cons_succ])
        (refine hTake 13 64 (v := .int .i64 ((K : Int) - (k : Int))) rfl rfl (by kernel_rfl) (by kernel_rfl) (by kernel_rfl) (fun _ _ _ h => h) (Or.inl ⟨by rfl, fun W h => by go_simp⟩) hHeld ?_; simp only [List.set_cons_zero, List.set_cons_succ])
        (refine hTake 14 65 (v := .int .i64 (pn1 : Int)) rfl rfl (by kernel_rfl) (by kernel_rfl) (by kernel_rfl) (fun _ _ _ h => h) (Or.inl ⟨by rfl, fun W h => by go_simp⟩) hHeld ?_; simp only [List.set_cons_zero, List.set_cons_succ])
        clear hHeld
        refine wpAnyH_ready (rs := [3, 6]) (by kernel_rfl) (by simp) ?_
        refine kCallE 3 54 64 rfl rfl (args := #[.slice A mn c]) (by rfl) (by go_simp) (R := fun u w' => Own w' (wr.drew).heap.size 42 u (i8s m) ∧ Below (wr.drew).heap.size (wr.drew) w') (CloneM_own m _ 0 _ hvd (by rw [HM.out]; omega)) (fun u w1 hR => ⟨hR.2, ?_⟩) ?_
        · obtain ⟨hO1, hb1⟩ := hR
          simp only [List.set_cons_zero, List.set_cons_succ]
          have hb2 := bl_new hb1 (.cells #[.int .i8 ((k : Int))] 42)
          refine wpAnyH_ready (rs := [6]) (by kernel_rfl) (by simp) ?_
          refine kVal 6 57 rfl rfl (by rfl) (v := .slice (some ⟨w1.heap.size, 0, none⟩) 1 1) (w' := w1.alloc (.cells #[.int .i8 ((k : Int))] 42)) (by go_simp) hb2 ?_ AllReadyH.nil
          simp only [List.set_cons_zero, List.set_cons_succ]
          have hBx : Blk (w1.alloc (.cells #[.int .i8 ((k : Int))] 42)) w1.heap.size [.int .i8 ((k : Int))] 42 := Blk.mk _ [_] _ rfl
          have hO1' := hO1.alloc (.cells #[.int .i8 ((k : Int))] 42)
          clear hO1 hb1
          generalize w1.alloc (.cells #[.int .i8 ((k : Int))] 42) = w2 at *
          generalize w1.heap.size = bx at *
          refine wpAnyH_ready (rs := [7]) (by kernel_rfl) (by simp) ?_
          refine kApp (w0 := wr.drew) 7 58 (wr.drew).heap.size rfl rfl (.tmp 54) (.tmp 57) 26 42 (.int .i8 0) 1 rfl (by rfl) Try.underlying26 info_i8 rfl (by omega) u (i8s m) [.int .i8 ((k : Int))] bx 0 1 1 rfl rfl rfl (by simp [Value.oneCell']) hO1' (by exact hBx.range) hb2 (hb2).size (by rw [hil]; omega) (fun v2 w4 hO2 hb4 => ⟨hb4, ?_⟩) AllReadyH.nil
          simp only [List.set_cons_zero, List.set_cons_succ]
          rw [show i8s m ++ [Value.int .i8 ((k : Int))] = i8s (m ++ [(k : Int)]) from i8s_snoc _ _] at hO2
          refine wpAnyH_ready (rs := [15]) (by kernel_rfl) (by simp) ?_
          refine kCall 15 66 62 rfl rfl (args := #[v2, .int .i64 ((k : Int) + 1), .int .i64 ((pn1 : Int)), .pointer (some ⟨L + 1, 0, none⟩), .pointer (some ⟨L + 2, 0, none⟩), .pointer (some ⟨L + 3, 0, none⟩), .pointer (some ⟨L + 4, 0, none⟩), .pointer (some ⟨L, 0, none⟩)]) (by rfl) (by go_simp) (.int .i64 (pv : Int)) (hi L w4 v2 (hjd.kept hb4) (hO2.lower (Nat.zero_le _))) (fun w5 hb5' => ⟨bl_call hb4 hb5', ?_⟩) AllReadyH.nil
          have hb5 := bl_call hb4 hb5'
          clear hO2 hb4 hb5'
          simp only [List.set_cons_zero, List.set_cons_succ]
          refine wpAnyH_ready (rs := [16]) (by kernel_rfl) (by simp) ?_
          refine kVal 16 67 rfl rfl (by rfl) (v := .int .i64 ((pk : Int) + (pv : Int))) (by go_simp) hb5 ?_ AllReadyH.nil
          simp only [List.set_cons_zero, List.set_cons_succ]
          refine wpAnyH_ready (rs := [17]) (by kernel_rfl) (by simp) ?_
          refine kVal 17 14 rfl rfl (by rfl) (v := .int .i64 ((pk : Int) + (pv : Int))) (by rfl) hb5 ?_ AllReadyH.nil
          simp only [List.set_cons_zero, List.set_cons_succ]
          refine wpAnyH_done (by kernel_rfl) ?_ _
          have hb6 : Below wq.heap.size wq w5 := (hb.trans ((show Below wr.heap.size wr wr.drew from (Below.refl _ wr).drew).mono hb.size)).trans (hb5.mono (by exact hb.size))
          go_wp2_with (fail)
          go_ret
          exact ⟨ret_n (by rw [← hfin.out, Int.natCast_add]), hbq.trans (hb6.mono hbq.size)⟩
        · have hb1 := bl_new (Below.refl (wr.drew).heap.size (wr.drew)) (.cells #[.int .i8 ((k : Int))] 42)
          refine kVal 6 57 rfl rfl (by rfl) (v := .slice (some ⟨(wr.drew).heap.size, 0, none⟩) 1 1) (w' := (wr.drew).alloc (.cells #[.int .i8 ((k : Int))] 42)) (by go_simp) hb1 ?_ AllReadyH.nil
          simp only [List.set_cons_zero, List.set_cons_succ]
          have hBx : Blk ((wr.drew).alloc (.cells #[.int .i8 ((k : Int))] 42)) (wr.drew).heap.size [.int .i8 ((k : Int))] 42 := Blk.mk _ [_] _ rfl
          have hvb := hvd.kept hb1
          generalize (wr.drew).alloc (.cells #[.int .i8 ((k : Int))] 42) = w1 at *
          generalize hbx : (wr.drew).heap.size = bx at hBx ⊢
          refine wpAnyH_ready (rs := [3]) (by kernel_rfl) (by simp) ?_
          refine kCallE 3 54 64 rfl rfl (args := #[.slice A mn c]) (by rfl) (by go_simp) (R := fun u w' => Own w' w1.heap.size 42 u (i8s m) ∧ Below w1.heap.size w1 w') (CloneM_own m _ 0 _ hvb (by rw [HM.out]; omega)) (fun u w2 hR => ⟨?_, ?_⟩) AllReadyH.nil
          · subst hbx; exact bl_call hb1 hR.2
          obtain ⟨hO1, hb2'⟩ := hR
          simp only [List.set_cons_zero, List.set_cons_succ]
          have hb2 := bl_call hb1 hb2'
          have hBx2 := hBx.kept hb2'
          have hO1' := hO1.lower hb1.size
          clear hO1 hb2' hBx hvb hb1
          subst hbx
          refine wpAnyH_ready (rs := [7]) (by kernel_rfl) (by simp) ?_
          refine kApp (w0 := wr.drew) 7 58 (wr.drew).heap.size rfl rfl (.tmp 54) (.tmp 57) 26 42 (.int .i8 0) 1 rfl (by rfl) Try.underlying26 info_i8 rfl (by omega) u (i8s m) [.int .i8 ((k : Int))] (wr.drew).heap.size 0 1 1 rfl rfl rfl (by simp [Value.oneCell']) hO1' (by exact hBx2.range) hb2 (hb2).size (by rw [hil]; omega) (fun v2 w4 hO2 hb4 => ⟨hb4, ?_⟩) AllReadyH.nil
          simp only [List.set_cons_zero, List.set_cons_succ]
          rw [show i8s m ++ [Value.int .i8 ((k : Int))] = i8s (m ++ [(k : Int)]) from i8s_snoc _ _] at hO2
          refine wpAnyH_ready (rs := [15]) (by kernel_rfl) (by simp) ?_
          refine kCall 15 66 62 rfl rfl (args := #[v2, .int .i64 ((k : Int) + 1), .int .i64 ((pn1 : Int)), .pointer (some ⟨L + 1, 0, none⟩), .pointer (some ⟨L + 2, 0, none⟩), .pointer (some ⟨L + 3, 0, none⟩), .pointer (some ⟨L + 4, 0, none⟩), .pointer (some ⟨L, 0, none⟩)]) (by rfl) (by go_simp) (.int .i64 (pv : Int)) (hi L w4 v2 (hjd.kept hb4) (hO2.lower (Nat.zero_le _))) (fun w5 hb5' => ⟨bl_call hb4 hb5', ?_⟩) AllReadyH.nil
          have hb5 := bl_call hb4 hb5'
          clear hO2 hb4 hb5'
          simp only [List.set_cons_zero, List.set_cons_succ]
          refine wpAnyH_ready (rs := [16]) (by kernel_rfl) (by simp) ?_
          refine kVal 16 67 rfl rfl (by rfl) (v := .int .i64 ((pk : Int) + (pv : Int))) (by go_simp) hb5 ?_ AllReadyH.nil
          simp only [List.set_cons_zero, List.set_cons_succ]
          refine wpAnyH_ready (rs := [17]) (by kernel_rfl) (by simp) ?_
          refine kVal 17 14 rfl rfl (by rfl) (v := .int .i64 ((pk : Int) + (pv : Int))) (by rfl) hb5 ?_ AllReadyH.nil
          simp only [List.set_cons_zero, List.set_cons_succ]
          refine wpAnyH_done (by kernel_rfl) ?_ _
          have hb6 : Below wq.heap.size wq w5 := (hb.trans ((show Below wr.heap.size wr wr.drew from (Below.refl _ wr).drew).mono hb.size)).trans (hb5.mono (by exact hb.size))
          go_wp2_with (fail)
          go_ret
          exact ⟨ret_n (by rw [← hfin.out, Int.natCast_add]), hbq.trans (hb6.mono hbq.size)⟩
      · have h2 : ¬ ((k : Int) < (K : Int)) := by omega
        have hee := As.mk (show endK K k = k by unfold endK; rw [if_neg hkK])
        have hfin := As.mk (show patK K sets subs d m k k = res by rw [hP.out, hee.out])
        have k5 := hjr.k
        clear hkK
        go_wp2_with (fail)
        go_ret
        exact ⟨ret_n (by rw [hfin.out]), hbq.trans (hb.mono hbq.size)⟩

theorem cntOk (K len sets subs : Nat) (hK : K ≤ 40) (hlen : 1 ≤ len ∧ len ≤ 6) (hsets : sets ≤ 8) (hsubs : subs ≤ 4) : ∀ d, CntOk K len sets subs d
  | 0 => cnt_leaf K len sets subs hlen hsets hsubs
  | d + 1 => cnt_step K len sets subs d hK hlen (cntOk K len sets subs hK hlen hsets hsubs d)

set_option maxRecDepth 100000 in
set_option maxHeartbeats 2000000 in
theorem CountMeanings_any (K len sets subs : Int) (w : World) :
    Calls Try.prog 28 #[.int .i64 K, .int .i64 len, .int .i64 sets, .int .i64 subs] w fun e w' => e = .returned (.tuple #[.int .i64 (cntN K len sets subs), .int .i64 (cntC K len sets subs)]) ∧ Below w.heap.size w w' := by
  have hC := As.mk (show cntC K len sets subs = if inR K 1 40 && inR len 1 6 && inR sets 1 8 && inR subs 0 4 then 0 else 2 from rfl)
  have hN := As.mk (show cntN K len sets subs = if cntC K len sets subs = 0 then (pat K.toNat sets.toNat subs.toNat len.toNat [] 0 : Int) else 0 from rfl)
  have hbad : ∀ c : Int, (inR K 1 40 && inR len 1 6 && inR sets 1 8 && inR subs 0 4) = false → cntN K len sets subs = 0 ∧ cntC K len sets subs = 2 := fun c h => by
    have h2 : cntC K len sets subs = 2 := by rw [hC.out, h]; rfl
    exact ⟨by rw [hN.out, h2]; rfl, h2⟩
  have bb := bl_new (bl_new (bl_new (bl_new (Below.refl _ w) (.cells #[.int .i64 K] 2)) (.cells #[.int .i64 len] 2)) (.cells #[.int .i64 sets] 2)) (.cells #[.int .i64 subs] 2)
  cases h1 : inR K 1 40
  · have hb := As.mk (hbad 0 (by rw [h1]; rfl))
    clear hbad
    go_enter Try.func28, Try.ntmps28
    go_wp2_with (go_at_call 61; refine (within_any _ _ _ _).mono ?_; rintro e w' ⟨rfl, rfl⟩)
    go_ret2
    exact ⟨ret_2 hb.out.1.symm hb.out.2.symm, bb⟩
  · cases h2 : inR len 1 6
    · have hb := As.mk (hbad 0 (by rw [h1, h2]; rfl))
      clear hbad
      go_enter Try.func28, Try.ntmps28
      go_wp2_with (go_at_call 61; refine (within_any _ _ _ _).mono ?_; rintro e w' ⟨rfl, rfl⟩)
      go_ret2
      exact ⟨ret_2 hb.out.1.symm hb.out.2.symm, bb⟩
    · cases h3 : inR sets 1 8
      · have hb := As.mk (hbad 0 (by rw [h1, h2, h3]; rfl))
        clear hbad
        go_enter Try.func28, Try.ntmps28
        go_wp2_with (go_at_call 61; refine (within_any _ _ _ _).mono ?_; rintro e w' ⟨rfl, rfl⟩)
        go_ret2
        exact ⟨ret_2 hb.out.1.symm hb.out.2.symm, bb⟩
      · cases h4 : inR subs 0 4
        · have hb := As.mk (hbad 0 (by rw [h1, h2, h3, h4]; rfl))
          clear hbad
          go_enter Try.func28, Try.ntmps28
          go_wp2_with (go_at_call 61; refine (within_any _ _ _ _).mono ?_; rintro e w' ⟨rfl, rfl⟩)
          go_ret2
          exact ⟨ret_2 hb.out.1.symm hb.out.2.symm, bb⟩
        · have hc0 : cntC K len sets subs = 0 := by rw [hC.out, h1, h2, h3, h4]; rfl
          obtain ⟨⟨e1, e2, e3, e4⟩, l1, l2, l3, l4⟩ := cnt_nat hc0
          have hn := hN.out
          rw [if_pos hc0] at hn
          obtain ⟨slf, hslf⟩ : ∃ slf : Value, slf = .func (.func 62) #[] #[.pointer (some ⟨w.heap.size + 1, 0, none⟩), .pointer (some ⟨w.heap.size + 2, 0, none⟩), .pointer (some ⟨w.heap.size + 3, 0, none⟩), .pointer (some ⟨w.heap.size + 4, 0, none⟩), .pointer (some ⟨w.heap.size, 0, none⟩)] := ⟨_, rfl⟩
          have hj : Cj K.toNat len.toNat sets.toNat subs.toNat w.heap.size (((((w.alloc (.cells #[.int .i64 K] 2)).alloc (.cells #[.int .i64 len] 2)).alloc (.cells #[.int .i64 sets] 2)).alloc (.cells #[.int .i64 subs] 2)).alloc (.cells #[slf] 66)) := by
            have B0 : Blk (((((w.alloc (.cells #[.int .i64 K] 2)).alloc (.cells #[.int .i64 len] 2)).alloc (.cells #[.int .i64 sets] 2)).alloc (.cells #[.int .i64 subs] 2)).alloc (.cells #[slf] 66)) w.heap.size [.int .i64 K] 2 := ((((Blk.mk _ [_] _ rfl).alloc _).alloc _).alloc _).alloc _
            have B1 : Blk (((((w.alloc (.cells #[.int .i64 K] 2)).alloc (.cells #[.int .i64 len] 2)).alloc (.cells #[.int .i64 sets] 2)).alloc (.cells #[.int .i64 subs] 2)).alloc (.cells #[slf] 66)) (w.heap.size + 1) [.int .i64 len] 2 := (((Blk.mk _ [_] _ (by simp)).alloc _).alloc _).alloc _
            have B2 : Blk (((((w.alloc (.cells #[.int .i64 K] 2)).alloc (.cells #[.int .i64 len] 2)).alloc (.cells #[.int .i64 sets] 2)).alloc (.cells #[.int .i64 subs] 2)).alloc (.cells #[slf] 66)) (w.heap.size + 2) [.int .i64 sets] 2 := ((Blk.mk _ [_] _ (by simp)).alloc _).alloc _
            have B3 : Blk (((((w.alloc (.cells #[.int .i64 K] 2)).alloc (.cells #[.int .i64 len] 2)).alloc (.cells #[.int .i64 sets] 2)).alloc (.cells #[.int .i64 subs] 2)).alloc (.cells #[slf] 66)) (w.heap.size + 3) [.int .i64 subs] 2 := (Blk.mk _ [_] _ (by simp)).alloc _
            have B4 : Blk (((((w.alloc (.cells #[.int .i64 K] 2)).alloc (.cells #[.int .i64 len] 2)).alloc (.cells #[.int .i64 sets] 2)).alloc (.cells #[.int .i64 subs] 2)).alloc (.cells #[slf] 66)) (w.heap.size + 4) [slf] 66 := Blk.mk _ [_] _ (by simp)
            refine ⟨?_, ?_, ?_, ?_, ?_⟩
            · rw [← e1]; have := B0.at 0; simpa using this
            · rw [← e2]; have := B1.at 0; simpa using this
            · rw [← e3]; have := B2.at 0; simpa using this
            · rw [← e4]; have := B3.at 0; simpa using this
            · rw [← hslf]; have := B4.at 0; simpa using this
          have key := cntOk K.toNat len.toNat sets.toNat subs.toNat l1.2 l2 l3 l4 len.toNat [] 0 (by simp) (by simp) (by omega) (by simp) w.heap.size _ (.slice none 0 0) hj (Own.nil _ _ _)
          rw [← hn, show prodK K.toNat 0 = 1 from rfl] at key
          rw [show ((0 : Nat) : Int) = 0 from rfl, show ((1 : Nat) : Int) = 1 from rfl] at key
          rw [hc0]
          have hb0 := bl_new bb (.cells #[slf] 66)
          clear hbad e1 e2 e3 e4 l1 l2 l3 l4 hn hc0 hj bb
          subst hslf
          go_enter Try.func28, Try.ntmps28
          go_wp2_with (first | (go_at_call 61; refine (within_any _ _ _ _).mono ?_; rintro e w' ⟨rfl, rfl⟩) | (refine key.mono ?_; rintro e w1 ⟨rfl, hb⟩))
          go_ret2
          exact ⟨rfl, bl_call hb0 hb⟩
end Go.Proofs.Ytnokdbnlagoidaa
