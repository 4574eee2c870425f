/- Contract: spec.l02Look: the search (spec), all of it. -/
import Derived.Test.YtnokdbnlagoidaaLk
import Derived.BigQuiet
set_option linter.unusedVariables false
namespace Go.Proofs.Ytnokdbnlagoidaa
open Go.RowKit

/-- The search keeps its contract where d numbers are still to come. -/
def LookOk (m : List Int) (A : Option Addr) (cm sets subs B d : Nat) : Prop := ∀ (h : List Int) (g : Nat) (T : List (List Int)), h.length + d = m.length → g ≤ h.length → Way sets subs h → T.length + (look m sets subs d h g).length ≤ 1000000 →
  ∀ (w : World) (v : Value), St w B A cm m sets subs T → Hsl w B v h →
    Calls Try.prog 87 #[.pointer (some ⟨B, 0, none⟩), v, .int .i64 g] w fun e w' => e = .returned (.tuple #[]) ∧ St w' B A cm m sets subs (T ++ look m sets subs d h g) ∧ w.grownBy w' (some B)

theorem lookOk_zero (m : List Int) (A : Option Addr) (cm sets subs B : Nat) (h8 : m.length ≤ 8) : LookOk m A cm sets subs B 0 := fun h g T hd hg hway hT w v hs hh =>
  look_end m A cm sets subs B h (by omega) h8 g T (by omega) w v hs hh

set_option maxRecDepth 100000 in
set_option maxHeartbeats 2000000 in
theorem look_brk_step (m : List Int) (A : Option Addr) (cm sets subs B d : Nat) (h8 : m.length ≤ 8) (ih : LookOk m A cm sets subs B d) (h : List Int) (g : Nat) (T : List (List Int)) (hd : h.length + (d + 1) = m.length) (hway : Way sets subs h) (hT : T.length + (look m sets subs (d + 1) h g).length ≤ 1000000)
    (hx : nth m h.length = -10) (w : World) (v : Value) (hs : St w B A cm m sets subs T) (hh : Hsl w B v h) :
    Calls Try.prog 87 #[.pointer (some ⟨B, 0, none⟩), v, .int .i64 g] w fun e w' => e = .returned (.tuple #[]) ∧ St w' B A cm m sets subs (T ++ look m sets subs (d + 1) h g) ∧ w.grownBy w' (some B) := by
  rw [look_brk hx] at hT ⊢
  have hs0 := hs
  obtain ⟨hm, fv, hB, hf⟩ := hs
  obtain ⟨k0, k1, k2, k3, k4⟩ := St.cell hB
  obtain ⟨gb, c, rfl, hgB, hr⟩ := hh
  obtain ⟨b, o, hA, hbB, hrm⟩ := hm.2 (by omega)
  have c0 := hrm h.length _ (i8s_get m h.length (by omega))
  rw [hx] at c0
  rw [hA] at k0
  have hlt := hB.lt
  have hlen := i8s_length h
  have hlm : h.length < m.length := by omega
  have hl2 : (h ++ [(-10 : Int)]).length = h.length + 1 := by simp
  have key := fun W V => ih (h ++ [-10]) (h.length + 1) T (by omega) (by omega) hway.brk hT W V
  have hm8 : (m.length : Int) ≤ 8 := by omega
  have hne : ((h.length : Int) == (m.length : Int)) = false := by rw [beq_eq_false_iff_ne]; omega
  rw [show ((h.length + 1 : Nat) : Int) = (h.length : Int) + 1 from rfl] at key
  have HX := As.mk hx
  have HD := As.mk hd
  have hlm' : (h.length : Int) < (m.length : Int) := by omega
  have hO := Own.lit w w.heap.size 42 [] (Nat.le_refl _) (by simp)
  have hb' := bl_new (Below.refl _ w) (.cells #[] 42)
  have hr' : (w.alloc (.cells #[] 42)).rangeAt gb 0 (i8s h) := range_below hr hb'
  generalize hn : h.length = n at *
  clear hx hd hrm hm hf
  go_enter Try.func87, Try.ntmps87
  go_wp2_with (at_builtin; refine appN (w0 := w) (w.heap.size) rfl (.tmp 46) (.tmp 47) 23 42 (.int .i8 0) 1 rfl Try.underlying23 info_i8 rfl (by omega) (.slice (some ⟨w.heap.size, 0, none⟩) 0 0) ([]) (i8s h) gb 0 c n rfl rfl hlen (i8s_one _) hO hr' hb' hb'.size (by simp; omega) ?_)
  intro v1 w1 hO1 hb1 _ _
  have hO1 : Own w1 w.heap.size 42 v1 (i8s h) := hO1
  go_wp2_with (at_builtin; refine app1 (w0 := w) (w.heap.size) rfl (.tmp 48) (.tmp 49) 23 42 (.int .i8 0) 1 rfl Try.underlying23 info_i8 rfl (by omega) (v1) (i8s h) (.int .i8 (-10)) rfl rfl rfl hO1 hb1 hb1.size (by rw [hlen]; omega) ?_)
  intro v2 w2 hO2 hb2 _ _
  rw [i8s_snoc] at hO2
  have S2 := hs0.kept hb2
  have H2 := Hsl.of_own hO2 hlt (by rw [hl2]; omega)
  go_wp2_with (fail)
  refine (key _ _ S2 H2).mono ?_; rintro e w3 ⟨rfl, S3, g3⟩
  go_wp2_with (fail)
  exact bodyPost_ret (results_none' rfl _ _ _) rfl ⟨rfl, S3, (grown_of_below hb2).trans g3⟩

section
variable {w w' : World} {B : Nat} {A : Option Addr} {cm : Nat} {m h : List Int} {sets subs : Nat} {T : List (List Int)} {v fv : Value}
theorem grownBy_drewN {row : Option Nat} (hg : w.grownBy w' row) (n : Nat) : w.grownBy (w'.drewN n) row := ⟨hg.os, hg.tape, hg.output, hg.size, hg.block⟩
theorem St.drewN (hs : St w B A cm m sets subs T) (n : Nat) : St (w.drewN n) B A cm m sets subs T := hs
end
/-- One more number is flown, and the search goes on where there is enough. -/
def nextL (m : List Int) (sets subs d : Nat) (h : List Int) (g : Nat) (x : Int) : List (List Int) := if enough sets h x then look m sets subs d (h ++ [x]) g else []

theorem isNum_mono {subs : Nat} (hs : subs ≤ 4) {x : Int} (h : isNum subs x) : isNum 4 x := by unfold isNum at *; omega
theorem Way.nums4 {sets subs : Nat} (hs : subs ≤ 4) {h : List Int} (hw : Way sets subs h) {x : Int} (hx : isNum subs x) : ∀ z ∈ h ++ [x], isNum 4 z := fun z hz => by
  rcases List.mem_append.1 hz with hz | hz
  · exact isNum_mono hs (hw.nums z hz)
  · simp at hz; subst hz; exact isNum_mono hs hx
theorem Sl.of_range {k : IntKind} {w : World} {b o : Nat} {xs : List Int} (h : w.rangeAt b o (xs.map (Value.int k))) (hl : xs.length ≤ 9223372036854775807) : Sl k w (some ⟨b, o, none⟩) xs := ⟨hl, fun _ => ⟨b, o, rfl, h⟩⟩
section
variable {w W W' : World} {B : Nat} {A : Option Addr} {cm : Nat} {m h : List Int} {sets subs : Nat} {T : List (List Int)} {g2 : Nat}
def Kp (w : World) (B : Nat) (A : Option Addr) (cm : Nat) (m : List Int) (sets subs : Nat) (T : List (List Int)) (g2 : Nat) (h : List Int) (W : World) : Prop :=
  St W B A cm m sets subs T ∧ W.rangeAt g2 0 (i8s h) ∧ w.grownBy W (some B)
theorem Kp.kept (hk : Kp w B A cm m sets subs T g2 h W) (hb : Below W.heap.size W W') : Kp w B A cm m sets subs T g2 h W' := ⟨hk.1.kept hb, range_kept hk.2.1 hb, hk.2.2.trans (grown_of_below hb)⟩
theorem Kp.setsAt (hk : Kp w B A cm m sets subs T g2 h W) : W.cell? ⟨B, 1, none⟩ = some (.int .i64 sets) := by
  obtain ⟨⟨_, fv, hB, _⟩, _⟩ := hk
  exact (St.cell hB).2.1
end

set_option maxRecDepth 100000 in
set_option maxHeartbeats 2000000 in
theorem look_num_step (m : List Int) (hmk : ∀ k, k < m.length → nth m k = -10 ∨ (0 ≤ nth m k ∧ nth m k ≤ 39)) (A : Option Addr) (cm sets subs B d : Nat) (h8 : m.length ≤ 8) (hsubs : subs ≤ 4) (hsets : sets ≤ 8) (ih : LookOk m A cm sets subs B d) (h : List Int) (g : Nat) (T : List (List Int)) (hd : h.length + (d + 1) = m.length) (hg : g ≤ h.length) (hway : Way sets subs h) (hT : T.length + (look m sets subs (d + 1) h g).length ≤ 1000000)
    (hx : nth m h.length ≠ -10) (w : World) (v : Value) (hs : St w B A cm m sets subs T) (hh : Hsl w B v h) :
    Calls Try.prog 87 #[.pointer (some ⟨B, 0, none⟩), v, .int .i64 g] w fun e w' => e = .returned (.tuple #[]) ∧ St w' B A cm m sets subs (T ++ look m sets subs (d + 1) h g) ∧ w.grownBy w' (some B) := by
  have hlk : look m sets subs (d + 1) h g = restOf m sets subs d h g (subs + 1) := look_kind hx
  rw [hlk] at hT ⊢
  have hxk := hmk h.length (by omega)
  have hs0 := hs
  obtain ⟨hm, fv, hB, hf⟩ := hs
  obtain ⟨k0, k1, k2, k3, k4⟩ := St.cell hB
  obtain ⟨gb, c, rfl, hgB, hr⟩ := hh
  obtain ⟨b, o, rfl, hbB, hrm⟩ := hm.2 (by omega)
  have hlen := i8s_length h
  have hlm : h.length < m.length := by omega
  have hm8 : (m.length : Int) ≤ 8 := by omega
  have hne : ((h.length : Int) == (m.length : Int)) = false := by rw [beq_eq_false_iff_ne]; omega
  have hlm' : (h.length : Int) < (m.length : Int) := by omega
  have hxe : (nth m h.length == -10) = false := by rw [beq_eq_false_iff_ne]; exact hx
  have hx0 : 0 ≤ nth m h.length := by omega
  have hx1 : nth m h.length ≤ 39 := by omega
  have hsub8 : (subs : Int) ≤ 4 := by omega
  have c0 := hrm h.length _ (i8s_get m h.length (by omega))
  have HW := As.mk hway
  have HD := As.mk hd
  have HT := As.mk hT
  have HG := As.mk hg
  have HK := As.mk hxk
  have HX := As.mk hx
  have HL := As.mk hlen
  clear hway hd hT hg hxk hx hlen
  generalize hn : h.length = n at *
  generalize hN : m.length = N at *
  have HN := As.mk hn
  have HM := As.mk hN
  clear hn hN
  go_enter Try.func87, Try.ntmps87
  go_wp2_with (fail)
  clear k0 k1 k2 k3 k4 c0 hB hf
  go_loopw [7] (fun nv wr => ∃ (q : Nat) (T1 : List (List Int)), q ≤ subs + 1 ∧ nv = .int .i64 ((q : Int) - 1) ∧ St wr B (some ⟨b, o, none⟩) cm m sets subs T1 ∧ w.grownBy wr (some B) ∧ As (T1 ++ restOf m sets subs d h g q = T ++ restOf m sets subs d h g (subs + 1))) (fun nv _ => (intOf nv + 1).toNat)
  case atStart => exact ⟨subs + 1, T, by omega, by congr 1; omega, hs0, World.grownBy.refl _ _, ⟨rfl⟩⟩
  case round =>
    obtain ⟨q, T1, hq, rfl, hS1, hg1, hT1⟩ := hrel
    have hS1' := As.mk hS1
    obtain ⟨hm1, fv1, hB1, hf1⟩ := hS1
    obtain ⟨k0, k1, k2, k3, k4⟩ := St.cell hB1
    rw [HM.out] at k0
    have hr1 := range_grown hr hg1 (by omega)
    have hrm1 := range_grown hrm hg1 (by omega)
    have c0 := hrm1 n _ (i8s_get m n (by rw [HM.out]; omega))
    cases q with
    | zero =>
      rw [show ((0 : Nat) : Int) - 1 = -1 from rfl]
      go_wp2_with (fail)
      refine bodyPost_end (results_none' rfl _ _ _) rfl ⟨rfl, ?_, hg1⟩
      have := hT1.out
      rw [show restOf m sets subs d h g 0 = [] from rfl, List.append_nil] at this
      rw [← this]
      exact hS1'.out
    | succ q =>
      rw [show ((q + 1 : Nat) : Int) - 1 = (q : Int) by omega]
      cases q with
      | zero =>
        rw [show ((0 : Nat) : Int) = 0 from rfl]
        have hnum := As.mk (show isNum subs (nth m n) from by have := HK.out; have := HX.out; unfold isNum; omega)
        have hway' := HW
        have hen0 := As.mk (enough_iff hsubs HW.out hnum.out HX.out)
        have hO := Own.lit (wr) (wr).heap.size 42 [] (Nat.le_refl _) (by simp)
        have hb' := bl_new (Below.refl _ (wr)) (.cells #[] 42)
        have hr' : ((wr).alloc (.cells #[] 42)).rangeAt gb 0 (i8s h) := range_below hr1 hb'
        have hl2 : (h ++ [nth m n]).length = n + 1 := by simp [HN.out]
        have hst := As.mk (show restOf m sets subs d h g (0 + 1) = nextL m sets subs d h g (nth m n) ++ restOf m sets subs d h g 0 from by rw [show (0 + 1 : Nat) = 1 from rfl, rest_zero, HN.out, show restOf m sets subs d h g 0 = [] from rfl, List.append_nil]; rfl)
        go_wp2_with (at_builtin; refine appN (w0 := (wr)) ((wr).heap.size) rfl (.tmp 100) (.tmp 101) 23 42 (.int .i8 0) 1 rfl Try.underlying23 info_i8 rfl (by omega) (.slice (some ⟨(wr).heap.size, 0, none⟩) 0 0) ([]) (i8s h) gb 0 c n rfl rfl HL.out (i8s_one _) hO hr' hb' hb'.size (by simp; omega) ?_)
        intro v1 w1 hO1 hb1 _ _
        have hO1 : Own w1 (wr).heap.size 42 v1 (i8s h) := hO1
        go_wp2_with (at_builtin; refine app1 (w0 := (wr)) ((wr).heap.size) rfl (.tmp 102) (.tmp 104) 23 42 (.int .i8 0) 1 rfl Try.underlying23 info_i8 rfl (by omega) (v1) (i8s h) (.int .i8 (nth m n)) rfl rfl rfl hO1 hb1 hb1.size (by rw [HL.out]; omega) ?_)
        intro v2 w2 hO2 hb2 _ _
        rw [i8s_snoc] at hO2
        have hr2 := Hsl.of_own hO2 hB1.lt (by rw [hl2]; omega)
        have S2 : St w2 B (some ⟨b, o, none⟩) cm m sets subs T1 := (hS1'.out).kept hb2
        have hgr2 : w.grownBy w2 (some B) := (hg1).trans (grown_of_below hb2)
        obtain ⟨g2, c2, rfl, hg2, hr2⟩ := hr2
        have hs15 : Kp w B (some ⟨b, o, none⟩) cm m sets subs T1 g2 (h ++ [nth m n]) w2.drew := ⟨S2, hr2, grownBy_drewN hgr2 1⟩
        have hen := hen0.out
        have kS := As.mk (fun W (hK : Kp w B (some ⟨b, o, none⟩) cm m sets subs T1 g2 (h ++ [nth m n]) W) => l02Sets_any (h ++ [nth m n]) (Way.nums4 hsubs hway'.out hnum.out) (some ⟨g2, 0, none⟩) c2 W (Sl.of_range hK.2.1 (by rw [hl2]; omega)) (by rw [hl2]; omega))
        obtain ⟨mm, hmm⟩ : ∃ mm, most (h ++ [nth m n]) nums44 = mm := ⟨_, rfl⟩
        rw [hmm] at hen
        have kS := kS.out
        rw [hmm, hl2] at kS
        have hen := As.mk hen
        clear hO hb' hr' hO1 hb1 hO2 hb2 hB1 k0 k1 k2 k3 k4 c0 hr1 hrm1 hm1 hf1 hr2 S2 hgr2 hmm
        rw [hl2]
        go_wp2_with (fail)

        refine wp_region_held_drew (S := (Kp w B (some ⟨b, o, none⟩) cm m sets subs T1 g2 (h ++ [nth m n]))) (by kernel_rfl) hs15 (fun hHeld => ?_)
        (refine hTake 0 106 (v := .slice (some ⟨g2, 0, none⟩) (n + 1) c2) rfl rfl (by kernel_rfl) (by kernel_rfl) (by kernel_rfl) (fun _ _ _ h => h) (Or.inl ⟨by rfl, fun W _ => rfl⟩) hHeld ?_; simp only [List.set_cons_zero, List.set_cons_succ])
        (refine hTake 2 108 (v := .pointer (some ⟨B, 0, none⟩)) rfl rfl (by kernel_rfl) (by kernel_rfl) (by kernel_rfl) (fun _ _ _ h => h) (Or.inl ⟨by rfl, fun W _ => rfl⟩) hHeld ?_; simp only [List.set_cons_zero, List.set_cons_succ])
        (refine hTake 3 109 (v := .pointer (some ⟨B, 0, none⟩)) rfl rfl (by kernel_rfl) (by kernel_rfl) (by kernel_rfl) (fun _ _ _ h => h) (Or.inl ⟨by rfl, fun W h => by go_simp⟩) hHeld ?_; simp only [List.set_cons_zero, List.set_cons_succ])
        (refine hTake 4 110 (v := .pointer (some ⟨B, 1, none⟩)) rfl rfl (by kernel_rfl) (by kernel_rfl) (by kernel_rfl) (fun _ _ _ h => h) (Or.inl ⟨by rfl, fun W _ => by go_simp⟩) hHeld ?_; simp only [List.set_cons_zero, List.set_cons_succ])
        (refine hTake 5 111 (v := .int .i64 sets) rfl rfl (by kernel_rfl) (by kernel_rfl) (by kernel_rfl) (fun _ _ _ h => h) (Or.inl ⟨by rfl, fun W h => by (have h1 := Kp.setsAt h; clear h; go_simp)⟩) hHeld ?_; simp only [List.set_cons_zero, List.set_cons_succ])
        refine hCall 1 107 103 rfl rfl (by kernel_rfl) (args := #[.slice (some ⟨g2, 0, none⟩) (n + 1) c2]) (by rfl) (by go_simp) (.int .i64 mm) (kS _ hHeld) (fun wq hq => ⟨Kp.kept hHeld hq, ?_⟩)
        simp only [List.set_cons_zero, List.set_cons_succ]
        replace hHeld := Kp.kept hHeld hq
        clear hq hs15 kS
        (refine hTake 6 112 (v := .bool (decide (mm ≤ (sets : Int)))) rfl rfl (by kernel_rfl) (by kernel_rfl) (by kernel_rfl) (fun _ _ _ h => h) (Or.inl ⟨by rfl, fun W h => by go_simp⟩) hHeld ?_; simp only [List.set_cons_zero, List.set_cons_succ])
        refine wpAnyH_done (by kernel_rfl) ?_ _
        by_cases hmd : mm ≤ (sets : Int)
        · have he : enough sets h (nth m n) = true := by rw [hen.out, decide_eq_true hmd]
          have hnx := As.mk (show nextL m sets subs d h g (nth m n) = look m sets subs d (h ++ [nth m n]) g by unfold nextL; rw [he]; rfl)
          have hbd : T1.length + (look m sets subs d (h ++ [nth m n]) g).length ≤ 1000000 := by
            have h1 := congrArg List.length hT1.out
            rw [hst.out, hnx.out] at h1
            simp only [List.length_append] at h1
            have := HT.out
            omega
          have ihc := ih (h ++ [nth m n]) g T1 (by rw [hl2]; have := HD.out; have := HM.out; omega) (by rw [hl2]; have := HG.out; omega) (hway'.out.num hnum.out he) hbd wq _ hHeld.1 ⟨g2, c2, rfl, hg2, hHeld.2.1⟩
          rw [hl2] at ihc
          have hK := hHeld.2.2
          clear hHeld he hbd
          go_wp2_with (fail)
          refine ihc.mono ?_; rintro e w4 ⟨rfl, S4, g4⟩
          go_wp2_with (fail)
          go_roundw
          case rel => exact ⟨0, T1 ++ look m sets subs d (h ++ [nth m n]) g, by omega, by go_num, S4, hK.trans g4, ⟨by rw [List.append_assoc, ← hnx.out, ← hst.out]; exact hT1.out⟩⟩
          case measure => first | (simp [intOf]; done) | (simp [intOf]; omega)
        · have he : enough sets h (nth m n) = false := by rw [hen.out, decide_eq_false hmd]
          have hnx := As.mk (show nextL m sets subs d h g (nth m n) = [] by unfold nextL; rw [he]; rfl)
          have hS := hHeld.1
          have hK := hHeld.2.2
          clear hHeld he
          go_wp2_with (fail)
          go_roundw
          case rel => exact ⟨0, T1, by omega, by go_num, hS, hK, ⟨by rw [← hT1.out, hst.out, hnx.out]; rfl⟩⟩
          case measure => first | (simp [intOf]; done) | (simp [intOf]; omega)
      | succ p =>
        have hnum := As.mk (show isNum subs (-((p + 1 : Nat) : Int)) from by unfold isNum; omega)
        have hnb := As.mk (show (-((p + 1 : Nat) : Int)) ≠ -10 from by omega)
        have hway' := HW
        have hen0 := As.mk (enough_iff hsubs HW.out hnum.out hnb.out)
        have hp1 : (p : Int) + 1 ≤ 4 := by omega
        have hp0 : (((p + 1 : Nat) : Int) == 0) = false := by rw [beq_eq_false_iff_ne]; omega
        have hg' := HG.out
        have hd' := HD.out
        by_cases ha : g + p < n
        · have ha1 : (decide ((n : Int) ≤ (g : Int) + ((p : Int) + 1) - 1)) = false := by rw [decide_eq_false_iff_not]; omega
          have hgp : (((g : Int) + ((p : Int) + 1)) - 1).toNat = g + p := by omega
          have c3 : wr.cell? ⟨b, o + (g + p), none⟩ = some (.int .i8 (nth m (g + p))) := hrm1 (g + p) _ (i8s_get m (g + p) (by rw [HM.out]; omega))
          have hg8 : (g : Int) + ((p : Int) + 1) - 1 < (N : Int) := by omega
          have hg9 : 0 ≤ (g : Int) + ((p : Int) + 1) - 1 := by omega
          by_cases hc : nth m (g + p) = nth m n
          · have hsb : subAt m h.length g (p + 1) = true := by unfold subAt; rw [HN.out, show g + (p + 1) - 1 = g + p by omega, decide_eq_true ha, hc]; simp
            have hst' := As.mk (rest_t (sets := sets) (subs := subs) (d := d) hsb)
            have hce : (nth m (g + p) != nth m n) = false := by rw [bne_eq_false_iff_eq]; exact hc
            rw [hc] at c3
            have hce : (nth m n != nth m n) = false := by simp
            clear hsb hc
            go_wp2_with (fail)
            go_quiet (fail)
            have hr1 : (wr.drewN nq).rangeAt gb 0 (i8s h) := hr1
            have hB1 : Blk (wr.drewN nq) B (stCells (some ⟨b, o, none⟩) m cm sets subs T1.length fv1) 70 := hB1
            have hS1d := As.mk (hS1'.out.drewN nq)
            have hg1d := grownBy_drewN hg1 nq
            rw [show (-((p + 1 : Nat) : Int)) = -((p : Int) + 1) from rfl] at hnum hnb hen0

            have hO := Own.lit (wr.drewN nq) (wr.drewN nq).heap.size 42 [] (Nat.le_refl _) (by simp)
            have hb' := bl_new (Below.refl _ (wr.drewN nq)) (.cells #[] 42)
            have hr' : ((wr.drewN nq).alloc (.cells #[] 42)).rangeAt gb 0 (i8s h) := range_below hr1 hb'
            have hl2 : (h ++ [-((p : Int) + 1)]).length = n + 1 := by simp [HN.out]
            have hst := As.mk (show restOf m sets subs d h g ((p + 1) + 1) = nextL m sets subs d h g (-((p : Int) + 1)) ++ restOf m sets subs d h g (p + 1) from by rw [hst'.out]; rfl)
            go_wp2_with (at_builtin; refine appN (w0 := (wr.drewN nq)) ((wr.drewN nq).heap.size) rfl (.tmp 100) (.tmp 101) 23 42 (.int .i8 0) 1 rfl Try.underlying23 info_i8 rfl (by omega) (.slice (some ⟨(wr.drewN nq).heap.size, 0, none⟩) 0 0) ([]) (i8s h) gb 0 c n rfl rfl HL.out (i8s_one _) hO hr' hb' hb'.size (by simp; omega) ?_)
            intro v1 w1 hO1 hb1 _ _
            have hO1 : Own w1 (wr.drewN nq).heap.size 42 v1 (i8s h) := hO1
            go_wp2_with (at_builtin; refine app1 (w0 := (wr.drewN nq)) ((wr.drewN nq).heap.size) rfl (.tmp 102) (.tmp 104) 23 42 (.int .i8 0) 1 rfl Try.underlying23 info_i8 rfl (by omega) (v1) (i8s h) (.int .i8 (-((p : Int) + 1))) rfl rfl rfl hO1 hb1 hb1.size (by rw [HL.out]; omega) ?_)
            intro v2 w2 hO2 hb2 _ _
            rw [i8s_snoc] at hO2
            have hr2 := Hsl.of_own hO2 hB1.lt (by rw [hl2]; omega)
            have S2 : St w2 B (some ⟨b, o, none⟩) cm m sets subs T1 := (hS1d.out).kept hb2
            have hgr2 : w.grownBy w2 (some B) := (hg1d).trans (grown_of_below hb2)
            obtain ⟨g2, c2, rfl, hg2, hr2⟩ := hr2
            have hs15 : Kp w B (some ⟨b, o, none⟩) cm m sets subs T1 g2 (h ++ [-((p : Int) + 1)]) w2.drew := ⟨S2, hr2, grownBy_drewN hgr2 1⟩
            have hen := hen0.out
            have kS := As.mk (fun W (hK : Kp w B (some ⟨b, o, none⟩) cm m sets subs T1 g2 (h ++ [-((p : Int) + 1)]) W) => l02Sets_any (h ++ [-((p : Int) + 1)]) (Way.nums4 hsubs hway'.out hnum.out) (some ⟨g2, 0, none⟩) c2 W (Sl.of_range hK.2.1 (by rw [hl2]; omega)) (by rw [hl2]; omega))
            obtain ⟨mm, hmm⟩ : ∃ mm, most (h ++ [-((p : Int) + 1)]) nums44 = mm := ⟨_, rfl⟩
            rw [hmm] at hen
            have kS := kS.out
            rw [hmm, hl2] at kS
            have hen := As.mk hen
            clear ha1 hgp c3 hg8 hg9 hce ha hp0
            clear hO hb' hr' hO1 hb1 hO2 hb2 hB1 k0 k1 k2 k3 k4 c0 hr1 hrm1 hm1 hf1 hr2 S2 hgr2 hmm
            rw [hl2]
            go_wp2_with (fail)

            refine wp_region_held_drew (S := (Kp w B (some ⟨b, o, none⟩) cm m sets subs T1 g2 (h ++ [-((p : Int) + 1)]))) (by kernel_rfl) hs15 (fun hHeld => ?_)
            (refine hTake 0 106 (v := .slice (some ⟨g2, 0, none⟩) (n + 1) c2) rfl rfl (by kernel_rfl) (by kernel_rfl) (by kernel_rfl) (fun _ _ _ h => h) (Or.inl ⟨by rfl, fun W _ => rfl⟩) hHeld ?_; simp only [List.set_cons_zero, List.set_cons_succ])
            (refine hTake 2 108 (v := .pointer (some ⟨B, 0, none⟩)) rfl rfl (by kernel_rfl) (by kernel_rfl) (by kernel_rfl) (fun _ _ _ h => h) (Or.inl ⟨by rfl, fun W _ => rfl⟩) hHeld ?_; simp only [List.set_cons_zero, List.set_cons_succ])
            (refine hTake 3 109 (v := .pointer (some ⟨B, 0, none⟩)) rfl rfl (by kernel_rfl) (by kernel_rfl) (by kernel_rfl) (fun _ _ _ h => h) (Or.inl ⟨by rfl, fun W h => by go_simp⟩) hHeld ?_; simp only [List.set_cons_zero, List.set_cons_succ])
            (refine hTake 4 110 (v := .pointer (some ⟨B, 1, none⟩)) rfl rfl (by kernel_rfl) (by kernel_rfl) (by kernel_rfl) (fun _ _ _ h => h) (Or.inl ⟨by rfl, fun W _ => by go_simp⟩) hHeld ?_; simp only [List.set_cons_zero, List.set_cons_succ])
            (refine hTake 5 111 (v := .int .i64 sets) rfl rfl (by kernel_rfl) (by kernel_rfl) (by kernel_rfl) (fun _ _ _ h => h) (Or.inl ⟨by rfl, fun W h => by (have h1 := Kp.setsAt h; clear h; go_simp)⟩) hHeld ?_; simp only [List.set_cons_zero, List.set_cons_succ])
            refine hCall 1 107 103 rfl rfl (by kernel_rfl) (args := #[.slice (some ⟨g2, 0, none⟩) (n + 1) c2]) (by rfl) (by go_simp) (.int .i64 mm) (kS _ hHeld) (fun wq hq => ⟨Kp.kept hHeld hq, ?_⟩)
            simp only [List.set_cons_zero, List.set_cons_succ]
            replace hHeld := Kp.kept hHeld hq
            clear hq hs15 kS
            (refine hTake 6 112 (v := .bool (decide (mm ≤ (sets : Int)))) rfl rfl (by kernel_rfl) (by kernel_rfl) (by kernel_rfl) (fun _ _ _ h => h) (Or.inl ⟨by rfl, fun W h => by go_simp⟩) hHeld ?_; simp only [List.set_cons_zero, List.set_cons_succ])
            refine wpAnyH_done (by kernel_rfl) ?_ _
            by_cases hmd : mm ≤ (sets : Int)
            · have he : enough sets h (-((p : Int) + 1)) = true := by rw [hen.out, decide_eq_true hmd]
              have hnx := As.mk (show nextL m sets subs d h g (-((p : Int) + 1)) = look m sets subs d (h ++ [-((p : Int) + 1)]) g by unfold nextL; rw [he]; rfl)
              have hbd : T1.length + (look m sets subs d (h ++ [-((p : Int) + 1)]) g).length ≤ 1000000 := by
                have h1 := congrArg List.length hT1.out
                rw [hst.out, hnx.out] at h1
                simp only [List.length_append] at h1
                have := HT.out
                omega
              have ihc := ih (h ++ [-((p : Int) + 1)]) g T1 (by rw [hl2]; have := HD.out; have := HM.out; omega) (by rw [hl2]; have := HG.out; omega) (hway'.out.num hnum.out he) hbd wq _ hHeld.1 ⟨g2, c2, rfl, hg2, hHeld.2.1⟩
              rw [hl2] at ihc
              have hK := hHeld.2.2
              clear hHeld he hbd
              go_wp2_with (fail)
              refine ihc.mono ?_; rintro e w4 ⟨rfl, S4, g4⟩
              go_wp2_with (fail)
              go_roundw
              case rel => exact ⟨(p + 1), T1 ++ look m sets subs d (h ++ [-((p : Int) + 1)]) g, by omega, by go_num, S4, hK.trans g4, ⟨by rw [List.append_assoc, ← hnx.out, ← hst.out]; exact hT1.out⟩⟩
              case measure => first | (simp [intOf]; done) | (simp [intOf]; omega)
            · have he : enough sets h (-((p : Int) + 1)) = false := by rw [hen.out, decide_eq_false hmd]
              have hnx := As.mk (show nextL m sets subs d h g (-((p : Int) + 1)) = [] by unfold nextL; rw [he]; rfl)
              have hS := hHeld.1
              have hK := hHeld.2.2
              clear hHeld he
              go_wp2_with (fail)
              go_roundw
              case rel => exact ⟨(p + 1), T1, by omega, by go_num, hS, hK, ⟨by rw [← hT1.out, hst.out, hnx.out]; rfl⟩⟩
              case measure => first | (simp [intOf]; done) | (simp [intOf]; omega)
          · have hsb : subAt m h.length g (p + 1) = false := by unfold subAt; rw [HN.out, show g + (p + 1) - 1 = g + p by omega, decide_eq_true ha]; simpa using hc
            have hst' := As.mk (rest_f (sets := sets) (subs := subs) (d := d) hsb)
            have hce : (nth m (g + p) != nth m n) = true := by rw [bne_iff_ne]; exact hc
            clear hsb
            go_wp2_with (fail)
            go_quiet (fail)
            go_wp2_with (fail)
            go_roundw
            case rel => exact ⟨p + 1, T1, by omega, by go_num, hS1'.out, grownBy_drewN hg1 _, ⟨by rw [← hT1.out, hst'.out]⟩⟩
            case measure => first | (simp [intOf]; done) | (simp [intOf]; omega)
        · have hsb : subAt m h.length g (p + 1) = false := by unfold subAt; rw [HN.out, show g + (p + 1) - 1 = g + p by omega, decide_eq_false ha]; rfl
          have hst' := As.mk (rest_f (sets := sets) (subs := subs) (d := d) hsb)
          have ha1 : (decide ((n : Int) ≤ (g : Int) + ((p : Int) + 1) - 1)) = true := by rw [decide_eq_true_eq]; omega
          clear hsb
          go_wp2_with (fail)
          go_quiet (fail)
          go_wp2_with (fail)
          go_roundw
          case rel => exact ⟨p + 1, T1, by omega, by go_num, hS1'.out, grownBy_drewN hg1 _, ⟨by rw [← hT1.out, hst'.out]⟩⟩
          case measure => first | (simp [intOf]; done) | (simp [intOf]; omega)

theorem lookOk (m : List Int) (hmk : ∀ k, k < m.length → nth m k = -10 ∨ (0 ≤ nth m k ∧ nth m k ≤ 39)) (A : Option Addr) (cm sets subs B : Nat) (h8 : m.length ≤ 8) (hsubs : subs ≤ 4) (hsets : sets ≤ 8) : ∀ d, LookOk m A cm sets subs B d
  | 0 => lookOk_zero m A cm sets subs B h8
  | d + 1 => fun h g T hd hg hway hT w v hs hh => by
    by_cases hx : nth m h.length = -10
    · exact look_brk_step m A cm sets subs B d h8 (lookOk m hmk A cm sets subs B h8 hsubs hsets d) h g T hd hway hT hx w v hs hh
    · exact look_num_step m hmk A cm sets subs B d h8 hsubs hsets (lookOk m hmk A cm sets subs B h8 hsubs hsets d) h g T hd hg hway hT hx w v hs hh

/-- So many hoists at most. -/
theorem subsAt_len (m : List Int) (i g : Nat) : ∀ n, (subsAt m i g n).length ≤ n
  | 0 => by simp [subsAt]
  | n + 1 => by
    unfold subsAt
    rw [List.length_append]
    have := subsAt_len m i g n
    split <;> simp <;> omega
theorem flatMap_len {xs : List Int} {f : Int → List (List Int)} {c : Nat} (h : ∀ x, (f x).length ≤ c) : (xs.flatMap f).length ≤ xs.length * c := by
  induction xs with
  | nil => simp
  | cons x xs ih =>
    rw [List.flatMap_cons, List.length_append, List.length_cons, Nat.succ_mul]
    have := h x
    omega
theorem look_count (m : List Int) (sets subs : Nat) (hs : subs ≤ 4) : ∀ (d : Nat) (h : List Int) (g : Nat), (look m sets subs d h g).length ≤ 5 ^ d
  | 0, h, g => by simp [look]
  | d + 1, h, g => by
    by_cases hx : nth m h.length = -10
    · rw [look_brk hx]
      have := look_count m sets subs hs d (h ++ [-10]) (h.length + 1)
      rw [Nat.pow_succ]; omega
    · rw [look_kind hx]
      refine Nat.le_trans (flatMap_len (c := 5 ^ d) (fun x => look_count m sets subs hs d (h ++ [x]) g)) ?_
      rw [Nat.pow_succ, Nat.mul_comm (5 ^ d) 5]
      refine Nat.mul_le_mul_right _ ?_
      refine Nat.le_trans (List.length_filter_le _ _) ?_
      unfold optsAt
      rw [List.length_append]
      have := subsAt_len m h.length g subs
      simp; omega
theorem found_count (m : List Int) (sets subs : Nat) (hs : subs ≤ 4) (h8 : m.length ≤ 8) : (found m sets subs).length ≤ 390625 := by
  refine Nat.le_trans (look_count m sets subs hs _ _ _) ?_
  exact Nat.le_trans (Nat.pow_le_pow_right (by omega) h8) (by decide)
end Go.Proofs.Ytnokdbnlagoidaa
