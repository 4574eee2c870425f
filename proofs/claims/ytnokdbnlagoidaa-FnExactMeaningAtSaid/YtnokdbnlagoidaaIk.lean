/- Contract: (impl.Meaning).hoists$1: at a kind. (Printed by ik.py.) -/
import Derived.Test.YtnokdbnlagoidaaIb
set_option linter.unusedVariables false
namespace Go.Proofs.Ytnokdbnlagoidaa
open Go.RowKit

def okX (sets subs : Nat) (h : List Int) (x : Int) : Bool := decide (0 ≤ x ∨ -x ≤ (subs : Int)) && enough sets h x
/-- What is found behind one more number. -/
def nextI (m : List Int) (sets subs d : Nat) (h : List Int) (g : Nat) (x : Int) : List (List Int) := if okX sets subs h x then look m sets subs d (h ++ [x]) g else []
theorem flatMap_filter' (p : Int → Bool) (f : Int → List (List Int)) : ∀ l : List Int, (l.filter p).flatMap f = l.flatMap fun x => if p x then f x else []
  | [] => rfl
  | x :: l => by
    rw [List.filter_cons, List.flatMap_cons]
    cases h : p x
    · simp only [Bool.false_eq_true, if_false, List.nil_append]; exact flatMap_filter' p f l
    · simp only [if_true, List.flatMap_cons]; rw [flatMap_filter' p f l]
theorem look_all {m : List Int} {sets subs d : Nat} {h : List Int} {g : Nat} (hs : subs ≤ 4) (hx : nth m h.length ≠ -10) (h0 : 0 ≤ nth m h.length) : look m sets subs (d + 1) h g = (optsAt m h.length g 4).flatMap (nextI m sets subs d h g) := by
  rw [look_kind hx, ← opts_filter hs (enough sets h) h0, flatMap_filter']
  rfl
theorem goes_nil (one : Bool) : goes one [] = true := by simp [goes]
theorem vis_nil (one : Bool) : vis one [] = [] := by cases one <;> rfl
theorem vis_len (one : Bool) (T : List (List Int)) : (vis one T).length ≤ T.length := by cases one <;> simp [vis]; omega
theorem goes_one {one : Bool} {T : List (List Int)} (h : goes one T = true) (ho : one = true) : T = [] := by
  subst ho; cases T
  · rfl
  · simp [goes] at h
theorem vis_app {one : Bool} {T U : List (List Int)} (h : goes one T = true) : vis one (T ++ U) = vis one T ++ vis one U := by
  cases one
  · rfl
  · rw [goes_one h rfl, List.nil_append, vis_nil, List.nil_append]
theorem goes_app {one : Bool} {T U : List (List Int)} (h : goes one T = true) : goes one (T ++ U) = goes one U := by
  cases one
  · rfl
  · rw [goes_one h rfl, List.nil_append]
theorem goes_stop {one : Bool} {U V : List (List Int)} (h : goes one U = false) : goes one (U ++ V) = false ∧ vis one (U ++ V) = vis one U := by
  cases one
  · simp [goes] at h
  · cases U with
    | nil => simp [goes] at h
    | cons u us => exact ⟨by simp [goes], by simp [vis]⟩
theorem flat_succ (f : Int → List (List Int)) (os : List Int) (k : Nat) (hk : k < os.length) : (os.take (k + 1)).flatMap f = (os.take k).flatMap f ++ f (nth os k) := by
  rw [take_nth' os k hk, List.flatMap_append]; simp
theorem flat_all (f : Int → List (List Int)) (os : List Int) (k : Nat) (hk : k < os.length) : os.flatMap f = (os.take k).flatMap f ++ (f (nth os k) ++ (os.drop (k + 1)).flatMap f) := by
  rw [← List.append_assoc, ← flat_succ f os k hk, ← List.flatMap_append, List.take_append_drop]

set_option maxRecDepth 100000 in
set_option maxHeartbeats 8000000 in
theorem ch_num (s : Sea) (ok : SeaOk s) (d : Nat) (ih : ChOk s d) (h : List Int) (g : Nat) (T1 : List (List Int)) (hd : h.length + (d + 1) = s.m.length) (hg : g ≤ h.length) (hway : Way s.sets s.subs h) (hone : s.one = true → T1 = []) (hT : T1.length + (look s.m s.sets s.subs (d + 1) h g).length ≤ 999999) (hx : nth s.m h.length ≠ -10)
    (w : World) (v : Value) (hj : J s w T1 h) (hv : Hv s.L w v h) :
    Calls Try.prog 91 #[v, .int .i64 g, .pointer (some ⟨s.L, 0, none⟩), .pointer (some ⟨s.L + 2, 0, none⟩), .pointer (some ⟨s.L + 3, 0, none⟩), .pointer (some ⟨s.L + 1, 0, none⟩)] w fun e w' =>
      e = .returned (.bool (goes s.one (look s.m s.sets s.subs (d + 1) h g))) ∧ J s w' (T1 ++ vis s.one (look s.m s.sets s.subs (d + 1) h g)) h ∧ Grw s.S w w' := by
  have hxk : 0 ≤ nth s.m h.length ∧ nth s.m h.length ≤ 39 := by rcases ok.kinds h.length (by omega) with e | e; · exact absurd e hx
                                                                · exact e
  rw [look_all ok.subs hx hxk.1] at hT ⊢
  have hpc := As.mk (opts_pc (m := s.m) (i := h.length) (g := g) hxk)
  have hx0 := hxk.1
  have hx1 := hxk.2
  have m0 := hj.m0
  obtain ⟨b, o, hA, hr⟩ := hj.mean.2 (by omega)
  have hbL := ok.low b o hA
  have c0 := hr h.length _ (i8s_get s.m h.length (by omega))
  rw [hA] at m0
  have h8 : h.length ≤ 8 := by have := ok.len; omega
  have hlm : (h.length : Int) < (s.m.length : Int) := by omega
  have hm8 : (s.m.length : Int) ≤ 8 := by have := ok.len; omega
  have hne : ((h.length : Int) == (s.m.length : Int)) = false := by rw [beq_eq_false_iff_ne]; omega
  have hxe : (nth s.m h.length == -10) = false := by rw [beq_eq_false_iff_ne]; exact hx
  have hL : s.L + 4 ≤ w.heap.size := by have := World.block_lt_of_cell? w _ hj.self; simp at this; exact this
  have hS3 : ¬ s.S (s.L + 3) := fun e => by rcases e with e | e; · omega
                                            · have := ok.rl _ e; omega
  have hS0 : ¬ s.S s.L := fun e => by rcases e with e | e; · omega
                                      · have := ok.rl _ e; omega
  have hSb : ¬ s.S b := fun e => by rcases e with e | e; · omega
                                    · exact hbL.2 e
  have hil := i8s_length h
  have hgn : (g : Int) ≤ (h.length : Int) := by omega
  have hvl := hv.len
  have HD := As.mk hd
  have HG := As.mk hg
  have HT := As.mk hT
  have HW := As.mk hway
  have HO := As.mk hone
  have HB := As.mk hbL
  obtain ⟨A, c, rfl⟩ := hvl
  have hj' := As.mk hj
  have hv' := As.mk hv
  have hr' := As.mk hr
  clear hx hT hd hg hway hone hbL hj hv hr hxk
  generalize hn : h.length = n at *
  have HN := As.mk hn
  clear hn
  have h8' : (n : Int) ≤ 8 := by omega
  go_enter Try.func91, Try.ntmps91
  go_wp2_with (fail)
  clear c0
  go_loopw [10, 11] (fun v sub wr => ∃ (r : Nat) (cur : List Int), r ≤ 4 ∧ sub = .int .i8 (-(r : Int)) ∧ Own wr w.heap.size 42 v (i8s cur) ∧ Below w.heap.size w wr ∧ As (cur ++ subsAt s.m n g r = subsAt s.m n g 4)) (fun _ sub _ => (-(intOf sub)).toNat)
  case atStart => exact ⟨4, [], by omega, rfl, Own.lit w w.heap.size 42 [] (Nat.le_refl _) (by simp), bl_new (Below.refl _ _) _, ⟨rfl⟩⟩
  case round =>
    obtain ⟨r, cur, hr4, rfl, hO, hb, hcur⟩ := hrel
    have hr1 := range_below hr'.out hb
    have m1 := (Grw.below (S := s.S) hb).cell m0 hS0
    have hcl : cur.length ≤ 4 := by
      have h1 := congrArg List.length hcur.out
      rw [List.length_append] at h1
      have := subsAt_len s.m n g 4
      omega
    have c0 := hr1 n _ (i8s_get s.m n (by omega))
    cases r with
    | zero =>
      rw [show -((0 : Nat) : Int) = 0 from rfl]
      have he := As.mk (show cur = subsAt s.m n g 4 by have := hcur.out; rwa [show subsAt s.m n g 0 = [] from rfl, List.append_nil] at this)
      go_wp2_with (at_builtin; refine app1 (w0 := w) (w.heap.size) rfl (.tmp 66) (.tmp 71) 22 42 (.int .i8 0) 1 rfl Try.underlying22 info_i8 rfl (by omega) (u10) (i8s cur) (.int .i8 (nth s.m n)) rfl rfl rfl hO hb hb.size (by rw [i8s_length]; omega) ?_)
      intro v2 wz hO2 hb2 _ _
      rw [i8s_snoc, he.out, show subsAt s.m n g 4 ++ [nth s.m n] = optsAt s.m n g 4 from rfl] at hO2
      have hol : (optsAt s.m n g 4).length ≤ 5 := by unfold optsAt; rw [List.length_append]; have := subsAt_len s.m n g 4; simp; omega
      have hop : 0 < (optsAt s.m n g 4).length := by unfold optsAt; simp
      generalize hos : optsAt s.m n g 4 = os at *
      have hos := As.mk hos
      clear hO hb hr1 m1 c0 hcl he hcur
      obtain ⟨A2, c2, rfl, Sl2⟩ := hO2.sl
      obtain ⟨ob, rfl⟩ := hO2.addr (by rw [i8s_length]; omega)
      have hob := hO2.ge ob rfl
      have hor := As.mk (show wz.rangeAt ob 0 (i8s os) from by
        obtain ⟨b3, o3, e3, r3⟩ := Sl2.2 hop
        simp only [Option.some.injEq, Addr.mk.injEq] at e3
        rw [e3.1, e3.2.1]; exact r3)
      have hSo : ¬ s.S ob := fun e => by have := ok.sl _ e; omega
      have hj2 := As.mk (hj'.out.kept ok hb2)
      have hG2 : Grw s.S w wz := Grw.below hb2
      have hvv : Hv s.L wz (.slice A n c) h := hv'.out.grw (Grw.below (S := fun _ => False) hb2) (fun _ e => e.elim)
      clear hO2 Sl2 hb2 hj' hv'
      go_wp2_with (fail)
      go_loopw [74] (fun i wr => ∃ (k : Nat) (T' : List (List Int)), k ≤ os.length ∧ i = .int .i64 k ∧ J s wr T' h ∧ Grw s.S wz wr ∧ As (goes s.one ((os.take k).flatMap (nextI s.m s.sets s.subs d h g)) = true ∧ T' = T1 ++ vis s.one ((os.take k).flatMap (nextI s.m s.sets s.subs d h g)))) (fun i _ => os.length - (intOf i).toNat)
      case atStart => exact ⟨0, T1, by omega, rfl, hj2.out, Grw.refl _ _, ⟨by simp [goes_nil], by simp [vis_nil]⟩⟩
      case round =>
        obtain ⟨k, T', hk, rfl, hjk, hgk, hTk⟩ := hrel
        by_cases hlt : k < os.length
        · have hlt' : (k : Int) < (os.length : Int) := by omega
          have c1 : wr.cell? ⟨ob, k, none⟩ = some (.int .i8 (nth os k)) := by have := hgk.range hor.out hSo k _ (i8s_get os k hlt); rwa [Nat.zero_add] at this
          have hpx := hpc.out _ (nth_mem os k hlt)
          have hsu := As.mk (flat_succ (nextI s.m s.sets s.subs d h g) os k hlt)
          have hal := As.mk (flat_all (nextI s.m s.sets s.subs d h g) os k hlt)
          have hnx := As.mk (show nextI s.m s.sets s.subs d h g (nth os k) = if okX s.sets s.subs h (nth os k) then look s.m s.sets s.subs d (h ++ [nth os k]) g else [] from rfl)
          have hx10 : nth os k ≠ -10 := by unfold isPc at hpx; omega
          have hz0 := have_zero HW.out hx10
          have hnt := haveL_nth s.sets s.subs h hpx
          have hkf := fun W hB => of_any (haveL s.sets s.subs h) (haveL_length _ _ _) (s.L + 1) (nth os k) hpx W hB
          rw [hnt] at hkf
          have hbd := haveX_bound (sets := s.sets) (subs := s.subs) (h := h) (x := nth os k) ok.sets (by rw [HN.out]; exact h8)
          have hpx' := As.mk hpx
          have hx10' := As.mk hx10
          have hcpB := As.mk hjk.pcs
          generalize hxx : nth os k = x at *
          have hpb : -128 ≤ x ∧ x ≤ 127 := by unfold isPc at hpx; omega
          have hpb1 := hpb.1
          have hpb2 := hpb.2
          clear hpx hx10 hpb
          cases hok : okX s.sets s.subs h x
          · have hz : (haveX s.sets s.subs h x == 0) = true := by rw [hz0]; unfold okX at hok; rw [hok]; rfl
            have hnx' : nextI s.m s.sets s.subs d h g x = [] := by rw [hnx.out, hok]; rfl
            have hsu' := hsu.out
            rw [hnx', List.append_nil] at hsu'
            have hsu' := As.mk hsu'
            clear hz0 hbd hnt hok hnx'
            go_wp2_with (go_at_call 93; refine (hkf _ hcpB.out).mono ?_; rintro e w' ⟨rfl, rfl⟩)
            go_roundw
            case rel => exact ⟨k + 1, T', by omega, by go_num, hjk, hgk, ⟨by rw [hsu'.out]; exact hTk.out⟩⟩
            case measure => simp [intOf]; omega
          · have hz : (haveX s.sets s.subs h x == 0) = false := by rw [hz0]; unfold okX at hok; rw [hok]; rfl
            have hnx' := As.mk (show nextI s.m s.sets s.subs d h g x = look s.m s.sets s.subs d (h ++ [x]) g by rw [hnx.out, hok]; rfl)
            have hox : 0 ≤ x ∨ -x ≤ (s.subs : Int) := by unfold okX at hok; simp only [Bool.and_eq_true, decide_eq_true_eq] at hok; exact hok.1
            have hen : enough s.sets h x = true := by unfold okX at hok; simp only [Bool.and_eq_true] at hok; exact hok.2
            have hnum : isNum s.subs x := by have := hpx'.out; unfold isPc at this; unfold isNum; omega
            have hway2 := HW.out.num hnum hen
            have had := add_any (haveL s.sets s.subs h) (haveL_length _ _ _) (s.L + 1) x hpx'.out (-1) (by omega) (by rw [hnt]; omega) wr hjk.pcs
            rw [hnt, have_less hpx'.out hox] at had
            have hh2 : -100 ≤ nth (haveL s.sets s.subs (h ++ [x])) (idxP x) ∧ nth (haveL s.sets s.subs (h ++ [x])) (idxP x) ≤ 100 := by
              rw [haveL_nth _ _ _ hpx'.out, haveX_same hox]; omega
            have had2 := fun W hB => add_any (haveL s.sets s.subs (h ++ [x])) (haveL_length _ _ _) (s.L + 1) x hpx'.out 1 (by omega) hh2 W hB
            rw [haveL_nth _ _ _ hpx'.out, have_more hpx'.out hox] at had2
            have had2 := As.mk had2
            have hl2 : (h ++ [x]).length = n + 1 := by simp [HN.out]
            have hT1' := As.mk (show s.one = true → T' = [] from fun ho => by rw [hTk.out.2, HO.out ho, goes_one hTk.out.1 ho, vis_nil]; rfl)
            have hTb : T'.length + (look s.m s.sets s.subs d (h ++ [x]) g).length ≤ 999999 := by
              have h1 := HT.out
              rw [hal.out, hnx'.out] at h1
              have h2 := congrArg List.length hTk.out.2
              have h3 := vis_len s.one ((os.take k).flatMap (nextI s.m s.sets s.subs d h g))
              simp only [List.length_append] at h1 h2
              omega
            have ihb := As.mk (ih (h ++ [x]) g T' (by rw [hl2]; have := HD.out; omega) (by rw [hl2]; have := HG.out; omega) hway2 hT1'.out hTb)
            clear hz0 hbd hnt hok hen hnum hway2 hh2 hox hTb
            generalize hlk : look s.m s.sets s.subs d (h ++ [x]) g = lk at *
            go_wp2_with (first | (go_at_call 93; refine (hkf _ hcpB.out).mono ?_; rintro e w' ⟨rfl, rfl⟩) | (go_at_call 94; refine had.mono ?_; rintro e w3 ⟨rfl, hB3, hg3⟩))
            have hj3 := hjk.pieces ok hB3 hg3
            have hvv3 : Hv s.L w3 (.slice A n c) h := hvv.grw (hgk.trans (Grw.grown hg3 (.inl rfl))) ok.sl
            have hG3 : Grw s.S wz w3 := hgk.trans (Grw.grown hg3 (.inl rfl))
            have e3 : w3.drew.cell? ⟨s.L + 3, 0, none⟩ = _ := hj3.self
            have hjd : J s w3.drew T' (h ++ [x]) := ⟨hj3.m0, hj3.pcs, hj3.each, hj3.self, hj3.mean, ok.stab _ _ _ hj3.x (Grw.refl _ _).drew⟩
            have hvd : Hv s.L w3.drew (.slice A n c) h := hvv3
            have hL3 : s.L + 4 ≤ w3.drew.heap.size := by have := World.block_lt_of_cell? w3 _ hj3.self; simp at this; exact this
            have hp2 : 0 < (h ++ [x]).length := by rw [hl2]; omega
            have h81 : h.length ≤ 8 := by rw [HN.out]; exact h8
            clear had hkf hB3 hg3 hj3 hvv3 hjk c1
            go_wp2_with (fail)
            refine wp_region_held_drew (S := (Grw s.S w3.drew)) (by kernel_rfl) (Grw.refl s.S w3.drew) (fun hHeld => ?_)
            (refine hTake 0 83 (v := .func (.func 91) #[] #[.pointer (some ⟨s.L, 0, none⟩), .pointer (some ⟨s.L + 2, 0, none⟩), .pointer (some ⟨s.L + 3, 0, none⟩), .pointer (some ⟨s.L + 1, 0, none⟩)]) rfl rfl (by kernel_rfl) (by kernel_rfl) (by kernel_rfl) (fun _ _ _ h => h) (Or.inl ⟨by rfl, fun W h => by (have h1 := h.cell e3 hS3; clear h; go_simp)⟩) hHeld ?_; simp only [List.set_cons_zero, List.set_cons_succ])
            (refine hTake 1 84 (v := .slice A n c) rfl rfl (by kernel_rfl) (by kernel_rfl) (by kernel_rfl) (fun _ _ _ h => h) (Or.inl ⟨by rfl, fun W _ => rfl⟩) hHeld ?_; simp only [List.set_cons_zero, List.set_cons_succ])
            (refine hTake 3 86 (v := .int .i8 x) rfl rfl (by kernel_rfl) (by kernel_rfl) (by kernel_rfl) (fun _ _ _ h => h) (Or.inl ⟨by rfl, fun W _ => rfl⟩) hHeld ?_; simp only [List.set_cons_zero, List.set_cons_succ])
            (refine hTake 6 89 (v := .int .i64 g) rfl rfl (by kernel_rfl) (by kernel_rfl) (by kernel_rfl) (fun _ _ _ h => h) (Or.inl ⟨by rfl, fun W _ => rfl⟩) hHeld ?_; simp only [List.set_cons_zero, List.set_cons_succ])
            clear hHeld
            refine wpAnyH_ready (rs := [2, 4]) (by kernel_rfl) (by simp) ?_
            refine kCallE 2 85 92 rfl rfl (args := #[.slice A n c]) (by rfl) (by go_simp) (R := fun u w' => Own w' (w3.drew).heap.size 42 u (i8s h) ∧ Below (w3.drew).heap.size (w3.drew) w') (CloneH_hv s.L h _ _ hvd h81) (fun u w1 hR => ⟨Grw.below hR.2, ?_⟩) ?_
            · obtain ⟨hO1, hb1⟩ := hR
              simp only [List.set_cons_zero, List.set_cons_succ]
              have hb2 := bl_new hb1 (.cells #[.int .i8 (x)] 42)
              refine wpAnyH_ready (rs := [4]) (by kernel_rfl) (by simp) ?_
              refine kVal 4 87 rfl rfl (by rfl) (v := .slice (some ⟨w1.heap.size, 0, none⟩) 1 1) (w' := w1.alloc (.cells #[.int .i8 (x)] 42)) (by go_simp) (Grw.below hb2) ?_ AllReadyH.nil
              simp only [List.set_cons_zero, List.set_cons_succ]
              have hBx : Blk (w1.alloc (.cells #[.int .i8 (x)] 42)) w1.heap.size [.int .i8 (x)] 42 := Blk.mk _ [_] _ rfl
              have hO1' := hO1.alloc (.cells #[.int .i8 (x)] 42)
              clear hO1 hb1
              generalize w1.alloc (.cells #[.int .i8 (x)] 42) = w2 at *
              generalize w1.heap.size = bx at *
              refine wpAnyH_ready (rs := [5]) (by kernel_rfl) (by simp) ?_
              refine kApp (w0 := w3.drew) 5 88 (w3.drew).heap.size rfl rfl (.tmp 85) (.tmp 87) 23 42 (.int .i8 0) 1 rfl (by rfl) Try.underlying23 info_i8 rfl (by omega) u (i8s h) [.int .i8 (x)] bx 0 1 1 rfl rfl rfl (by simp [Value.oneCell']) hO1' (by exact hBx.range) hb2 (hb2).size (by rw [hil]; omega) (fun v2 w4 hO2 hb4 => ⟨Grw.below hb4, ?_⟩) AllReadyH.nil
              simp only [List.set_cons_zero, List.set_cons_succ]
              rw [show i8s h ++ [Value.int .i8 (x)] = i8s (h ++ [x]) from i8s_snoc _ _] at hO2
              refine wpAnyH_ready (rs := [7]) (by kernel_rfl) (by simp) ?_
              refine kCallE 7 90 91 rfl rfl (args := #[v2, .int .i64 (g), .pointer (some ⟨s.L, 0, none⟩), .pointer (some ⟨s.L + 2, 0, none⟩), .pointer (some ⟨s.L + 3, 0, none⟩), .pointer (some ⟨s.L + 1, 0, none⟩)]) (by rfl) (by go_simp) (R := fun v w' => v = .bool (goes s.one lk) ∧ J s w' (T' ++ vis s.one lk) (h ++ [x]) ∧ Grw s.S w4 w')
                (((ihb.out w4 v2 (J.kept ok hjd hb4) (Hv.of_own hO2 hL3 hp2)).mono (fun e w' h => ⟨_, h.1, rfl, h.2.1, h.2.2⟩))) (fun v3 w5 hR => ⟨(Grw.below hb4).trans hR.2.2, ?_⟩) AllReadyH.nil
              obtain ⟨rfl, hj5, hg5⟩ := hR
              simp only [List.set_cons_zero, List.set_cons_succ]
              refine wpAnyH_ready (rs := [8]) (by kernel_rfl) (by simp) ?_
              refine kVal 8 15 rfl rfl (by rfl) (v := .bool (goes s.one lk)) (by rfl) ((Grw.below hb4).trans hg5) ?_ AllReadyH.nil
              simp only [List.set_cons_zero, List.set_cons_succ]
              refine wpAnyH_done (by kernel_rfl) ?_ _
              have hg6 : Grw s.S (w3.drew) w5 := (Grw.below hb4).trans hg5
              clear hO2 hb4 hg5

              have hG5 : Grw s.S wz w5 := (hG3.drew).trans hg6
              have ha2 := had2.out w5 hj5.pcs
              cases hgo : goes s.one lk
              · have hfin := goes_stop (V := (os.drop (k + 1)).flatMap (nextI s.m s.sets s.subs d h g)) hgo
                have hA1 : goes s.one (os.flatMap (nextI s.m s.sets s.subs d h g)) = false := by rw [hal.out, goes_app hTk.out.1, hnx'.out, hfin.1]
                have hA2 : T1 ++ vis s.one (os.flatMap (nextI s.m s.sets s.subs d h g)) = T' ++ vis s.one lk := by rw [hal.out, vis_app hTk.out.1, hnx'.out, hfin.2, hTk.out.2, List.append_assoc]
                have hA1 := As.mk hA1
                have hA2 := As.mk hA2
                clear hfin
                go_wp2_with (refine ha2.mono ?_; rintro e w6 ⟨rfl, hB6, hg6⟩)
                have hj6 := hj5.pieces ok hB6 hg6
                have hG6 := hG5.trans (Grw.grown hg6 (.inl rfl))
                go_ret
                exact ⟨ret_b (by rw [hos.out, hA1.out]), by rw [hos.out, hA2.out]; exact hj6, hG2.trans hG6⟩
              · have hB1 := As.mk (show goes s.one ((os.take (k + 1)).flatMap (nextI s.m s.sets s.subs d h g)) = true by rw [hsu.out, goes_app hTk.out.1, hnx'.out, hgo])
                have hB2 := As.mk (show T' ++ vis s.one lk = T1 ++ vis s.one ((os.take (k + 1)).flatMap (nextI s.m s.sets s.subs d h g)) by rw [hsu.out, vis_app hTk.out.1, hnx'.out, hTk.out.2, List.append_assoc])
                go_wp2_with (refine ha2.mono ?_; rintro e w6 ⟨rfl, hB6, hg6⟩)
                have hj6 := hj5.pieces ok hB6 hg6
                have hG6 := hG5.trans (Grw.grown hg6 (.inl rfl))
                go_roundw
                case rel => exact ⟨k + 1, _, by omega, by go_num, hj6, hG6, ⟨hB1.out, hB2.out⟩⟩
                case measure => simp [intOf]; omega
            · have hb1 := bl_new (Below.refl (w3.drew).heap.size (w3.drew)) (.cells #[.int .i8 (x)] 42)
              refine kVal 4 87 rfl rfl (by rfl) (v := .slice (some ⟨(w3.drew).heap.size, 0, none⟩) 1 1) (w' := (w3.drew).alloc (.cells #[.int .i8 (x)] 42)) (by go_simp) (Grw.below hb1) ?_ AllReadyH.nil
              simp only [List.set_cons_zero, List.set_cons_succ]
              have hBx : Blk ((w3.drew).alloc (.cells #[.int .i8 (x)] 42)) (w3.drew).heap.size [.int .i8 (x)] 42 := Blk.mk _ [_] _ rfl
              have hvb := (hvd).grw (Grw.below (S := fun _ => False) hb1) (fun _ e => e.elim)
              generalize (w3.drew).alloc (.cells #[.int .i8 (x)] 42) = w1 at *
              generalize hbx : (w3.drew).heap.size = bx at hBx ⊢
              refine wpAnyH_ready (rs := [2]) (by kernel_rfl) (by simp) ?_
              refine kCallE 2 85 92 rfl rfl (args := #[.slice A n c]) (by rfl) (by go_simp) (R := fun u w' => Own w' w1.heap.size 42 u (i8s h) ∧ Below w1.heap.size w1 w') (CloneH_hv s.L h _ _ hvb h81) (fun u w2 hR => ⟨Grw.below (bl_call hb1 hR.2), ?_⟩) AllReadyH.nil
              obtain ⟨hO1, hb2'⟩ := hR
              simp only [List.set_cons_zero, List.set_cons_succ]
              have hb2 := bl_call hb1 hb2'
              have hBx2 := hBx.kept hb2'
              have hO1' := hO1.lower hb1.size
              clear hO1 hb2' hBx hvb hb1
              subst hbx
              refine wpAnyH_ready (rs := [5]) (by kernel_rfl) (by simp) ?_
              refine kApp (w0 := w3.drew) 5 88 (w3.drew).heap.size rfl rfl (.tmp 85) (.tmp 87) 23 42 (.int .i8 0) 1 rfl (by rfl) Try.underlying23 info_i8 rfl (by omega) u (i8s h) [.int .i8 (x)] (w3.drew).heap.size 0 1 1 rfl rfl rfl (by simp [Value.oneCell']) hO1' (by exact hBx2.range) hb2 (hb2).size (by rw [hil]; omega) (fun v2 w4 hO2 hb4 => ⟨Grw.below hb4, ?_⟩) AllReadyH.nil
              simp only [List.set_cons_zero, List.set_cons_succ]
              rw [show i8s h ++ [Value.int .i8 (x)] = i8s (h ++ [x]) from i8s_snoc _ _] at hO2
              refine wpAnyH_ready (rs := [7]) (by kernel_rfl) (by simp) ?_
              refine kCallE 7 90 91 rfl rfl (args := #[v2, .int .i64 (g), .pointer (some ⟨s.L, 0, none⟩), .pointer (some ⟨s.L + 2, 0, none⟩), .pointer (some ⟨s.L + 3, 0, none⟩), .pointer (some ⟨s.L + 1, 0, none⟩)]) (by rfl) (by go_simp) (R := fun v w' => v = .bool (goes s.one lk) ∧ J s w' (T' ++ vis s.one lk) (h ++ [x]) ∧ Grw s.S w4 w')
                (((ihb.out w4 v2 (J.kept ok hjd hb4) (Hv.of_own hO2 hL3 hp2)).mono (fun e w' h => ⟨_, h.1, rfl, h.2.1, h.2.2⟩))) (fun v3 w5 hR => ⟨(Grw.below hb4).trans hR.2.2, ?_⟩) AllReadyH.nil
              obtain ⟨rfl, hj5, hg5⟩ := hR
              simp only [List.set_cons_zero, List.set_cons_succ]
              refine wpAnyH_ready (rs := [8]) (by kernel_rfl) (by simp) ?_
              refine kVal 8 15 rfl rfl (by rfl) (v := .bool (goes s.one lk)) (by rfl) ((Grw.below hb4).trans hg5) ?_ AllReadyH.nil
              simp only [List.set_cons_zero, List.set_cons_succ]
              refine wpAnyH_done (by kernel_rfl) ?_ _
              have hg6 : Grw s.S (w3.drew) w5 := (Grw.below hb4).trans hg5
              clear hO2 hb4 hg5

              have hG5 : Grw s.S wz w5 := (hG3.drew).trans hg6
              have ha2 := had2.out w5 hj5.pcs
              cases hgo : goes s.one lk
              · have hfin := goes_stop (V := (os.drop (k + 1)).flatMap (nextI s.m s.sets s.subs d h g)) hgo
                have hA1 : goes s.one (os.flatMap (nextI s.m s.sets s.subs d h g)) = false := by rw [hal.out, goes_app hTk.out.1, hnx'.out, hfin.1]
                have hA2 : T1 ++ vis s.one (os.flatMap (nextI s.m s.sets s.subs d h g)) = T' ++ vis s.one lk := by rw [hal.out, vis_app hTk.out.1, hnx'.out, hfin.2, hTk.out.2, List.append_assoc]
                have hA1 := As.mk hA1
                have hA2 := As.mk hA2
                clear hfin
                go_wp2_with (refine ha2.mono ?_; rintro e w6 ⟨rfl, hB6, hg6⟩)
                have hj6 := hj5.pieces ok hB6 hg6
                have hG6 := hG5.trans (Grw.grown hg6 (.inl rfl))
                go_ret
                exact ⟨ret_b (by rw [hos.out, hA1.out]), by rw [hos.out, hA2.out]; exact hj6, hG2.trans hG6⟩
              · have hB1 := As.mk (show goes s.one ((os.take (k + 1)).flatMap (nextI s.m s.sets s.subs d h g)) = true by rw [hsu.out, goes_app hTk.out.1, hnx'.out, hgo])
                have hB2 := As.mk (show T' ++ vis s.one lk = T1 ++ vis s.one ((os.take (k + 1)).flatMap (nextI s.m s.sets s.subs d h g)) by rw [hsu.out, vis_app hTk.out.1, hnx'.out, hTk.out.2, List.append_assoc])
                go_wp2_with (refine ha2.mono ?_; rintro e w6 ⟨rfl, hB6, hg6⟩)
                have hj6 := hj5.pieces ok hB6 hg6
                have hG6 := hG5.trans (Grw.grown hg6 (.inl rfl))
                go_roundw
                case rel => exact ⟨k + 1, _, by omega, by go_num, hj6, hG6, ⟨hB1.out, hB2.out⟩⟩
                case measure => simp [intOf]; omega
        · obtain rfl : k = os.length := by omega
          have hal : (os.take os.length).flatMap (nextI s.m s.sets s.subs d h g) = os.flatMap (nextI s.m s.sets s.subs d h g) := by rw [List.take_length]
          have hTk' := hTk.out
          rw [hal] at hTk'
          go_wp2_with (fail)
          go_ret
          exact ⟨ret_b (by rw [hos.out]; exact hTk'.1.symm), by rw [hos.out, ← hTk'.2]; exact hjk, hG2.trans hgk⟩
    | succ r =>
      rw [show -((r + 1 : Nat) : Int) = -((r : Int) + 1) from rfl]
      have hr4' : (r : Int) + 1 ≤ 4 := by omega
      have hgp : ((g : Int) + ((r : Int) + 1) - 1).toNat = g + r := by omega
      have hss : subsAt s.m n g (r + 1) = (if subAt s.m n g (r + 1) then [-((r + 1 : Nat) : Int)] else []) ++ subsAt s.m n g r := rfl
      have hsb0 : subAt s.m n g (r + 1) = (decide (g + r < n) && (nth s.m (g + r) == nth s.m n)) := by unfold subAt; rw [show g + (r + 1) - 1 = g + r by omega]
      by_cases ha : g + r < n
      · have ha1 : (decide ((g : Int) + ((r : Int) + 1) - 1 < (n : Int))) = true := by rw [decide_eq_true_eq]; omega
        have c3 : wr.cell? ⟨b, o + (g + r), none⟩ = some (.int .i8 (nth s.m (g + r))) := hr1 (g + r) _ (i8s_get s.m (g + r) (by omega))
        have hg8 : (g : Int) + ((r : Int) + 1) - 1 < (s.m.length : Int) := by omega
        have hg9 : 0 ≤ (g : Int) + ((r : Int) + 1) - 1 := by omega
        cases hc : nth s.m (g + r) == nth s.m n
        · have hst : As (cur ++ subsAt s.m n g r = subsAt s.m n g 4) := ⟨by have := hcur.out; rwa [hss, hsb0, hc, Bool.and_false] at this⟩
          clear hss hsb0
          go_wp2_with (fail)
          go_quiet (fail)
          go_wp2_with (fail)
          go_roundw
          case rel => exact ⟨r, cur, by omega, by go_num, hO, bl_drewN hb _, hst⟩
          case measure => first | (simp [intOf]; done) | (simp [intOf]; omega)
        · have hst : As ((cur ++ [-((r : Int) + 1)]) ++ subsAt s.m n g r = subsAt s.m n g 4) := ⟨by have := hcur.out; rw [hss, hsb0, hc, decide_eq_true ha] at this; rw [List.append_assoc]; exact this⟩
          clear hss hsb0
          go_wp2_with (fail)
          go_quiet (fail)
          have hOd := hO.drewN nq
          have hbd := bl_drewN hb nq
          clear ha1 c3 hg8 hg9 hc hgp ha
          go_wp2_with (at_builtin; refine app1 (w0 := w) (w.heap.size) rfl (.tmp 62) (.tmp 64) 22 42 (.int .i8 0) 1 rfl Try.underlying22 info_i8 rfl (by omega) (u10) (i8s cur) (.int .i8 (-((r : Int) + 1))) rfl rfl rfl hOd hbd hbd.size (by rw [i8s_length]; omega) ?_)
          intro v2 wz hO2 hb2 _ _
          rw [i8s_snoc] at hO2
          go_wp2_with (fail)
          go_roundw
          case rel => exact ⟨r, cur ++ [-((r : Int) + 1)], by omega, by go_num, hO2, hb2, hst⟩
          case measure => first | (simp [intOf]; done) | (simp [intOf]; omega)
      · have hst : As (cur ++ subsAt s.m n g r = subsAt s.m n g 4) := ⟨by have := hcur.out; rwa [hss, hsb0, decide_eq_false ha, Bool.false_and] at this⟩
        have ha1 : (decide ((g : Int) + ((r : Int) + 1) - 1 < (n : Int))) = false := by rw [decide_eq_false_iff_not]; omega
        clear hss hsb0
        go_wp2_with (fail)
        go_quiet (fail)
        go_wp2_with (fail)
        go_roundw
        case rel => exact ⟨r, cur, by omega, by go_num, hO, bl_drewN hb _, hst⟩
        case measure => first | (simp [intOf]; done) | (simp [intOf]; omega)
end Go.Proofs.Ytnokdbnlagoidaa
