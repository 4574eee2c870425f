/- Contracts and plain facts, several texts in one. -/
import Derived.Test.YtjppoejkfpeicaaQC9
import Derived.Test.YtjppoejkfpeicaaQC11
/- Walk: the law FnChosen. -/
set_option linter.unusedVariables false
set_option linter.unusedSimpArgs false
namespace Go.Proofs.Ytjppoejkfpeicaa
open Go.RowKit

theorem pick_take (fs : List (List Int)) (D : List Nat) (k : Nat) (hk : k < D.length) : pickF fs (D.take (k + 1)) = pickF fs (D.take k) ++ [nthF fs (D.getD k 0)] := by
  unfold pickF
  rw [List.take_add_one, List.map_append, List.getElem?_eq_getElem hk, List.getD_eq_getElem?_getD, List.getElem?_eq_getElem hk]; rfl
theorem rises_len : ∀ {x : List Nat} {n k : Nat}, risesN n k x → x.length ≤ n - k
  | [], _, _, _ => by simp
  | a :: x, n, k, ⟨h1, h2, h3⟩ => by have := rises_len h3; simp; omega
theorem choose_some {f : Nat → Nat → Bool} {n i : Nat} (hi : i < n) (h : i ∉ chooseN f n) : 0 < (chooseN f n).length := by
  obtain ⟨x, hx, _⟩ := not_chosen hi h
  omega
theorem flat_range {w : World} {b o : Nat} {A : Option Addr} {fs : List (List Int)} (h : SlF w A fs) (hA : A = some ⟨b, o, none⟩) : w.rangeAt b o (fs.flatMap u8s) := fun j v hv => by
  have h24 : ∀ f ∈ fs, (u8s f).length = 24 := fun f hf => by rw [u8s_length]; exact h.2.1 f hf
  have hj : j < (fs.flatMap u8s).length := (List.getElem?_eq_some_iff.1 hv).1
  rw [flat_length u8s 24 fs h24] at hj
  have hi : j / 24 < fs.length := by omega
  obtain ⟨b', o', e, hr⟩ := h.2.2.2 (by omega)
  rw [hA] at e
  obtain ⟨rfl, rfl⟩ : b = b' ∧ o = o' := by simpa using e
  have e2 : j = j / 24 * 24 + j % 24 := by omega
  have hg := flat_get u8s 24 fs h24 (j / 24) _ (nthF_get? fs (j / 24) hi) (j % 24) (by omega)
  rw [← e2, hv] at hg
  have := hr (j / 24) _ (nthF_get? fs (j / 24) hi) (j % 24) v hg.symm
  rw [show o + j / 24 * 24 + j % 24 = o + j by omega] at this
  exact this
theorem getD_mem {D : List Nat} {k : Nat} (hk : k < D.length) : D.getD k 0 ∈ D := by
  rw [List.getD_eq_getElem?_getD, List.getElem?_eq_getElem hk]; exact List.getElem_mem hk
theorem f6c_ok (A : Option Addr) (n c : Nat) (h : n ≤ 4096) (w : World) : Calls Try.prog 18 #[.slice A n c] w fun e w' => e = .returned (.bool false) ∧ w = w' := by
  have h' : ¬ ((4096 : Int) < ((n : Nat) : Int)) := by omega
  have h2 : (n : Int) ≤ 4096 := by omega
  go_enter Try.func18, Try.ntmps18
  go_wp2
  go_ret
  exact ⟨rfl, rfl⟩
theorem f6c_big (A : Option Addr) (n c : Nat) (h : ¬ n ≤ 4096) (w : World) : Calls Try.prog 18 #[.slice A n c] w fun e w' => e = .returned (.bool true) ∧ w = w' := by
  have h' : (4096 : Int) < ((n : Nat) : Int) := by omega
  go_enter Try.func18, Try.ntmps18
  go_wp2
  go_ret
  exact ⟨rfl, rfl⟩
set_option maxRecDepth 100000 in
set_option maxHeartbeats 8000000 in
theorem walk_FnChosen (w : World) (A0 : Option Addr) (x0 : List Int) (c0 : Nat) (s0 : Sl .u8 w A0 x0) (r0 : ∀ n ∈ x0, 0 ≤ n ∧ n ≤ 255) (A1 : Option Addr) (x1 : List Int) (c1 : Nat) (s1 : Sl .u8 w A1 x1) (r1 : ∀ n ∈ x1, 0 ≤ n ∧ n ≤ 255) :
    Calls Try.prog 6 #[.slice A0 x0.length c0, .slice A1 x1.length c1] w fun e w' => e = .returned (.bool true) ∧ Below w.heap.size w w' := by
  by_cases h0 : x0.length ≤ 4096
  case neg =>
    have k := fun W => f6c_big A0 x0.length c0 h0 W
    generalize x0.length = n0 at *
    generalize x1.length = n1 at *
    go_enter Try.func6, Try.ntmps6
    go_wp2_with (refine (k _).mono ?_; rintro e w' ⟨rfl, rfl⟩)
    go_ret
    exact ⟨rfl, Below.refl _ _⟩
  by_cases h1 : x1.length ≤ 4096
  case neg =>
    have k := fun W => f6c_ok A0 x0.length c0 h0 W
    have k1 := fun W => f6c_big A1 x1.length c1 h1 W
    generalize x0.length = n0 at *
    generalize x1.length = n1 at *
    go_enter Try.func6, Try.ntmps6
    go_wp2_with (first | (refine (k _).mono ?_; rintro e w' ⟨rfl, rfl⟩) | (refine (k1 _).mono ?_; rintro e w' ⟨rfl, rfl⟩))
    go_ret
    exact ⟨rfl, Below.refl _ _⟩
  have k := fun W => f6c_ok A0 x0.length c0 h0 W
  have k1 := fun W => f6c_ok A1 x1.length c1 h1 W
  have p0 := fun W h => P6Set_any A0 x0 c0 W h (by omega) r0
  have p1 := fun W h => P6Pick_any 6 (by omega) A1 x1 c1 W h (by omega) r1
  generalize x0.length = n0 at *
  generalize x1.length = n1 at *
  go_enter Try.func6, Try.ntmps6
  go_wp2_with (first | (refine (k _).mono ?_; rintro e w' ⟨rfl, rfl⟩) | (refine (k1 _).mono ?_; rintro e w' ⟨rfl, rfl⟩))
  refine (p0 w s0).mono ?_; rintro e w1 ⟨⟨v, fs, rfl, hO, h8, hFine⟩, hb1⟩
  obtain ⟨A, c, rfl, hs⟩ := hO.slF (fun f hf => (hFine f hf).1) (fun f hf => (hFine f hf).bytes)
  have s1' := s1.kept hb1
  clear p0 k k1 s0 s1 r0 hO
  go_wp2_with (fail)
  refine (p1 w1 s1').mono ?_; rintro e w2 ⟨⟨x, rfl, x0, x1⟩, hb2⟩
  have b2 := bl_call hb1 hb2
  have s2 := hs.kept hb2
  clear p1 s1' r1 hb1 hb2 hs
  have hwr : wrap64 (1 + x) = 1 + x := IntWalk.wrap64_in _ ⟨by omega, by omega⟩
  go_wp2_with (fail)
  clear hwr
  obtain ⟨L, hL⟩ : ∃ L, 1 + x = L := ⟨_, rfl⟩
  rw [hL]
  have hL0 : (0 : Int) ≤ L ∧ L ≤ 6 := by omega
  clear hL
  have hv : vfs fs = true := by
    unfold vfs; rw [List.all_eq_true]
    intro f hf
    exact (hFine f hf).vf
  have ha : askC fs L = 0 := ask_zero_of hv (by omega) hL0
  have hmc : mostC fs L = 0 := by unfold mostC; rw [ha, if_pos (by omega)]; rfl
  have hcl : chosenL fs L = ni (chooseN (gF fs L) fs.length) := by unfold chosenL; rw [if_pos ha, chooseK_N]
  have hml : mostL fs L = ni (loopS (gF fs L) fs.length 0 [] []) := by unfold mostL; rw [if_pos hmc]
  have q1 := fun W h => ChooseDistinct_any fs A c L W h
  have q2 := fun W h => sChooseDistinct_any fs A c L W h
  have q3 := fun W h => MostDistinct_any fs A c L W h
  have q4 := fun W h => sMostDistinct_any fs A c L W h
  rw [ha, hcl] at q1 q2
  rw [hmc, hml] at q3 q4
  have HDv := As.mk (choose_valid (gF fs L) fs.length)
  have HGv := As.mk (great_valid (gF fs L) fs.length)
  have HDG := As.mk (great_longer (gF fs L) fs.length)
  have HDn := As.mk (fun i hi h => dist_more (fs := fs) (n := L) (i := i) hi h)
  have HDp := As.mk (fun i hi h => choose_some (f := gF fs L) (n := fs.length) (i := i) hi h)
  obtain ⟨D, hD⟩ : ∃ D, chooseN (gF fs L) fs.length = D := ⟨_, rfl⟩
  obtain ⟨G, hG⟩ : ∃ G, loopS (gF fs L) fs.length 0 [] [] = G := ⟨_, rfl⟩
  rw [hD] at q1 q2 HDv HDG HDn HDp
  rw [hG] at q3 q4 HGv HDG
  obtain ⟨ds, hds⟩ : ∃ ds, ni D = ds := ⟨_, rfl⟩
  obtain ⟨gs, hgs⟩ : ∃ gs, ni G = gs := ⟨_, rfl⟩
  have Hds := As.mk hds
  have Hgs := As.mk hgs
  rw [hds] at q1 q2
  rw [hgs] at q3 q4
  have hle : ¬ ((gs.length : Int) < (ds.length : Int)) := by
    rw [← hgs, ← hds, ni_length, ni_length]; have := HDG.out; omega
  have hld : decide (gs.length < ds.length) = false := decide_eq_false (by omega)
  have hld2 : decide ((gs.length : Int) < (ds.length : Int)) = false := decide_eq_false hle
  clear hds hgs hD hG hmc hcl hml ha HDG
  refine (q1 _ s2).mono ?_; rintro e w3 ⟨⟨v2, rfl, O2⟩, hb3⟩
  obtain ⟨B2, d2, rfl, S2⟩ := O2.sl
  have b3 := bl_call b2 hb3
  have s3 := s2.kept hb3
  clear O2 q1 s2 hb3 b2
  go_wp2_with (fail)
  refine (q2 _ s3).mono ?_; rintro e w4 ⟨⟨v3, rfl, O3⟩, hb4⟩
  obtain ⟨B3, d3, rfl, S3⟩ := O3.sl
  have b4 := bl_call b3 hb4
  have s4 := s3.kept hb4
  have S2a := S2.kept hb4
  clear O3 q2 s3 hb4 b3 S2
  go_wp2_with (fail)
  refine (q3 _ s4).mono ?_; rintro e w5 ⟨⟨v4, rfl, O4⟩, hb5⟩
  obtain ⟨B4, d4, rfl, S4⟩ := O4.sl
  have b5 := bl_call b4 hb5
  have s5 := s4.kept hb5
  have S2b := S2a.kept hb5
  have S3b := S3.kept hb5
  clear O4 q3 s4 hb5 b4 S2a S3
  go_wp2_with (fail)
  refine (q4 _ s5).mono ?_; rintro e w6 ⟨⟨v5, rfl, O5⟩, hb6⟩
  obtain ⟨B5, d5, rfl, S5⟩ := O5.sl
  have b6 := bl_call b5 hb6
  have s6 := s5.kept hb6
  have S2c := S2b.kept hb6
  have S3c := S3b.kept hb6
  have S4c := S4.kept hb6
  clear O5 q4 s5 hb6 b5 S2b S3b S4
  go_wp2_with (fail)
  refine (SameNumbers_same ds _ _ _ _ _ S2c S3c).mono ?_; rintro e w7 ⟨rfl, hb7⟩
  have b7 := bl_call b6 hb7
  have s7 := s6.kept hb7
  have S3d := S3c.kept hb7
  have S4d := S4c.kept hb7
  have S5d := S5.kept hb7
  clear s6 hb7 b6 S2c S3c S4c S5
  go_wp2_with (fail)
  refine (SameNumbers_same gs _ _ _ _ _ S4d S5d).mono ?_; rintro e w8 ⟨rfl, hb8⟩
  have b8 := bl_call b7 hb8
  have s8 := s7.kept hb8
  have S3e := S3d.kept hb8
  have S5e := S5d.kept hb8
  clear s7 hb8 b7 S3d S4d S5d
  go_wp2_with (fail)
  try simp only [hld]
  try simp only [hld2]
  clear hld hld2 hle
  have hdl8 := As.mk (show ds.length ≤ 8 by
    rw [← Hds.out, ni_length]
    exact Nat.le_trans (rises_len HDv.out.1) h8)
  have hgl8 := As.mk (show gs.length ≤ 8 by
    rw [← Hgs.out, ni_length]
    exact Nat.le_trans (rises_len HGv.out.1) h8)
  go_loopw [15, 16] (fun v i wr => ∃ k : Nat, k ≤ ds.length ∧ i = .int .i64 k ∧ OwnF wr w8.heap.size v (pickF fs (D.take k)) ∧ Below w8.heap.size w8 wr) (fun _ i _ => ds.length - (intOf i).toNat)
  case atStart => exact ⟨0, by omega, rfl, OwnF.lit w8 w8.heap.size (Nat.le_refl _), bl_new (Below.refl _ _) _⟩
  case round =>
    obtain ⟨k, hk, rfl, hO, hb⟩ := hrel
    by_cases hlt : k < ds.length
    · have hlt' : (k : Int) < (ds.length : Int) := by omega
      have hkD : k < D.length := by rw [← ni_length, Hds.out]; exact hlt
      obtain ⟨bb, oo, rfl, hr⟩ := (S3e.kept hb).2 (by omega)
      have e0 : wr.cell? ⟨bb, oo + k, none⟩ = some (.int .i64 ((D.getD k 0 : Nat) : Int)) := by
        have := hr k _ (i64s_get ds k hlt)
        rw [← Hds.out, ni_nth D k hkD] at this
        exact this
      have hdn := (rises_ge HDv.out.1 _ (getD_mem hkD)).2
      have hst := As.mk (pick_take fs D k hkD)
      obtain ⟨d, hd⟩ : ∃ d, D.getD k 0 = d := ⟨_, rfl⟩
      rw [hd] at e0 hdn hst
      have hdn' : (d : Int) < (fs.length : Int) := by omega
      obtain ⟨b, o, rfl, hrf⟩ := (s8.kept hb).2.2.2 (by omega)
      have R := hrf d _ (nthF_get? fs d hdn)
      have hf24 := s8.len d hdn
      have hi := info_len hf24
      obtain ⟨f, hf⟩ : ∃ f, nthF fs d = f := ⟨_, rfl⟩
      rw [hf] at R hf24 hi hst
      clear hr hrf hd hf hkD
      have hO4 := hO.alloc (.cells (u8s f).toArray 38)
      have hbx := hb
      have hb4 := bl_new hbx (.cells (u8s f).toArray 38)
      have hr1 := one_range wr f
      have hB4 : w8.heap.size ≤ (wr.alloc (.cells (u8s f).toArray 38)).heap.size := hb4.size
      have hpl : (pickF fs (D.take k)).length ≤ ds.length := by rw [pickF_length, List.length_take]; omega
      have hdl : ds.length ≤ 8 := by have := hdl8.out; omega
      clear hbx
      go_wp2_with (first | (refine wpList_load_mid rfl 38 _ rfl _ _ rfl _ _ R Try.underlying38 rfl hi ?_) | (refine build1_step rfl f hf24 _ rfl rfl ?_) | (at_builtin; refine appF (w0 := w8) w8.heap.size rfl (.tmp 115) (.tmp 123) rfl u15 (pickF fs (D.take k)) [f] (by simpa using hf24) wr.heap.size 0 1 1 rfl rfl rfl hO4 hr1 hb4 hB4 (by omega) ?_))
      intro v5 w5 O5 hb5 _ _
      rw [← hst.out] at O5
      clear R hO4 hb4 hr1 hB4 hO hb e0
      go_wp2_with (fail)
      go_roundw
      case rel => exact ⟨k + 1, by omega, by go_num, O5, hb5⟩
      case measure => simp [intOf]; omega
    · obtain rfl : k = ds.length := by omega
      have hDl : D.length = ds.length := by rw [← ni_length, Hds.out]
      rw [← hDl, List.take_length] at hO
      have HDl := As.mk hDl
      clear hDl hlt hk
      obtain ⟨w9, rfl⟩ : ∃ x, x = wr := ⟨_, rfl⟩
      have s9 := s8.kept hb
      have S3f := S3e.kept hb
      have S5f := S5e.kept hb
      have b9 := bl_call b8 hb
      have hD24 : ∀ f ∈ pickF fs D, f.length = 24 := fun f hf => by
        obtain ⟨x, hx, rfl⟩ := List.mem_map.1 hf
        exact s9.len x (rises_ge HDv.out.1 x hx).2
      have hDby : ∀ f ∈ pickF fs D, ∀ x ∈ f, 0 ≤ x ∧ x ≤ 255 := fun f hf => by
        obtain ⟨x, hx, rfl⟩ := List.mem_map.1 hf
        exact s9.bytes x (rises_ge HDv.out.1 x hx).2
      have hDv : vfs (pickF fs D) = true := vfs_pick hv (fun x hx => (rises_ge HDv.out.1 x hx).2)
      have hDa : askC (pickF fs D) L = 0 := ask_zero_of hDv (by rw [pickF_length, HDl.out]; have := hdl8.out; omega) hL0
      have hDd : distB (pickF fs D) L = true := dist_pick hDa HDv.out.2
      obtain ⟨A9, c9, rfl, s9C⟩ := hO.slF hD24 hDby
      have HDd := As.mk hDd
      have HDa := As.mk hDa
      clear hO hb s8 S3e S5e b8 hD24 hDby hDv hDd hDa
      obtain ⟨CH, hCH⟩ : ∃ CH, pickF fs D = CH := ⟨_, rfl⟩
      rw [hCH] at s9C HDd HDa HDn ⊢
      have HCH := As.mk (show CH.length ≤ 8 by rw [← hCH, pickF_length, HDl.out]; exact hdl8.out)
      have HCH2 := As.mk hCH
      have HCv := As.mk (show vfs CH = true by rw [← hCH]; exact vfs_pick hv (fun x hx => (rises_ge HDv.out.1 x hx).2))
      clear hCH
      go_wp2_with (fail)
      go_loopw [17, 18] (fun v i wr => ∃ k : Nat, k ≤ gs.length ∧ i = .int .i64 k ∧ OwnF wr w9.heap.size v (pickF fs (G.take k)) ∧ Below w9.heap.size w9 wr) (fun _ i _ => gs.length - (intOf i).toNat)
      case atStart => exact ⟨0, by omega, rfl, OwnF.lit w9 w9.heap.size (Nat.le_refl _), bl_new (Below.refl _ _) _⟩
      case round =>
        obtain ⟨k, hk, rfl, hO, hb⟩ := hrel
        by_cases hlt : k < gs.length
        · have hlt' : (k : Int) < (gs.length : Int) := by omega
          have hkD : k < G.length := by rw [← ni_length, Hgs.out]; exact hlt
          obtain ⟨bb, oo, rfl, hr⟩ := (S5f.kept hb).2 (by omega)
          have e0 : wr.cell? ⟨bb, oo + k, none⟩ = some (.int .i64 ((G.getD k 0 : Nat) : Int)) := by
            have := hr k _ (i64s_get gs k hlt)
            rw [← Hgs.out, ni_nth G k hkD] at this
            exact this
          have hdn := (rises_ge HGv.out.1 _ (getD_mem hkD)).2
          have hst := As.mk (pick_take fs G k hkD)
          obtain ⟨d, hd⟩ : ∃ d, G.getD k 0 = d := ⟨_, rfl⟩
          rw [hd] at e0 hdn hst
          have hdn' : (d : Int) < (fs.length : Int) := by omega
          obtain ⟨b, o, rfl, hrf⟩ := (s9.kept hb).2.2.2 (by omega)
          have R := hrf d _ (nthF_get? fs d hdn)
          have hf24 := s9.len d hdn
          have hi := info_len hf24
          obtain ⟨f, hf⟩ : ∃ f, nthF fs d = f := ⟨_, rfl⟩
          rw [hf] at R hf24 hi hst
          clear hr hrf hd hf hkD
          have hO4 := hO.alloc (.cells (u8s f).toArray 38)
          have hbx := hb
          have hb4 := bl_new hbx (.cells (u8s f).toArray 38)
          have hr1 := one_range wr f
          have hB4 : w9.heap.size ≤ (wr.alloc (.cells (u8s f).toArray 38)).heap.size := hb4.size
          have hpl : (pickF fs (G.take k)).length ≤ gs.length := by rw [pickF_length, List.length_take]; omega
          have hdl : gs.length ≤ 8 := by have := hgl8.out; omega
          clear hbx
          go_wp2_with (first | (refine wpList_load_mid rfl 38 _ rfl _ _ rfl _ _ R Try.underlying38 rfl hi ?_) | (refine build1_step rfl f hf24 _ rfl rfl ?_) | (at_builtin; refine appF (w0 := w9) w9.heap.size rfl (.tmp 132) (.tmp 140) rfl u17 (pickF fs (G.take k)) [f] (by simpa using hf24) wr.heap.size 0 1 1 rfl rfl rfl hO4 hr1 hb4 hB4 (by omega) ?_))
          intro v5 w5 O5 hb5 _ _
          rw [← hst.out] at O5
          clear R hO4 hb4 hr1 hB4 hO hb e0
          go_wp2_with (fail)
          go_roundw
          case rel => exact ⟨k + 1, by omega, by go_num, O5, hb5⟩
          case measure => simp [intOf]; omega
        · obtain rfl : k = gs.length := by omega
          have hGl : G.length = gs.length := by rw [← ni_length, Hgs.out]
          rw [← hGl, List.take_length] at hO
          have HGl := As.mk hGl
          clear hGl hlt hk
          have s10 := s9.kept hb
          have S3g := S3f.kept hb
          have s10C := s9C.kept hb
          have b10 := bl_call b9 hb
          have hG24 : ∀ f ∈ pickF fs G, f.length = 24 := fun f hf => by
            obtain ⟨x, hx, rfl⟩ := List.mem_map.1 hf
            exact s9.len x (rises_ge HGv.out.1 x hx).2
          have hGby : ∀ f ∈ pickF fs G, ∀ x ∈ f, 0 ≤ x ∧ x ≤ 255 := fun f hf => by
            obtain ⟨x, hx, rfl⟩ := List.mem_map.1 hf
            exact s9.bytes x (rises_ge HGv.out.1 x hx).2
          have hGv : vfs (pickF fs G) = true := vfs_pick hv (fun x hx => (rises_ge HGv.out.1 x hx).2)
          have hGa : askC (pickF fs G) L = 0 := ask_zero_of hGv (by rw [pickF_length, HGl.out]; have := hgl8.out; omega) hL0
          have hGd : distB (pickF fs G) L = true := dist_pick hGa HGv.out.2
          obtain ⟨A10, c10, rfl, s10G⟩ := hO.slF hG24 hGby
          have kD := fun A c W h => AreDistinct_any CH A c L W h
          have kG := fun A c W h => AreDistinct_any (pickF fs G) A c L W h
          rw [HDd.out, HDa.out] at kD
          rw [hGd, hGa] at kG
          clear hO hb s9 S3f S5f s9C b9 hG24 hGby hGv hGd hGa
          obtain ⟨GR, hGR⟩ : ∃ GR, pickF fs G = GR := ⟨_, rfl⟩
          rw [hGR] at s10G kG ⊢
          clear hGR
          go_wp2_with (fail)
          refine (kD _ _ _ s10C).mono ?_; rintro e w11 ⟨rfl, hb11⟩
          have s11 := s10.kept hb11
          have S3h := S3g.kept hb11
          have s11C := s10C.kept hb11
          have s11G := s10G.kept hb11
          have b11 := bl_call b10 hb11
          clear s10 S3g s10C s10G hb11 b10
          go_wp2_with (fail)
          refine (kG _ _ _ s11G).mono ?_; rintro e w12 ⟨rfl, hb12⟩
          have s12 := s11.kept hb12
          have S3i := S3h.kept hb12
          have s12C := s11C.kept hb12
          have b12 := bl_call b11 hb12
          clear s11 S3h s11C s11G hb12 b11 kD kG
          go_wp2_with (fail)
          obtain ⟨m, hm⟩ : ∃ m, fs.length = m := ⟨_, rfl⟩
          have HM := As.mk hm
          rw [hm]
          have h8m : m ≤ 8 := by omega
          clear hm
          go_loopw [23] (fun v wr => ∃ i : Nat, i ≤ m ∧ v = .int .i64 i ∧ Below w12.heap.size w12 wr) (fun v _ => m - (intOf v).toNat)
          case atStart => exact ⟨0, by omega, rfl, Below.refl _ _⟩
          case round =>
            obtain ⟨i, hi, rfl, hb⟩ := hrel
            by_cases hlt : i < m
            · have hlt' : (i : Int) < (m : Int) := by omega
              have hi0 : (0 : Int) ≤ (i : Int) := by omega
              have him : i < fs.length := by rw [HM.out]; exact hlt
              have kH := HasNumber_any ds (i : Int) B3 d3 wr (S3i.kept hb)
              by_cases hin : i ∈ D
              · have hmem : (i : Int) ∈ ds := by rw [← Hds.out]; exact List.mem_map.2 ⟨i, hin, rfl⟩
                rw [decide_eq_true hmem] at kH
                clear hmem hin
                go_wp2_with (fail)
                refine kH.mono ?_; rintro e w' ⟨rfl, rfl⟩
                go_wp2_with (fail)
                go_roundw
                case rel => exact ⟨i + 1, by omega, by go_num, hb⟩
                case measure => simp [intOf]; omega
              · have hmem : ¬ (i : Int) ∈ ds := by
                  rw [← Hds.out]; intro h
                  obtain ⟨x, hx, he⟩ := List.mem_map.1 h
                  have : x = i := by omega
                  subst this; exact hin hx
                rw [decide_eq_false hmem] at kH
                have hdm := HDn.out i him hin
                have hDpos : 0 < CH.length := by have := HDp.out i him hin; rw [← HCH2.out, pickF_length]; exact this
                obtain ⟨b, o, hA, hrF⟩ := (s12.kept hb).2.2.2 (by omega)
                have R := hrF i _ (nthF_get? fs i him)
                have hf24 := s12.len i him
                have hfby := s12.bytes i him
                have hfv := vfs_at hv i him
                have hi24 := info_len hf24
                obtain ⟨bc, oc, hA9, hrC⟩ := (s12C.kept hb).2.2.2 hDpos
                have hCf := s12C.2.1
                have hCb := s12C.2.2.1
                have RC : wr.rangeAt bc oc (CH.flatMap u8s) := flat_range (s12C.kept hb) (by rw [hA9])
                obtain ⟨f, hf⟩ : ∃ f, nthF fs i = f := ⟨_, rfl⟩
                rw [hf] at R hf24 hfby hfv hi24 hdm
                have hC24 : ∀ g ∈ CH ++ [f], g.length = 24 := fun g hg => by
                  rcases List.mem_append.1 hg with hg | hg
                  · exact hCf g hg
                  · simp at hg; subst hg; exact hf24
                have hCby : ∀ g ∈ CH ++ [f], ∀ x ∈ g, 0 ≤ x ∧ x ≤ 255 := fun g hg => by
                  rcases List.mem_append.1 hg with hg | hg
                  · exact hCb g hg
                  · simp at hg; subst hg; exact hfby
                have hCv : vfs (CH ++ [f]) = true := by
                  unfold vfs; rw [List.all_append, Bool.and_eq_true]
                  refine ⟨HCv.out, by simp [hfv]⟩
                have hCa : askC (CH ++ [f]) L = 0 := ask_zero_of hCv (by rw [List.length_append]; have := HCH.out; simp; omega) hL0
                have kA := fun A c W h => AreDistinct_any (CH ++ [f]) A c L W h
                rw [hdm, hCa] at kA
                subst hA
                subst hA9
                clear hmem hin hdm hrF hrC hCf hCb hf hCv hCa hfv hfby
                go_wp2_with (fail)
                refine kH.mono ?_; rintro e w' ⟨rfl, rfl⟩
                go_wp2_with (fail)
                have hSt : Below wr.heap.size wr wr.drew ∧ wr.drew.rangeAt b (o + i * 24) (u8s f) := ⟨(Below.refl _ _).drew, R⟩
                refine wp_region_held_drew (S := (fun W => Below wr.heap.size wr W ∧ W.rangeAt b (o + i * 24) (u8s f))) (by kernel_rfl) hSt (fun hHeld => ?_)
                (refine hTake 1 179 (v := .slice (some ⟨bc, oc, none⟩) CH.length c9) rfl rfl (by kernel_rfl) (by kernel_rfl) (by kernel_rfl) (fun _ _ _ h => h) (Or.inl ⟨by rfl, fun W _ => rfl⟩) hHeld ?_; simp only [List.set_cons_zero, List.set_cons_succ])
                (refine hTake 3 181 (v := .slice (some ⟨b, o, none⟩) m c) rfl rfl (by kernel_rfl) (by kernel_rfl) (by kernel_rfl) (fun _ _ _ h => h) (Or.inl ⟨by rfl, fun W _ => rfl⟩) hHeld ?_; simp only [List.set_cons_zero, List.set_cons_succ])
                (refine hTake 4 182 (v := .int .i64 (i : Int)) rfl rfl (by kernel_rfl) (by kernel_rfl) (by kernel_rfl) (fun _ _ _ h => h) (Or.inl ⟨by rfl, fun W _ => rfl⟩) hHeld ?_; simp only [List.set_cons_zero, List.set_cons_succ])
                (refine hTake 5 183 (v := .pointer (some ⟨b, o + i * 24, none⟩)) rfl rfl (by kernel_rfl) (by kernel_rfl) (by kernel_rfl) (fun _ _ _ h => h) (Or.inl ⟨by rfl, fun W _ => by go_simp⟩) hHeld ?_; simp only [List.set_cons_zero, List.set_cons_succ])
                (refine hTake 6 184 rfl rfl (by kernel_rfl) (by kernel_rfl) (by kernel_rfl) (fun _ _ _ h => h) (yieldsIf_load_mid (by rfl) _ _ rfl _ _ rfl (u8s f) _ (fun W h => h.2) Try.underlying38 rfl hi24) hHeld ?_; simp only [List.set_cons_zero, List.set_cons_succ])
                (refine hTake 9 187 (v := .int .i64 L) rfl rfl (by kernel_rfl) (by kernel_rfl) (by kernel_rfl) (fun _ _ _ h => h) (Or.inl ⟨by rfl, fun W _ => rfl⟩) hHeld ?_; simp only [List.set_cons_zero, List.set_cons_succ])
                clear hHeld kH
                have hd0 : Below wr.heap.size wr wr.drew := (Below.refl _ _).drew
                have RC0 : wr.drew.rangeAt bc oc (CH.flatMap u8s) := RC
                obtain ⟨W0, hW0⟩ : ∃ W0, wr.drew = W0 := ⟨_, rfl⟩
                rw [hW0] at hd0 RC0 ⊢
                clear hW0 hSt
                have hW0s := hd0.size
                refine wpAnyH_ready (rs := [0, 7]) (by kernel_rfl) (by simp) (cBuild0 0 178 rfl rfl (by rfl) rfl ⟨⟨bl_new hd0 _, range_kept R (bl_new hd0 _)⟩, ?_⟩ (cBuild1 7 185 rfl rfl (by rfl) f hf24 _ rfl rfl ⟨⟨bl_new hd0 _, range_kept R (bl_new hd0 _)⟩, ?_⟩ AllReadyH.nil))
                · simp only [List.set_cons_zero, List.set_cons_succ]
                  have O1 := OwnF.lit W0 wr.heap.size hd0.size
                  have hd1 := bl_new hd0 (.cells #[] 38)
                  have RC1 := range_kept RC0 (bl_new (Below.refl _ W0) (.cells #[] 38))
                  have hsz1 : (W0.alloc (.cells #[] 38)).heap.size = W0.heap.size + 1 := by simp
                  obtain ⟨W1, hW1⟩ : ∃ W1, W0.alloc (.cells #[] 38) = W1 := ⟨_, rfl⟩
                  rw [hW1] at O1 hd1 RC1 hsz1 ⊢
                  clear hW1
                  refine wpAnyH_ready (rs := [2, 7]) (by kernel_rfl) (by simp) (kAppF (w0 := wr) 2 180 wr.heap.size rfl rfl _ _ rfl (by rfl) (.slice (some ⟨W0.heap.size, 0, none⟩) 0 0) [] CH s12C.2.1 bc oc c9 CH.length rfl rfl rfl O1 RC1 hd1 hd1.size (by have := HCH.out; simp; omega) (fun v2 w2' O2 hd2 hg2 => ⟨⟨hd2, range_kept R hd2⟩, ?_⟩) (cBuild1 7 185 rfl rfl (by rfl) f hf24 _ rfl rfl ⟨⟨bl_new hd1 _, range_kept R (bl_new hd1 _)⟩, ?_⟩ AllReadyH.nil))
                  · simp only [List.set_cons_zero, List.set_cons_succ]
                    refine wpAnyH_ready (rs := [7]) (by kernel_rfl) (by simp) (cBuild1 7 185 rfl rfl (by rfl) f hf24 _ rfl rfl ⟨⟨bl_new hd2 _, range_kept R (bl_new hd2 _)⟩, ?_⟩ AllReadyH.nil)
                    simp only [List.set_cons_zero, List.set_cons_succ]
                    have O3 := O2.alloc (.cells (u8s f).toArray 38)
                    have hd3 := bl_new hd2 (.cells (u8s f).toArray 38)
                    have hrf := one_range w2' f
                    rw [List.nil_append] at O3
                    clear O1 O2 hd1 hd2 RC1 hg2
                    refine wpAnyH_ready (rs := [8]) (by kernel_rfl) (by simp) (kAppF (w0 := wr) 8 186 wr.heap.size rfl rfl _ _ rfl (by rfl) _ CH [f] (by simpa using hf24) _ 0 1 1 rfl rfl rfl O3 hrf hd3 hd3.size (by have := HCH.out; omega) (fun v8 w8 O8 hb8 hg8 => ⟨⟨hb8, range_kept R hb8⟩, ?_⟩) AllReadyH.nil)
                    simp only [List.set_cons_zero, List.set_cons_succ]
                    obtain ⟨A8, c8, rfl, s8'⟩ := O8.slF hC24 hCby
                    have hHeld : Below wr.heap.size wr w8 ∧ w8.rangeAt b (o + i * 24) (u8s f) := ⟨hb8, range_kept R hb8⟩
                    refine hCall 10 188 37 rfl rfl (by kernel_rfl) (args := #[.slice A8 (CH ++ [f]).length c8, .int .i64 L]) (by rfl) (by go_simp) (.tuple #[.bool false, .int .i64 0]) (kA _ _ _ s8') (fun wq hq => ⟨⟨bl_call hb8 hq, range_kept R (bl_call hb8 hq)⟩, ?_⟩)
                    simp only [List.set_cons_zero, List.set_cons_succ]
                    replace hHeld : Below wr.heap.size wr wq ∧ wq.rangeAt b (o + i * 24) (u8s f) := ⟨bl_call hb8 hq, range_kept R (bl_call hb8 hq)⟩
                    (refine hTake 11 177 (v := .tuple #[.bool false, .int .i64 0]) rfl rfl (by kernel_rfl) (by kernel_rfl) (by kernel_rfl) (fun _ _ _ h => h) (Or.inl ⟨by rfl, fun W _ => rfl⟩) hHeld ?_; simp only [List.set_cons_zero, List.set_cons_succ])
                    (refine hTake 12 189 (v := .bool false) rfl rfl (by kernel_rfl) (by kernel_rfl) (by kernel_rfl) (fun _ _ _ h => h) (Or.inl ⟨by rfl, fun W _ => by go_simp⟩) hHeld ?_; simp only [List.set_cons_zero, List.set_cons_succ])
                    (refine hTake 13 190 (v := .int .i64 0) rfl rfl (by kernel_rfl) (by kernel_rfl) (by kernel_rfl) (fun _ _ _ h => h) (Or.inl ⟨by rfl, fun W _ => by go_simp⟩) hHeld ?_; simp only [List.set_cons_zero, List.set_cons_succ])
                    (refine hTake 14 24 (v := .bool false) rfl rfl (by kernel_rfl) (by kernel_rfl) (by kernel_rfl) (fun _ _ _ h => h) (Or.inl ⟨by rfl, fun W _ => rfl⟩) hHeld ?_; simp only [List.set_cons_zero, List.set_cons_succ])
                    (refine hTake 15 25 (v := .int .i64 0) rfl rfl (by kernel_rfl) (by kernel_rfl) (by kernel_rfl) (fun _ _ _ h => h) (Or.inl ⟨by rfl, fun W _ => rfl⟩) hHeld ?_; simp only [List.set_cons_zero, List.set_cons_succ])
                    refine wpAnyH_done (by kernel_rfl) ?_ _
                    have b13 := bl_call hb hHeld.1
                    clear O8 hb8 hg8 hHeld s8' hq
                    go_wp2_with (fail)
                    go_roundw
                    case rel => exact ⟨i + 1, by omega, by go_num, b13⟩
                    case measure => simp [intOf]; omega
                  · simp only [List.set_cons_zero, List.set_cons_succ]
                    have O2 := O1.alloc (.cells (u8s f).toArray 38)
                    have hd2 := bl_new hd1 (.cells (u8s f).toArray 38)
                    have RC2 := range_kept RC1 (bl_new (Below.refl _ W1) (.cells (u8s f).toArray 38))
                    have BF := Blk.mk W1 (u8s f) 38 rfl
                    obtain ⟨W2, hW2⟩ : ∃ W2, W1.alloc (.cells (u8s f).toArray 38) = W2 := ⟨_, rfl⟩
                    rw [hW2] at O2 hd2 RC2 BF ⊢
                    clear hW2
                    refine wpAnyH_ready (rs := [2]) (by kernel_rfl) (by simp) (kAppF (w0 := wr) 2 180 wr.heap.size rfl rfl _ _ rfl (by rfl) (.slice (some ⟨W0.heap.size, 0, none⟩) 0 0) [] CH s12C.2.1 bc oc c9 CH.length rfl rfl rfl O2 RC2 hd2 hd2.size (by have := HCH.out; simp; omega) (fun v2 w2' O3 hd3 hg3 => ⟨⟨hd3, range_kept R hd3⟩, ?_⟩) AllReadyH.nil)
                    simp only [List.set_cons_zero, List.set_cons_succ]
                    have BF3 := BF.byGrown2 hg3 (by simp [Value.ownBlock]; omega)
                    have hrf : w2'.rangeAt W1.heap.size 0 ([f].flatMap u8s) := by have := BF3.range; simpa using this
                    rw [List.nil_append] at O3
                    clear O1 O2 hd1 hd2 RC1 RC2 BF BF3 hg3
                    refine wpAnyH_ready (rs := [8]) (by kernel_rfl) (by simp) (kAppF (w0 := wr) 8 186 wr.heap.size rfl rfl _ _ rfl (by rfl) _ CH [f] (by simpa using hf24) _ 0 1 1 rfl rfl rfl O3 hrf hd3 hd3.size (by have := HCH.out; omega) (fun v8 w8 O8 hb8 hg8 => ⟨⟨hb8, range_kept R hb8⟩, ?_⟩) AllReadyH.nil)
                    simp only [List.set_cons_zero, List.set_cons_succ]
                    obtain ⟨A8, c8, rfl, s8'⟩ := O8.slF hC24 hCby
                    have hHeld : Below wr.heap.size wr w8 ∧ w8.rangeAt b (o + i * 24) (u8s f) := ⟨hb8, range_kept R hb8⟩
                    refine hCall 10 188 37 rfl rfl (by kernel_rfl) (args := #[.slice A8 (CH ++ [f]).length c8, .int .i64 L]) (by rfl) (by go_simp) (.tuple #[.bool false, .int .i64 0]) (kA _ _ _ s8') (fun wq hq => ⟨⟨bl_call hb8 hq, range_kept R (bl_call hb8 hq)⟩, ?_⟩)
                    simp only [List.set_cons_zero, List.set_cons_succ]
                    replace hHeld : Below wr.heap.size wr wq ∧ wq.rangeAt b (o + i * 24) (u8s f) := ⟨bl_call hb8 hq, range_kept R (bl_call hb8 hq)⟩
                    (refine hTake 11 177 (v := .tuple #[.bool false, .int .i64 0]) rfl rfl (by kernel_rfl) (by kernel_rfl) (by kernel_rfl) (fun _ _ _ h => h) (Or.inl ⟨by rfl, fun W _ => rfl⟩) hHeld ?_; simp only [List.set_cons_zero, List.set_cons_succ])
                    (refine hTake 12 189 (v := .bool false) rfl rfl (by kernel_rfl) (by kernel_rfl) (by kernel_rfl) (fun _ _ _ h => h) (Or.inl ⟨by rfl, fun W _ => by go_simp⟩) hHeld ?_; simp only [List.set_cons_zero, List.set_cons_succ])
                    (refine hTake 13 190 (v := .int .i64 0) rfl rfl (by kernel_rfl) (by kernel_rfl) (by kernel_rfl) (fun _ _ _ h => h) (Or.inl ⟨by rfl, fun W _ => by go_simp⟩) hHeld ?_; simp only [List.set_cons_zero, List.set_cons_succ])
                    (refine hTake 14 24 (v := .bool false) rfl rfl (by kernel_rfl) (by kernel_rfl) (by kernel_rfl) (fun _ _ _ h => h) (Or.inl ⟨by rfl, fun W _ => rfl⟩) hHeld ?_; simp only [List.set_cons_zero, List.set_cons_succ])
                    (refine hTake 15 25 (v := .int .i64 0) rfl rfl (by kernel_rfl) (by kernel_rfl) (by kernel_rfl) (fun _ _ _ h => h) (Or.inl ⟨by rfl, fun W _ => rfl⟩) hHeld ?_; simp only [List.set_cons_zero, List.set_cons_succ])
                    refine wpAnyH_done (by kernel_rfl) ?_ _
                    have b13 := bl_call hb hHeld.1
                    clear O8 hb8 hg8 hHeld s8' hq
                    go_wp2_with (fail)
                    go_roundw
                    case rel => exact ⟨i + 1, by omega, by go_num, b13⟩
                    case measure => simp [intOf]; omega
                · simp only [List.set_cons_zero, List.set_cons_succ]
                  have hd1 := bl_new hd0 (.cells (u8s f).toArray 38)
                  have RC1 := range_kept RC0 (bl_new (Below.refl _ W0) (.cells (u8s f).toArray 38))
                  have BF := Blk.mk W0 (u8s f) 38 rfl
                  have hsz1 : (W0.alloc (.cells (u8s f).toArray 38)).heap.size = W0.heap.size + 1 := by simp
                  obtain ⟨W1, hW1⟩ : ∃ W1, W0.alloc (.cells (u8s f).toArray 38) = W1 := ⟨_, rfl⟩
                  rw [hW1] at hd1 RC1 BF hsz1 ⊢
                  clear hW1
                  refine wpAnyH_ready (rs := [0]) (by kernel_rfl) (by simp) (cBuild0 0 178 rfl rfl (by rfl) rfl ⟨⟨bl_new hd1 _, range_kept R (bl_new hd1 _)⟩, ?_⟩ AllReadyH.nil)
                  simp only [List.set_cons_zero, List.set_cons_succ]
                  have O2 := OwnF.lit W1 wr.heap.size hd1.size
                  have hd2 := bl_new hd1 (.cells #[] 38)
                  have RC2 := range_kept RC1 (bl_new (Below.refl _ W1) (.cells #[] 38))
                  have BF2 := BF.alloc (.cells #[] 38)
                  obtain ⟨W2, hW2⟩ : ∃ W2, W1.alloc (.cells #[] 38) = W2 := ⟨_, rfl⟩
                  rw [hW2] at O2 hd2 RC2 BF2 ⊢
                  clear hW2
                  refine wpAnyH_ready (rs := [2]) (by kernel_rfl) (by simp) (kAppF (w0 := wr) 2 180 wr.heap.size rfl rfl _ _ rfl (by rfl) (.slice (some ⟨W1.heap.size, 0, none⟩) 0 0) [] CH s12C.2.1 bc oc c9 CH.length rfl rfl rfl O2 RC2 hd2 hd2.size (by have := HCH.out; simp; omega) (fun v2 w2' O3 hd3 hg3 => ⟨⟨hd3, range_kept R hd3⟩, ?_⟩) AllReadyH.nil)
                  simp only [List.set_cons_zero, List.set_cons_succ]
                  have BF3 := BF2.byGrown2 hg3 (by simp [Value.ownBlock]; omega)
                  have hrf : w2'.rangeAt W0.heap.size 0 ([f].flatMap u8s) := by have := BF3.range; simpa using this
                  rw [List.nil_append] at O3
                  clear O2 hd1 hd2 RC1 RC2 BF BF2 BF3 hg3
                  refine wpAnyH_ready (rs := [8]) (by kernel_rfl) (by simp) (kAppF (w0 := wr) 8 186 wr.heap.size rfl rfl _ _ rfl (by rfl) _ CH [f] (by simpa using hf24) _ 0 1 1 rfl rfl rfl O3 hrf hd3 hd3.size (by have := HCH.out; omega) (fun v8 w8 O8 hb8 hg8 => ⟨⟨hb8, range_kept R hb8⟩, ?_⟩) AllReadyH.nil)
                  simp only [List.set_cons_zero, List.set_cons_succ]
                  obtain ⟨A8, c8, rfl, s8'⟩ := O8.slF hC24 hCby
                  have hHeld : Below wr.heap.size wr w8 ∧ w8.rangeAt b (o + i * 24) (u8s f) := ⟨hb8, range_kept R hb8⟩
                  refine hCall 10 188 37 rfl rfl (by kernel_rfl) (args := #[.slice A8 (CH ++ [f]).length c8, .int .i64 L]) (by rfl) (by go_simp) (.tuple #[.bool false, .int .i64 0]) (kA _ _ _ s8') (fun wq hq => ⟨⟨bl_call hb8 hq, range_kept R (bl_call hb8 hq)⟩, ?_⟩)
                  simp only [List.set_cons_zero, List.set_cons_succ]
                  replace hHeld : Below wr.heap.size wr wq ∧ wq.rangeAt b (o + i * 24) (u8s f) := ⟨bl_call hb8 hq, range_kept R (bl_call hb8 hq)⟩
                  (refine hTake 11 177 (v := .tuple #[.bool false, .int .i64 0]) rfl rfl (by kernel_rfl) (by kernel_rfl) (by kernel_rfl) (fun _ _ _ h => h) (Or.inl ⟨by rfl, fun W _ => rfl⟩) hHeld ?_; simp only [List.set_cons_zero, List.set_cons_succ])
                  (refine hTake 12 189 (v := .bool false) rfl rfl (by kernel_rfl) (by kernel_rfl) (by kernel_rfl) (fun _ _ _ h => h) (Or.inl ⟨by rfl, fun W _ => by go_simp⟩) hHeld ?_; simp only [List.set_cons_zero, List.set_cons_succ])
                  (refine hTake 13 190 (v := .int .i64 0) rfl rfl (by kernel_rfl) (by kernel_rfl) (by kernel_rfl) (fun _ _ _ h => h) (Or.inl ⟨by rfl, fun W _ => by go_simp⟩) hHeld ?_; simp only [List.set_cons_zero, List.set_cons_succ])
                  (refine hTake 14 24 (v := .bool false) rfl rfl (by kernel_rfl) (by kernel_rfl) (by kernel_rfl) (fun _ _ _ h => h) (Or.inl ⟨by rfl, fun W _ => rfl⟩) hHeld ?_; simp only [List.set_cons_zero, List.set_cons_succ])
                  (refine hTake 15 25 (v := .int .i64 0) rfl rfl (by kernel_rfl) (by kernel_rfl) (by kernel_rfl) (fun _ _ _ h => h) (Or.inl ⟨by rfl, fun W _ => rfl⟩) hHeld ?_; simp only [List.set_cons_zero, List.set_cons_succ])
                  refine wpAnyH_done (by kernel_rfl) ?_ _
                  have b13 := bl_call hb hHeld.1
                  clear O8 hb8 hg8 hHeld s8' hq
                  go_wp2_with (fail)
                  go_roundw
                  case rel => exact ⟨i + 1, by omega, by go_num, b13⟩
                  case measure => simp [intOf]; omega
            · obtain rfl : i = m := by omega
              have s13 := s12.kept hb
              have b13 := bl_call b12 hb
              have hsc : setC fs = 0 := by unfold setC; rw [if_pos hv, if_neg (by omega)]
              have kN := fun W h => NearestPair_any fs A c W h
              have kS := fun W h => sNearestPair_any fs A c W h
              have hcode : nearC fs = if 2 ≤ i then 0 else 6 := by unfold nearC; rw [if_pos hsc, HM.out]
              have hleast := fun h2 k j hkj hj => near_least (fs := fs) (fun x y _ _ => (farP_bd fs x y).1) h2 (k := k) (i := j) hkj hj
              have hrr : 2 ≤ fs.length → nearR fs = allN (farP fs) fs.length none3 fs.length := fun h2 => by unfold nearR; rw [if_pos ⟨hsc, h2⟩]
              rw [HM.out] at kN kS hleast hrr
              rw [hcode] at kN kS
              have hleast2 : ∀ k j, 2 ≤ i → k < j → j < i → (nearR fs).2.2 ≤ farP fs k j := fun k j h2 h3 h4 => by rw [hrr h2]; exact hleast h2 k j h3 h4
              have HLe := As.mk hleast2
              clear hleast hrr hleast2 hcode hsc
              obtain ⟨r, hr⟩ : ∃ r, nearR fs = r := ⟨_, rfl⟩
              rw [hr] at kN kS HLe
              clear hr s12 S3i s12C b12 hb hlt hi
              obtain ⟨ra, rb, rk⟩ := r
              simp only at kN kS HLe
              by_cases h2 : 2 ≤ i
              · rw [if_pos h2] at kN kS
                go_wp2_with (fail)
                refine (kN _ s13).mono ?_; rintro e w14 ⟨rfl, hb14⟩
                have s14 := s13.kept hb14
                have b14 := bl_call b13 hb14
                clear s13 b13 hb14 kN
                go_wp2_with (fail)
                refine (kS _ s14).mono ?_; rintro e w15 ⟨rfl, hb15⟩
                have s15 := s14.kept hb15
                have b15 := bl_call b14 hb15
                clear s14 b14 hb15 kS
                have hne1 : (ra != ra) = false := by simp
                have hne2 : (rb != rb) = false := by simp
                have hne3 : (rk != rk) = false := by simp
                go_wp2_with (fail)
                clear hne1 hne2 hne3
                go_loopw [34] (fun v wr => ∃ j : Nat, j ≤ i ∧ v = .int .i64 j ∧ Below w15.heap.size w15 wr) (fun v _ => i - (intOf v).toNat)
                case atStart => exact ⟨0, by omega, rfl, Below.refl _ _⟩
                case round =>
                  obtain ⟨j, hj, rfl, hb⟩ := hrel
                  by_cases hlt : j < i
                  · have hlt' : (j : Int) < (i : Int) := by omega
                    go_wp2_with (fail)
                    go_loopw [35] (fun v wr => ∃ k : Nat, k ≤ j ∧ v = .int .i64 k ∧ Below w15.heap.size w15 wr) (fun v _ => j - (intOf v).toNat)
                    case atStart => exact ⟨0, by omega, rfl, hb⟩
                    case round =>
                      obtain ⟨k, hk, rfl, hb⟩ := hrel
                      by_cases hkj : k < j
                      · have hkj' : (k : Int) < (j : Int) := by omega
                        have hki' : (k : Int) < (i : Int) := by omega
                        have hkf : k < fs.length := by rw [HM.out]; omega
                        have hjf : j < fs.length := by rw [HM.out]; exact hlt
                        have hle := HLe.out k j h2 hkj hlt
                        obtain ⟨b, o, hA, hrF⟩ := (s15.kept hb).2.2.2 (by omega)
                        have Rk := hrF k _ (nthF_get? fs k hkf)
                        have Rj := hrF j _ (nthF_get? fs j hjf)
                        have lk := s15.len k hkf
                        have lj := s15.len j hjf
                        have ik := info_len lk
                        have ij := info_len lj
                        have kB := fun W => BlurDistance_any (nthF fs k) (nthF fs j) lk lj (s15.bytes k hkf) (s15.bytes j hjf) W
                        have hvv : (vf (nthF fs k) && vf (nthF fs j)) = true := by rw [vfs_at hv k hkf, vfs_at hv j hjf]; rfl
                        have hfn : farN (nthF fs k) (nthF fs j) = farP fs k j := by unfold farN; rw [if_pos hvv]; rfl
                        rw [hvv, hfn] at kB
                        clear hvv hfn hrF
                        obtain ⟨dd, hdd⟩ : ∃ dd, farP fs k j = dd := ⟨_, rfl⟩
                        rw [hdd] at kB hle
                        obtain ⟨fk, hfk⟩ : ∃ f, nthF fs k = f := ⟨_, rfl⟩
                        obtain ⟨fj, hfj⟩ : ∃ f, nthF fs j = f := ⟨_, rfl⟩
                        rw [hfk] at kB Rk ik lk
                        rw [hfj] at kB Rj ij lj
                        subst hA
                        clear hdd hfk hfj hkf hjf
                        unfold fl at kB
                        have hlt3 : decide (dd < rk) = false := decide_eq_false (by omega)
                        have hlt4 : ¬ dd < rk := by omega
                        go_wp2_with (fail)
                        refine wp_region_held_drew (S := (fun W => Below wr.heap.size wr W ∧ W.rangeAt b (o + k * 24) (u8s fk) ∧ W.rangeAt b (o + j * 24) (u8s fj))) (by kernel_rfl) ⟨(Below.refl _ _).drew, Rk, Rj⟩ (fun hHeld => ?_)
                        (refine hTake 0 249 (v := .slice (some ⟨b, o, none⟩) i c) rfl rfl (by kernel_rfl) (by kernel_rfl) (by kernel_rfl) (fun _ _ _ h => h) (Or.inl ⟨by rfl, fun W _ => rfl⟩) hHeld ?_; simp only [List.set_cons_zero, List.set_cons_succ])
                        (refine hTake 1 250 (v := .int .i64 (k : Int)) rfl rfl (by kernel_rfl) (by kernel_rfl) (by kernel_rfl) (fun _ _ _ h => h) (Or.inl ⟨by rfl, fun W _ => rfl⟩) hHeld ?_; simp only [List.set_cons_zero, List.set_cons_succ])
                        (refine hTake 2 251 (v := .pointer (some ⟨b, o + k * 24, none⟩)) rfl rfl (by kernel_rfl) (by kernel_rfl) (by kernel_rfl) (fun _ _ _ h => h) (Or.inl ⟨by rfl, fun W _ => by go_simp⟩) hHeld ?_; simp only [List.set_cons_zero, List.set_cons_succ])
                        (refine hTake 3 252 rfl rfl (by kernel_rfl) (by kernel_rfl) (by kernel_rfl) (fun _ _ _ h => h) (yieldsIf_load_mid (by rfl) _ _ rfl _ _ rfl (u8s fk) _ (fun W h => h.2.1) Try.underlying38 rfl ik) hHeld ?_; simp only [List.set_cons_zero, List.set_cons_succ])
                        (refine hTake 4 253 (v := .slice (some ⟨b, o, none⟩) i c) rfl rfl (by kernel_rfl) (by kernel_rfl) (by kernel_rfl) (fun _ _ _ h => h) (Or.inl ⟨by rfl, fun W _ => rfl⟩) hHeld ?_; simp only [List.set_cons_zero, List.set_cons_succ])
                        (refine hTake 5 254 (v := .int .i64 (j : Int)) rfl rfl (by kernel_rfl) (by kernel_rfl) (by kernel_rfl) (fun _ _ _ h => h) (Or.inl ⟨by rfl, fun W _ => rfl⟩) hHeld ?_; simp only [List.set_cons_zero, List.set_cons_succ])
                        (refine hTake 6 255 (v := .pointer (some ⟨b, o + j * 24, none⟩)) rfl rfl (by kernel_rfl) (by kernel_rfl) (by kernel_rfl) (fun _ _ _ h => h) (Or.inl ⟨by rfl, fun W _ => by go_simp⟩) hHeld ?_; simp only [List.set_cons_zero, List.set_cons_succ])
                        (refine hTake 7 256 rfl rfl (by kernel_rfl) (by kernel_rfl) (by kernel_rfl) (fun _ _ _ h => h) (yieldsIf_load_mid (by rfl) _ _ rfl _ _ rfl (u8s fj) _ (fun W h => h.2.2) Try.underlying38 rfl ij) hHeld ?_; simp only [List.set_cons_zero, List.set_cons_succ])
                        refine hCall 8 257 41 rfl rfl (by kernel_rfl) (args := #[.agg (u8s fk).toArray, .agg (u8s fj).toArray]) (by rfl) (by go_simp) (.tuple #[.int .i64 dd, .int .i64 0]) (kB _) (fun wq hq => ⟨⟨bl_call hHeld.1 hq, range_kept hHeld.2.1 hq, range_kept hHeld.2.2 hq⟩, ?_⟩)
                        simp only [List.set_cons_zero, List.set_cons_succ]
                        replace hHeld : Below wr.heap.size wr wq ∧ wq.rangeAt b (o + k * 24) (u8s fk) ∧ wq.rangeAt b (o + j * 24) (u8s fj) := ⟨bl_call hHeld.1 hq, range_kept hHeld.2.1 hq, range_kept hHeld.2.2 hq⟩
                        (refine hTake 9 248 (v := .tuple #[.int .i64 dd, .int .i64 0]) rfl rfl (by kernel_rfl) (by kernel_rfl) (by kernel_rfl) (fun _ _ _ h => h) (Or.inl ⟨by rfl, fun W _ => rfl⟩) hHeld ?_; simp only [List.set_cons_zero, List.set_cons_succ])
                        (refine hTake 10 258 (v := .int .i64 dd) rfl rfl (by kernel_rfl) (by kernel_rfl) (by kernel_rfl) (fun _ _ _ h => h) (Or.inl ⟨by rfl, fun W _ => by go_simp⟩) hHeld ?_; simp only [List.set_cons_zero, List.set_cons_succ])
                        (refine hTake 11 259 (v := .int .i64 0) rfl rfl (by kernel_rfl) (by kernel_rfl) (by kernel_rfl) (fun _ _ _ h => h) (Or.inl ⟨by rfl, fun W _ => by go_simp⟩) hHeld ?_; simp only [List.set_cons_zero, List.set_cons_succ])
                        (refine hTake 12 36 (v := .int .i64 dd) rfl rfl (by kernel_rfl) (by kernel_rfl) (by kernel_rfl) (fun _ _ _ h => h) (Or.inl ⟨by rfl, fun W _ => rfl⟩) hHeld ?_; simp only [List.set_cons_zero, List.set_cons_succ])
                        (refine hTake 13 37 (v := .int .i64 0) rfl rfl (by kernel_rfl) (by kernel_rfl) (by kernel_rfl) (fun _ _ _ h => h) (Or.inl ⟨by rfl, fun W _ => rfl⟩) hHeld ?_; simp only [List.set_cons_zero, List.set_cons_succ])
                        refine wpAnyH_done (by kernel_rfl) ?_ _
                        have b16 := bl_call hb hHeld.1
                        clear hHeld hq Rk Rj kB
                        go_wp2_with (fail)
                        clear hlt3 hlt4
                        go_roundw
                        case rel => exact ⟨k + 1, by omega, by go_num, b16⟩
                        case measure => simp [intOf]; omega
                      · obtain rfl : k = j := by omega
                        go_wp2_with (fail)
                        go_roundw
                        case rel => exact ⟨k + 1, by omega, by go_num, hb⟩
                        case measure => simp [intOf]; omega
                  · obtain rfl : j = i := by omega
                    go_wp2_with (fail)
                    go_ret
                    exact ⟨rfl, bl_call b15 hb⟩
              · rw [if_neg h2] at kN kS
                have h2' : (i : Int) < 2 := by omega
                go_wp2_with (fail)
                refine (kN _ s13).mono ?_; rintro e w14 ⟨rfl, hb14⟩
                have s14 := s13.kept hb14
                have b14 := bl_call b13 hb14
                clear s13 b13 hb14 kN
                go_wp2_with (fail)
                refine (kS _ s14).mono ?_; rintro e w15 ⟨rfl, hb15⟩
                have s15 := s14.kept hb15
                have b15 := bl_call b14 hb15
                clear s14 b14 hb15 kS
                have hne1 : (ra != ra) = false := by simp
                have hne2 : (rb != rb) = false := by simp
                have hne3 : (rk != rk) = false := by simp
                go_wp2_with (fail)
                go_ret
                exact ⟨rfl, b15⟩
end Go.Proofs.Ytjppoejkfpeicaa
