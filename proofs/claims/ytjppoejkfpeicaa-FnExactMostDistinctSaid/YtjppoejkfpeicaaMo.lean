/- Contracts: MostDistinct (impl). -/
import Derived.Test.YtjppoejkfpeicaaMl
import Derived.Test.YtjppoejkfpeicaaG11
set_option linter.unusedVariables false
set_option linter.unusedSimpArgs false
namespace Go.Proofs.Ytjppoejkfpeicaa
open Go.RowKit

/-- Flags k and i are far enough from each other. -/
def gF (fs : List (List Int)) (n : Int) (k i : Nat) : Bool := decide (n ≤ farP fs k i)
def mostC (fs : List (List Int)) (n : Int) : Int := first2 (askC fs n) (if fs.length ≤ 12 then 0 else 7)
def mostL (fs : List (List Int)) (n : Int) : List Int := if mostC fs n = 0 then ni (loopS (gF fs n) fs.length 0 [] []) else []
theorem most_ok {fs : List (List Int)} {n : Int} (h : mostC fs n = 0) : askC fs n = 0 ∧ fs.length ≤ 12 := by
  unfold mostC first2 at h
  split at h
  · split at h
    · exact ⟨by assumption, by assumption⟩
    · omega
  · contradiction
theorem rises_lt {n : Nat} : ∀ {x : List Nat} {k : Nat}, risesN n k x → ∀ j i, i < j → j < x.length → x.getD i 0 < x.getD j 0 ∧ x.getD j 0 < n
  | [], _, _, j, i, _, hj => by simp at hj
  | a :: x, k, ⟨h1, h2, h3⟩, 0, i, hi, hj => by omega
  | a :: x, k, ⟨h1, h2, h3⟩, j + 1, i, hi, hj => by
    have hj' : j < x.length := by simpa using hj
    have hm : x.getD j 0 ∈ x := by rw [List.getD_eq_getElem?_getD, List.getElem?_eq_getElem hj']; exact List.getElem_mem hj'
    have hge := rises_ge h3 _ hm
    cases i with
    | zero => simp only [List.getD_cons_zero, List.getD_cons_succ]; omega
    | succ i => simpa using rises_lt h3 j i (by omega) hj'
theorem sizeF_any (A : Option Addr) (n c : Nat) (w : World) (hn : n ≤ 9223372036854775807) : Calls Try.prog 53 #[.slice A n c] w fun e w' => e = .returned (.int .i64 n) ∧ w = w' := by
  go_enter Try.func53, Try.ntmps53
  go_wp2
  go_ret
  exact ⟨rfl, rfl⟩
section
variable {P : Program} {ops : Array Oper} {Q : Exit → Act → World → Prop} {S : World → Prop} {listed : Array Bool} {ts : List Value} {ds : List Deferred} {w : World} {fuel : Nat}
/-- The one operation that may come up is a store into a map. -/
theorem hUpd (i : Nat) {oi : Oper} (hi : ops[i]? = some oi) (hd : oi.dst = none) (hr : Region.ready .any ops listed = [i])
    (hw : Region.wanted oi (yielded ops ts.toArray) = true) (t : TypeId) (m x v : Operand) (ho : oi.op = .mapUpdate t m x v) {vm vx vv : Value}
    (hm : (Act.mk ts.toArray ds).eval m = vm) (hx : (Act.mk ts.toArray ds).eval x = vx) (hv : (Act.mk ts.toArray ds).eval v = vv) {w' : World} (hrun : (Instr.mapUpdate t vm vx vv).run P w = .ok () w')
    (hS : S w') (h2 : wpAnyH P .any ops Q S fuel (listed.setIfInBounds i true) ⟨ts.toArray, ds⟩ w') : wpAnyH P .any ops Q S (fuel + 1) listed ⟨ts.toArray, ds⟩ w := by
  refine wpAnyH_ready (rs := [i]) hr (by simp) (AllReadyH.cons hi (fun K hK => ?_) AllReadyH.nil)
  rw [if_pos hw]
  unfold Oper.wp
  simp only [execOp, ho, hm, hx, hv, hrun, Sem.run_bind, Sem.run_pure, Result.andThen_ok]
  refine hK.out _ _ hS (fun _ => ?_)
  rw [hd]
  exact h2
end
/-- What is kept through a round. -/
def KF (w : World) (B M b o : Nat) (k i : Nat) (fk fi : List Int) (W : World) : Prop :=
  Below w.heap.size w W ∧ W.cell? ⟨B, 0, none⟩ = some (.map (some M)) ∧ W.rangeAt b (o + k * 24) (u8s fk) ∧ W.rangeAt b (o + i * 24) (u8s fi) ∧ w.heap.size ≤ W.heap.size
theorem KF.call {w : World} {B M b o k i : Nat} {fk fi : List Int} {W W' : World} (h : KF w B M b o k i fk fi W) (hb : Below W.heap.size W W') : KF w B M b o k i fk fi W' :=
  ⟨bl_call h.1 hb, (hb.cell (World.block_lt_of_cell? W _ h.2.1)).trans h.2.1, range_kept h.2.2.1 hb, range_kept h.2.2.2.1 hb, Nat.le_trans h.2.2.2.2 hb.size⟩

set_option maxRecDepth 100000 in
set_option maxHeartbeats 4000000 in
theorem MostDistinct_any (fs : List (List Int)) (A : Option Addr) (c : Nat) (n : Int) (w : World) (hs : SlF w A fs) :
    Calls Try.prog 17 #[.slice A fs.length c, .int .i64 n] w fun e w' => Gave64 (mostL fs n) (mostC fs n) w.heap.size e w' ∧ Below w.heap.size w w' := by
  have k1 := setCode_any fs A c n w hs
  have hbig := hs.1
  have HC := As.mk (show mostC fs n = first2 (askC fs n) (if fs.length ≤ 12 then 0 else 7) from rfl)
  by_cases h0 : mostC fs n = 0
  · obtain ⟨ha, h12⟩ := most_ok h0
    obtain ⟨hv, h40⟩ := ask_ok ha
    have HL := As.mk (show mostL fs n = ni (loopS (gF fs n) fs.length 0 [] []) by unfold mostL; rw [if_pos h0])
    have HB := As.mk (best_both (gF fs n) fs.length)
    rw [ha] at k1
    rw [h0]
    obtain ⟨m, hm⟩ : ∃ m, fs.length = m := ⟨_, rfl⟩
    have HM := As.mk hm
    have h12' : (m : Int) ≤ 12 := by omega
    rw [hm] at k1 hbig h12 ⊢
    clear hm h0 ha HC h40
    go_enter Try.func17, Try.ntmps17
    go_wp2_with (fail)
    refine (k1).mono ?_; rintro e w1 ⟨rfl, hb1⟩
    have X2 := Blk.mk w1 (i64s [0, 0]) 2 rfl
    have c1 := bl_new hb1 (.cells #[.int .i64 0, .int .i64 0] 2)
    have key := firstOf2_any 0 0 w1.heap.size 0 2 (w1.alloc (.cells #[.int .i64 0, .int .i64 0] 2)) X2.range
    have hf0 : first2 0 0 = 0 := rfl
    rw [hf0] at key
    have hmm := @run_makeMap Try.prog
    have ksz := fun W => sizeF_any A m c W hbig
    go_wp2_with (first | (go_at_call 52; refine (unless_any _ _ _).mono ?_; rintro e w' ⟨rfl, rfl⟩) | (go_at_call 51; refine (key).mono ?_; rintro e w' ⟨rfl, rfl⟩) | (go_at_call 53; refine (ksz _).mono ?_; rintro e w' ⟨rfl, rfl⟩))
    have hF0 := (FarM.made (w1.alloc (.cells #[.int .i64 0, .int .i64 0] 2)) (gF fs n))
    have hsz : (w1.alloc (.cells #[.int .i64 0, .int .i64 0] 2)).heap.size = w1.heap.size + 1 := by simp
    rw [hsz] at hF0
    have hB0 : ((((w1.alloc (.cells #[.int .i64 0, .int .i64 0] 2)).alloc (.map #[] 0)).alloc (.cells #[.map (some (w1.heap.size + 1))] 70)) : World).cell? ⟨w1.heap.size + 1 + 1, 0, none⟩ = some (.map (some (w1.heap.size + 1))) := by
      have := (Blk.mk ((w1.alloc (.cells #[.int .i64 0, .int .i64 0] 2)).alloc (.map #[] 0)) [.map (some (w1.heap.size + 1))] 70 (b := w1.heap.size + 1 + 1) (by simp)).at 0
      simpa using this
    have hF1 := hF0.kept (bl_new (Below.refl _ _) (.cells #[.map (some (w1.heap.size + 1))] 70))
    have c3 := bl_new (bl_new c1 (.map #[] 0)) (.cells #[.map (some (w1.heap.size + 1))] 70)
    have hs3 := hs.kept c3
    have hge : w.heap.size ≤ w1.heap.size := hb1.size
    generalize ((w1.alloc (.cells #[.int .i64 0, .int .i64 0] 2)).alloc (.map #[] 0)).alloc (.cells #[.map (some (w1.heap.size + 1))] 70) = W0 at *
    clear key hf0 hmm ksz hF0 hsz X2 c1 k1
    obtain ⟨M, hMd⟩ : ∃ M, w1.heap.size + 1 = M := ⟨_, rfl⟩
    rw [hMd] at hF1 hB0 ⊢
    have hMw : w.heap.size ≤ M := by omega
    clear hMd hge hb1
    obtain ⟨B, hBd⟩ : ∃ B, M + 1 = B := ⟨_, rfl⟩
    have hBM := As.mk (show B ≠ M by omega)
    rw [hBd] at hB0 ⊢
    clear hBd
    go_loopw [25] (fun v wr => ∃ i : Nat, i ≤ m ∧ v = .int .i64 i ∧ FarM wr M (i * 12) (gF fs n) (fun k' j => k' < j ∧ j < i) ∧ wr.cell? ⟨B, 0, none⟩ = some (.map (some M)) ∧ Below w.heap.size w wr) (fun v _ => m - (intOf v).toNat)
    case atStart => exact ⟨0, by omega, rfl, hF1.wider (by omega) (fun k' j h => by omega), hB0, c3⟩
    case round =>
      obtain ⟨i, hi, rfl, hF, hB, hb⟩ := hrel
      by_cases hlt : i < m
      · have hlt' : (i : Int) < (m : Int) := by omega
        have hi12 := As.mk (show i < 12 by omega)
        have hi0 : (0 : Int) ≤ (i : Int) := by omega
        go_wp2_with (fail)
        go_loopw [29] (fun v wr => ∃ k : Nat, k ≤ i ∧ v = .int .i64 k ∧ FarM wr M (i * 12 + k) (gF fs n) (fun k' j => (k' < j ∧ j < i) ∨ (j = i ∧ k' < k)) ∧ wr.cell? ⟨B, 0, none⟩ = some (.map (some M)) ∧ Below w.heap.size w wr) (fun v _ => i - (intOf v).toNat)
        case atStart => exact ⟨0, by omega, rfl, hF.wider (by omega) (fun k' j h => by omega), hB, hb⟩
        case round =>
          obtain ⟨k, hk, rfl, hF, hB, hb⟩ := hrel
          by_cases hki : k < i
          · have hki' : (k : Int) < (i : Int) := by omega
            have hkm' : (k : Int) < (m : Int) := by omega
            have hk0 : (0 : Int) ≤ (k : Int) := by omega
            obtain ⟨b, o, rfl, hr⟩ := hs.2.2.2 (by rw [HM.out]; omega)
            have hkf : k < fs.length := by rw [HM.out]; omega
            have hif : i < fs.length := by rw [HM.out]; omega
            have lk := hs.len k hkf
            have li := hs.len i hif
            have hi1 := info_len lk
            have hi2 := info_len li
            have kput := fun W (h : FarM W M (i * 12 + k) (gF fs n) (fun k' j => (k' < j ∧ j < i) ∨ (j = i ∧ k' < k))) => h.put (by have := hi12.out; omega) k i (by have := hi12.out; omega) hi12.out
            have hgv : gF fs n k i = decide (n ≤ diffs (blurL (nthF fs k)) (blurL (nthF fs i)) 6) := rfl
            simp only [hgv] at kput
            have ka := fun W => afar_any (nthF fs k) (nthF fs i) lk li (hs.bytes k hkf) (hs.bytes i hif) (vfs_at hv k hkf) (vfs_at hv i hif) W
            have hbw := As.mk (World.block_lt_of_cell? w _ (hr k _ (nthF_get? fs k hkf) 0 _ (u8s_get _ 0 (by rw [lk]; omega))))
            have S0 : KF w B M b o k i (nthF fs k) (nthF fs i) wr := ⟨hb, hB, range_kept (hr k _ (nthF_get? fs k hkf)) hb, range_kept (hr i _ (nthF_get? fs i hif)) hb, hb.size⟩
            generalize diffs (blurL (nthF fs k)) (blurL (nthF fs i)) 6 = dd at *
            clear hr hgv hB hb hs3
            generalize nthF fs k = fk at *
            generalize nthF fs i = fi at *
            have kput' := As.mk kput
            clear kput
            unfold fl at ka
            unfold KF at *
            go_wp2_with (fail)
            refine wp_region_held_drew (S := (fun W => Below w.heap.size w W ∧ W.cell? ⟨B, 0, none⟩ = some (.map (some M)) ∧ W.rangeAt b (o + k * 24) (u8s fk) ∧ W.rangeAt b (o + i * 24) (u8s fi) ∧ w.heap.size ≤ W.heap.size)) (by kernel_rfl) ⟨S0.1.drew, S0.2.1, S0.2.2.1, S0.2.2.2.1, S0.2.2.2.2⟩ (fun hHeld => ?_)
            have hFd : FarM wr.drew M (i * 12 + k) (gF fs n) (fun k' j => (k' < j ∧ j < i) ∨ (j = i ∧ k' < k)) := hF
            (refine hTake 0 32 (v := .map (some M)) rfl rfl (by kernel_rfl) (by kernel_rfl) (by kernel_rfl) (fun _ _ _ h => h) (Or.inl ⟨by rfl, fun W h => by (have h1 := h.2.1; clear h; go_simp)⟩) hHeld ?_; simp only [List.set_cons_zero, List.set_cons_succ])
            (refine hTake 1 33 (v := .int .i64 (k : Int)) rfl rfl (by kernel_rfl) (by kernel_rfl) (by kernel_rfl) (fun _ _ _ h => h) (Or.inl ⟨by rfl, fun W _ => rfl⟩) hHeld ?_; simp only [List.set_cons_zero, List.set_cons_succ])
            (refine hTake 2 34 (v := .int .i64 (i : Int)) rfl rfl (by kernel_rfl) (by kernel_rfl) (by kernel_rfl) (fun _ _ _ h => h) (Or.inl ⟨by rfl, fun W _ => rfl⟩) hHeld ?_; simp only [List.set_cons_zero, List.set_cons_succ])
            (refine hTake 3 35 (v := .agg #[.int .i64 (k : Int), .int .i64 (i : Int)]) rfl rfl (by kernel_rfl) (by kernel_rfl) (by kernel_rfl) (fun _ _ _ h => h) (Or.inl ⟨by rfl, fun W _ => by go_simp⟩) hHeld ?_; simp only [List.set_cons_zero, List.set_cons_succ])
            (refine hTake 4 36 (v := .slice (some ⟨b, o, none⟩) m c) rfl rfl (by kernel_rfl) (by kernel_rfl) (by kernel_rfl) (fun _ _ _ h => h) (Or.inl ⟨by rfl, fun W _ => rfl⟩) hHeld ?_; simp only [List.set_cons_zero, List.set_cons_succ])
            (refine hTake 5 37 (v := .int .i64 (k : Int)) rfl rfl (by kernel_rfl) (by kernel_rfl) (by kernel_rfl) (fun _ _ _ h => h) (Or.inl ⟨by rfl, fun W _ => rfl⟩) hHeld ?_; simp only [List.set_cons_zero, List.set_cons_succ])
            (refine hTake 6 38 (v := .pointer (some ⟨b, o + k * 24, none⟩)) rfl rfl (by kernel_rfl) (by kernel_rfl) (by kernel_rfl) (fun _ _ _ h => h) (Or.inl ⟨by rfl, fun W _ => by go_simp⟩) hHeld ?_; simp only [List.set_cons_zero, List.set_cons_succ])
            (refine hTake 7 39 rfl rfl (by kernel_rfl) (by kernel_rfl) (by kernel_rfl) (fun _ _ _ h => h) (yieldsIf_load_mid (by rfl) _ _ rfl _ _ rfl (u8s fk) _ (fun W h => h.2.2.1) Try.underlying38 rfl hi1) hHeld ?_; simp only [List.set_cons_zero, List.set_cons_succ])
            (refine hTake 8 40 (v := .slice (some ⟨b, o, none⟩) m c) rfl rfl (by kernel_rfl) (by kernel_rfl) (by kernel_rfl) (fun _ _ _ h => h) (Or.inl ⟨by rfl, fun W _ => rfl⟩) hHeld ?_; simp only [List.set_cons_zero, List.set_cons_succ])
            (refine hTake 9 41 (v := .int .i64 (i : Int)) rfl rfl (by kernel_rfl) (by kernel_rfl) (by kernel_rfl) (fun _ _ _ h => h) (Or.inl ⟨by rfl, fun W _ => rfl⟩) hHeld ?_; simp only [List.set_cons_zero, List.set_cons_succ])
            (refine hTake 10 42 (v := .pointer (some ⟨b, o + i * 24, none⟩)) rfl rfl (by kernel_rfl) (by kernel_rfl) (by kernel_rfl) (fun _ _ _ h => h) (Or.inl ⟨by rfl, fun W _ => by go_simp⟩) hHeld ?_; simp only [List.set_cons_zero, List.set_cons_succ])
            (refine hTake 11 43 rfl rfl (by kernel_rfl) (by kernel_rfl) (by kernel_rfl) (fun _ _ _ h => h) (yieldsIf_load_mid (by rfl) _ _ rfl _ _ rfl (u8s fi) _ (fun W h => h.2.2.2.1) Try.underlying38 rfl hi2) hHeld ?_; simp only [List.set_cons_zero, List.set_cons_succ])
            (refine hTake 13 45 (v := .int .i64 n) rfl rfl (by kernel_rfl) (by kernel_rfl) (by kernel_rfl) (fun _ _ _ h => h) (Or.inl ⟨by rfl, fun W _ => rfl⟩) hHeld ?_; simp only [List.set_cons_zero, List.set_cons_succ])
            refine hCall 12 44 48 rfl rfl (by kernel_rfl) (args := #[.agg (u8s fk).toArray, .agg (u8s fi).toArray]) (by rfl) (by go_simp) (.int .i64 dd) (ka _) (fun wq hq => ⟨KF.call hHeld hq, ?_⟩)
            simp only [List.set_cons_zero, List.set_cons_succ]
            have hFq := hFd.kept hq
            replace hHeld := KF.call hHeld hq
            unfold KF at hHeld
            clear hFd hF
            (refine hTake 14 46 (v := .bool (decide (n ≤ dd))) rfl rfl (by kernel_rfl) (by kernel_rfl) (by kernel_rfl) (fun _ _ _ h => h) (Or.inl ⟨by rfl, fun W _ => by go_simp⟩) hHeld ?_; simp only [List.set_cons_zero, List.set_cons_succ])
            obtain ⟨w2, hrun, hF2, hg2⟩ := kput'.out wq hFq
            have hMq := hFq.lt
            have hne : ∀ x, x ≠ M → some x ≠ some M := fun x h e => h (by injection e)
            have hbM : b ≠ M := by have h1 : b < w.heap.size := hbw.out; omega
            have hBM' : (⟨B, 0, none⟩ : Addr).block ≠ M := hBM.out
            have hHeld2 : Below w.heap.size w w2 ∧ w2.cell? ⟨B, 0, none⟩ = some (.map (some M)) ∧ w2.rangeAt b (o + k * 24) (u8s fk) ∧ w2.rangeAt b (o + i * 24) (u8s fi) ∧ w.heap.size ≤ w2.heap.size :=
              ⟨hHeld.1.grown hg2 hHeld.2.2.2.2 (fun j hj => by simp at hj; omega), hg2.cell hHeld.2.1 (hne _ hBM'), fun j v hv => hg2.cell (hHeld.2.2.1 j v hv) (hne _ hbM), fun j v hv => hg2.cell (hHeld.2.2.2.1 j v hv) (hne _ hbM), Nat.le_trans hHeld.2.2.2.2 hg2.size⟩
            refine hUpd 15 rfl rfl (by kernel_rfl) (by rfl) 70 _ _ _ rfl rfl rfl rfl hrun hHeld2 ?_
            refine wpAnyH_done (by kernel_rfl) ?_ _
            clear hHeld hrun hFq kput' ka hg2
            go_wp2_with (fail)
            go_roundw
            case rel => exact ⟨k + 1, by omega, by go_num, hF2.wider (by omega) (fun k' j h => by omega), hHeld2.2.1, hHeld2.1⟩
            case measure => simp [intOf]; omega
          · obtain rfl : k = i := by omega
            go_wp2_with (fail)
            go_roundw
            case rel => exact ⟨k + 1, by omega, by go_num, hF.wider (by omega) (fun k' j h => by omega), hB, hb⟩
            case measure => simp [intOf]; omega
      · obtain rfl : i = m := by omega
        have kacc := fun W A1 c1 s hc (hW : Below wr.heap.size wr W) hS => MostDistinct1_any (gF fs n) B M (i * 12) i (ownN i s) (rises_lt (own_rises i s)) A1 c1 W hc hS ((hW.cell (World.block_lt_of_cell? wr _ hB)).trans hB) (hF.kept hW)
        have key := longest_any (gF fs n) i h12 55 #[.pointer (some ⟨B, 0, none⟩)] (enters Try.func55 (by kernel_rfl) rfl) wr (fun W A1 c1 s hc hW hS => kacc W A1 c1 s hc hW hS)
        clear kacc hF hs3
        go_wp2_with (fail)
        refine key.mono ?_; rintro e w2 ⟨⟨v, rfl, hO⟩, hb2⟩
        go_wp2_with (fail)
        go_ret2
        have hE : bestN (gF fs n) i (2 ^ i) = loopS (gF fs n) fs.length 0 [] [] := by rw [← HB.out, HM.out]
        exact ⟨⟨_, rfl, by rw [HL.out, ← hE]; exact hO.lower hb.size⟩, bl_call hb hb2⟩
  · have HL := As.mk (show mostL fs n = [] by unfold mostL; rw [if_neg h0])
    generalize hcc : mostC fs n = cc at *
    have h0' : (cc != 0) = true := by simp [h0]
    generalize haa : askC fs n = aa at *
    obtain ⟨m, hm⟩ : ∃ m, fs.length = m := ⟨_, rfl⟩
    have HM := As.mk hm
    rw [hm] at k1 hbig HC ⊢
    clear hm h0 haa hcc
    by_cases h12 : m ≤ 12
    · have h12' : (m : Int) ≤ 12 := by omega
      go_enter Try.func17, Try.ntmps17
      go_wp2_with (fail)
      refine (k1).mono ?_; rintro e w1 ⟨rfl, hb1⟩
      have X2 := Blk.mk w1 (i64s [aa, 0]) 2 rfl
      have c1 := bl_new hb1 (.cells #[.int .i64 aa, .int .i64 0] 2)
      have key := firstOf2_any aa 0 w1.heap.size 0 2 (w1.alloc (.cells #[.int .i64 aa, .int .i64 0] 2)) X2.range
      have hf0 : first2 aa 0 = cc := by rw [HC.out, if_pos h12]
      rw [hf0] at key
      go_wp2_with (first | (go_at_call 52; refine (unless_any _ _ _).mono ?_; rintro e w' ⟨rfl, rfl⟩) | (go_at_call 51; refine (key).mono ?_; rintro e w' ⟨rfl, rfl⟩))
      go_ret2
      exact ⟨⟨_, rfl, by rw [HL.out]; exact Own.nil _ _ _⟩, c1⟩
    · have h12' : ¬ ((m : Int) ≤ 12) := by omega
      go_enter Try.func17, Try.ntmps17
      go_wp2_with (fail)
      refine (k1).mono ?_; rintro e w1 ⟨rfl, hb1⟩
      have X2 := Blk.mk w1 (i64s [aa, 7]) 2 rfl
      have c1 := bl_new hb1 (.cells #[.int .i64 aa, .int .i64 7] 2)
      have key := firstOf2_any aa 7 w1.heap.size 0 2 (w1.alloc (.cells #[.int .i64 aa, .int .i64 7] 2)) X2.range
      have hf0 : first2 aa 7 = cc := by rw [HC.out, if_neg h12]
      rw [hf0] at key
      go_wp2_with (first | (go_at_call 52; refine (unless_any _ _ _).mono ?_; rintro e w' ⟨rfl, rfl⟩) | (go_at_call 51; refine (key).mono ?_; rintro e w' ⟨rfl, rfl⟩))
      go_ret2
      exact ⟨⟨_, rfl, by rw [HL.out]; exact Own.nil _ _ _⟩, c1⟩
end Go.Proofs.Ytjppoejkfpeicaa
