/- Contracts: ReadFlag: spec's side. -/
import Derived.Test.YtjppoejkfpeicaaDoorRf
import Derived.Test.YtjppoejkfpeicaaDoorG1
set_option linter.unusedVariables false
set_option linter.unusedSimpArgs false
namespace Go.Proofs.YtjppoejkfpeicaaDoor
open Go.RowKit

def bytR (L : List UInt8) (k : Nat) : Int := ((L.getD k 0).toNat : Int)
theorem bytR_bd (L : List UInt8) (k : Nat) : 0 ≤ bytR L k ∧ bytR L k ≤ 255 := by
  unfold bytR
  have := (L.getD k 0).toNat_lt
  omega
theorem bytR_get (s : ByteArray) (k : Nat) (h : k < s.size) : ((s[k]'h).toNat : Int) = bytR s.data.toList k := by
  have h' : k < s.data.size := h
  unfold bytR
  rw [List.getD_eq_getElem?_getD, List.getElem?_eq_getElem (by rw [Array.length_toList]; exact h')]
  rfl
def colI (x : Int) : Int := if x = 119 then 0 else if x = 121 then 1 else if x = 114 then 2 else if x = 98 then 3 else if x = 103 then 4 else if x = 107 then 5 else -1
theorem colB_I (b : UInt8) : colB b = colI (b.toNat : Int) := by
  have key : ∀ m : Fin 256, colB (UInt8.ofNat m.1) = colI (m.1 : Int) := by decide +kernel
  have := key ⟨b.toNat, b.toNat_lt⟩
  simpa using this
theorem colB_at (L : List UInt8) (k : Nat) : colB (L.getD k 0) = colI (bytR L k) := colB_I _
def letN (j : Nat) : Int := nth [119, 121, 114, 98, 103, 107] j
theorem colI_at (x : Int) : ∀ k, k < 6 → (∀ j, j < k → x ≠ letN j) → x = letN k → colI x = k := by
  intro k hk hj hx
  subst hx
  rcases (by omega : k = 0 ∨ k = 1 ∨ k = 2 ∨ k = 3 ∨ k = 4 ∨ k = 5) with rfl | rfl | rfl | rfl | rfl | rfl <;> rfl
theorem colI_none (x : Int) (h : ∀ j, j < 6 → x ≠ letN j) : colI x = -1 := by
  have h0 : x ≠ 119 := h 0 (by omega)
  have h1 : x ≠ 121 := h 1 (by omega)
  have h2 : x ≠ 114 := h 2 (by omega)
  have h3 : x ≠ 98 := h 3 (by omega)
  have h4 : x ≠ 103 := h 4 (by omega)
  have h5 : x ≠ 107 := h 5 (by omega)
  unfold colI
  rw [if_neg h0, if_neg h1, if_neg h2, if_neg h3, if_neg h4, if_neg h5]

set_option maxHeartbeats 1000000 in
theorem l01Letter_any (x : Int) (hx : 0 ≤ x ∧ x ≤ 255) (w : World) : Calls Tryd.prog 29 #[.int .u8 x] w fun e w' => e = .returned (.int .i64 (colI x)) ∧ w = w' := by
  go_enter Tryd.func29, Tryd.ntmps29
  go_wp2
  go_loop [4] (fun i => ∃ k : Nat, k ≤ 6 ∧ i = .int .i64 k ∧ As (∀ j, j < k → x ≠ letN j)) (fun i => 6 - (intOf i).toNat)
  case atStart => exact ⟨0, by omega, rfl, ⟨fun j hj => by omega⟩⟩
  case round =>
    obtain ⟨k, hk, rfl, H⟩ := hrel
    by_cases hlt : k < 6
    · have hlt' : (k : Int) < 6 := by omega
      have hi : ∀ W, (Instr.index 9 (.string ⟨#[119, 121, 114, 98, 103, 107]⟩) (.int .i64 (k : Int))).run Tryd.prog W = .ok (.int .u8 (letN k)) W := fun W => by
        rcases (by omega : k = 0 ∨ k = 1 ∨ k = 2 ∨ k = 3 ∨ k = 4 ∨ k = 5) with rfl | rfl | rfl | rfl | rfl | rfl
        all_goals (simp only [Instr.index, asIntOf, Sem.run_bind, Sem.run_pure, Result.andThen_ok, run_underlying Tryd.underlying9]; rfl)
      have HA := fun h => As.mk (colI_at x k hlt H.out h)
      have HA := As.mk HA
      generalize hln : letN k = l at *
      by_cases he : x = l
      · have hc := As.mk (HA.out he).out
        have he' : (l == x) = true := by simp [he]
        clear he
        go_wp2
        go_ret
        exact ⟨ret_n hc.out.symm, rfl⟩
      · have he' : (l == x) = false := by rw [beq_eq_false_iff_ne]; exact fun e => he e.symm
        have hne := As.mk he
        clear he
        go_wp2
        go_round
        case rel => exact ⟨k + 1, by omega, by go_num, ⟨fun j hj => by
          by_cases e : j = k
          · subst e; rw [hln]; exact hne.out
          · exact H.out j (by omega)⟩⟩
        case measure => simp [intOf]; omega
    · obtain rfl : k = 6 := by omega
      have hc := As.mk (colI_none x H.out)
      go_wp2
      go_ret
      exact ⟨ret_n hc.out.symm, rfl⟩

def padF (xs : List Int) : List Int := xs ++ List.replicate (24 - xs.length) 0
theorem padF_length {xs : List Int} (h : xs.length ≤ 24) : (padF xs).length = 24 := by unfold padF; simp; omega
theorem padF_set {xs : List Int} (h : xs.length < 24) (x : Int) : (padF xs).set xs.length x = padF (xs ++ [x]) := by
  unfold padF
  obtain ⟨m, hm⟩ : ∃ m, 24 - xs.length = m + 1 := ⟨24 - xs.length - 1, by omega⟩
  have e : 24 - (xs ++ [x]).length = m := by simp; omega
  rw [hm, e, List.set_append_right _ _ (by omega), Nat.sub_self, List.replicate_succ, List.set_cons_zero, List.append_assoc]; rfl
theorem padF_full {xs : List Int} (h : xs.length = 24) : padF xs = xs := by unfold padF; rw [h]; simp
theorem padF_nil : padF [] = zero24 := rfl
def rdL (L : List UInt8) : List Int := (readF L).getD zero24
def rdC (L : List UInt8) : Int := if (readF L).isSome then 0 else 5
theorem rd_none {L : List UInt8} (h : readF L = none) : rdL L = zero24 ∧ rdC L = 5 := by unfold rdL rdC; rw [h]; exact ⟨rfl, rfl⟩
theorem rd_some {L : List UInt8} {xs : List Int} (h : readF L = some xs) : rdL L = xs ∧ rdC L = 0 := by unfold rdL rdC; rw [h]; exact ⟨rfl, rfl⟩
theorem readF_at {L : List UInt8} (h : L.length = 27) : readF L = readK L 27 := by unfold readF; rw [if_pos h]
theorem readK_slash {L : List UInt8} {k : Nat} {xs : List Int} (h : readK L k = some xs) (h6 : k % 7 = 6) : readK L (k + 1) = if bytR L k = 47 then some xs else none := by
  have e : (L.getD k 0 = 47) ↔ (bytR L k = 47) := by
    unfold bytR
    constructor
    · intro e; rw [e]; rfl
    · intro e
      apply UInt8.toNat_inj.1
      have : (47 : UInt8).toNat = 47 := rfl
      omega
  unfold readK
  rw [h]
  simp only [if_pos h6, e]
theorem readK_cell {L : List UInt8} {k : Nat} {xs : List Int} (h : readK L k = some xs) (h6 : ¬ k % 7 = 6) : readK L (k + 1) = if colI (bytR L k) < 0 then none else some (xs ++ [colI (bytR L k)]) := by
  unfold readK
  rw [h]
  simp only [if_neg h6, colB_at]

set_option maxRecDepth 100000 in
set_option maxHeartbeats 2000000 in
theorem sReadFlag_any (s : ByteArray) (hs : s.size ≤ 1048576) (w : World) :
    Calls Tryd.prog 5 #[.string s] w fun e w' => e = .returned (.tuple #[fl (rdL s.data.toList), .int .i64 (rdC s.data.toList)]) ∧ Below w.heap.size w w' := by
  unfold fl
  have hsz : s.data.toList.length = s.size := by rw [Array.length_toList]; rfl
  have A0 : Blk ((w.alloc (.cells #[.int .u8 0, .int .u8 0, .int .u8 0, .int .u8 0, .int .u8 0, .int .u8 0, .int .u8 0, .int .u8 0, .int .u8 0, .int .u8 0, .int .u8 0, .int .u8 0, .int .u8 0, .int .u8 0, .int .u8 0, .int .u8 0, .int .u8 0, .int .u8 0, .int .u8 0, .int .u8 0, .int .u8 0, .int .u8 0, .int .u8 0, .int .u8 0] 23)).alloc (.cells #[.int .u8 0, .int .u8 0, .int .u8 0, .int .u8 0, .int .u8 0, .int .u8 0, .int .u8 0, .int .u8 0, .int .u8 0, .int .u8 0, .int .u8 0, .int .u8 0, .int .u8 0, .int .u8 0, .int .u8 0, .int .u8 0, .int .u8 0, .int .u8 0, .int .u8 0, .int .u8 0, .int .u8 0, .int .u8 0, .int .u8 0, .int .u8 0] 23)) w.heap.size (u8s zero24) 23 := (Blk.mk _ (u8s zero24) _ rfl).alloc _
  have A1 : Blk ((w.alloc (.cells #[.int .u8 0, .int .u8 0, .int .u8 0, .int .u8 0, .int .u8 0, .int .u8 0, .int .u8 0, .int .u8 0, .int .u8 0, .int .u8 0, .int .u8 0, .int .u8 0, .int .u8 0, .int .u8 0, .int .u8 0, .int .u8 0, .int .u8 0, .int .u8 0, .int .u8 0, .int .u8 0, .int .u8 0, .int .u8 0, .int .u8 0, .int .u8 0] 23)).alloc (.cells #[.int .u8 0, .int .u8 0, .int .u8 0, .int .u8 0, .int .u8 0, .int .u8 0, .int .u8 0, .int .u8 0, .int .u8 0, .int .u8 0, .int .u8 0, .int .u8 0, .int .u8 0, .int .u8 0, .int .u8 0, .int .u8 0, .int .u8 0, .int .u8 0, .int .u8 0, .int .u8 0, .int .u8 0, .int .u8 0, .int .u8 0, .int .u8 0] 23)) (w.heap.size + 1) (u8s zero24) 23 := Blk.mk _ (u8s zero24) _ (by simp)
  have b0 : Below w.heap.size w ((w.alloc (.cells #[.int .u8 0, .int .u8 0, .int .u8 0, .int .u8 0, .int .u8 0, .int .u8 0, .int .u8 0, .int .u8 0, .int .u8 0, .int .u8 0, .int .u8 0, .int .u8 0, .int .u8 0, .int .u8 0, .int .u8 0, .int .u8 0, .int .u8 0, .int .u8 0, .int .u8 0, .int .u8 0, .int .u8 0, .int .u8 0, .int .u8 0, .int .u8 0] 23)).alloc (.cells #[.int .u8 0, .int .u8 0, .int .u8 0, .int .u8 0, .int .u8 0, .int .u8 0, .int .u8 0, .int .u8 0, .int .u8 0, .int .u8 0, .int .u8 0, .int .u8 0, .int .u8 0, .int .u8 0, .int .u8 0, .int .u8 0, .int .u8 0, .int .u8 0, .int .u8 0, .int .u8 0, .int .u8 0, .int .u8 0, .int .u8 0, .int .u8 0] 23)) := bl_new (bl_new (Below.refl _ _) _) _
  have V0 := A0.farRow (g := w.heap.size + 1) (by omega) (u8s zero24).toArray
  have V1 := A1.setRow (u8s zero24)
  have d0 := bl_setRow b0 (g := w.heap.size + 1) (by omega) (u8s zero24).toArray
  have hbt := fun k h => bytR_get s k h
  have hz : zero24.length = 24 := rfl
  have HL := As.mk hsz
  by_cases h27 : s.size = 27
  · have h27' : (((s.size : Nat) : Int) != 27) = false := by rw [h27]; rfl
    have hF := As.mk (readF_at (L := s.data.toList) (by rw [hsz]; exact h27))
    have hbt' := As.mk hbt
    clear hbt hsz
    go_enter Tryd.func5, Tryd.ntmps5
    go_wp2_with (refine store_blk rfl 23 _ _ rfl _ rfl (ds := u8s zero24) rfl A1 info_fl (by rfl) (by rfl) (u8s_one _) ?_)
    clear A0 A1 b0
    go_loopw [5, 6] (fun a i wr => ∃ (k : Nat) (xs : List Int), k ≤ 27 ∧ i = .int .i64 k ∧ a = .int .i64 xs.length ∧ As (readK s.data.toList k = some xs) ∧ Blk wr w.heap.size (u8s zero24) 23 ∧ Blk wr (w.heap.size + 1) (u8s (padF xs)) 23 ∧ Below w.heap.size w wr) (fun _ i _ => 27 - (intOf i).toNat)
    case atStart => exact ⟨0, [], by omega, rfl, rfl, ⟨rfl⟩, V0, V1, d0⟩
    case round =>
      obtain ⟨k, xs, hk, rfl, rfl, HK, X0, X1, hb⟩ := hrel
      clear V0 V1 d0
      obtain ⟨e1, e2, e3⟩ := readK_some k xs (by rw [HL.out]; omega) HK.out
      have hxl : xs.length ≤ 24 := by omega
      have hpl := padF_length hxl
      by_cases hlt : k < 27
      · have hlt' : (k : Int) < ((s.size : Nat) : Int) := by omega
        have hks : k < s.size := by omega
        have hbk := hbt'.out k hks
        have hbd := bytR_bd s.data.toList k
        have e1' := As.mk e1
        by_cases h6 : k % 7 = 6
        · have h6' : ((k : Int) % 7 == 6) = true := by rw [beq_iff_eq]; omega
          have hst := As.mk (readK_slash HK.out h6)
          generalize bytR s.data.toList k = x at *
          clear e3 e1
          by_cases h47 : x = 47
          · have h47' : (x != 47) = false := by simp [h47]
            have hs2 := As.mk (hst.out.trans (if_pos h47))
            clear h47 h6
            go_wp2_with (fail)
            go_roundw
            case rel => exact ⟨k + 1, xs, by omega, by go_num, rfl, hs2, X0, X1, hb⟩
            case measure => simp [intOf]; omega
          · have h47' : (x != 47) = true := by simp [h47]
            have hs2 := As.mk (hst.out.trans (if_neg h47))
            have hr := As.mk (rd_none (hF.out.trans (readK_none hs2.out 27 (by omega))))
            clear h47 h6
            go_wp2_with (refine store_blk rfl 23 _ _ rfl _ rfl (ds := u8s zero24) rfl X0 info_fl (by rfl) (by rfl) (u8s_one _) ?_)
            refine ret_blk_tmp rfl _ rfl (X0.setRow _) Tryd.underlying23 rfl info_fl (by rfl) rfl ⟨ret_v (by rw [hr.out.1, hr.out.2]; rfl), bl_setRow hb (by omega) _⟩
        · have h6' : ((k : Int) % 7 == 6) = false := by rw [beq_eq_false_iff_ne]; omega
          have hst := readK_cell HK.out h6
          have key := fun W => l01Letter_any (bytR s.data.toList k) hbd W
          have hcI : colI (bytR s.data.toList k) = -1 ∨ (0 ≤ colI (bytR s.data.toList k) ∧ colI (bytR s.data.toList k) ≤ 5) := by
            rw [← colB_at]
            rcases colB_cases (s.data.toList.getD k 0) with h | h
            · exact .inl h
            · exact .inr ⟨h.1, h.2.1⟩
          generalize bytR s.data.toList k = x at *
          generalize colI x = ci at *
          have hst' := As.mk hst
          clear e3 e1 hst
          rcases hcI with hneg | ⟨c0, c5⟩
          · have hs2 := As.mk (hst'.out.trans (if_pos (by omega)))
            have hr := As.mk (rd_none (hF.out.trans (readK_none hs2.out 27 (by omega))))
            subst hneg
            clear h6
            go_wp2_with (fail)
            refine (key _).mono ?_; rintro e w' ⟨rfl, rfl⟩
            go_wp2_with (refine store_blk rfl 23 _ _ rfl _ rfl (ds := u8s zero24) rfl X0 info_fl (by rfl) (by rfl) (u8s_one _) ?_)
            refine ret_blk_tmp rfl _ rfl (X0.setRow _) Tryd.underlying23 rfl info_fl (by rfl) rfl ⟨ret_v (by rw [hr.out.1, hr.out.2]; rfl), bl_setRow hb (by omega) _⟩
          · have hs2 := As.mk (hst'.out.trans (if_neg (by omega)))
            have hx24 : xs.length < 24 := by have := e1'.out; omega
            have hx24' : (xs.length : Int) < 24 := by omega
            have hcn : ¬ ci < 0 := by omega
            have hcw : IntKind.wrap .u8 ci = ci := wrap_small ci c0 c5
            obtain ⟨v2, d2⟩ := X1.some xs.length (by rw [u8s_length, hpl]; exact hx24)
            have f2 := X1.frozen xs.length
            have X3 := X1.set xs.length (.int .u8 ci)
            rw [u8s_set, padF_set hx24] at X3
            have X4 := X0.far (p := ⟨w.heap.size + 1, xs.length, none⟩) (by simp) (.int .u8 ci)
            have hb4 := hb.setCell (p := ⟨w.heap.size + 1, xs.length, none⟩) (by simp) (.int .u8 ci)
            clear h6 X0 X1 hb
            go_wp2_with (fail)
            refine (key _).mono ?_; rintro e w' ⟨rfl, rfl⟩
            go_wp2_with (fail)
            clear hcw d2 f2
            go_roundw
            case rel => exact ⟨k + 1, xs ++ [ci], by omega, by go_num, by simp, hs2, X4, X3, hb4⟩
            case measure => simp [intOf]; omega
      · obtain rfl : k = 27 := by omega
        have hr := As.mk (rd_some (hF.out.trans HK.out))
        have h24 : xs.length = 24 := by omega
        rw [padF_full h24] at X1
        have hs27 := As.mk h27
        have hlt' : ¬ (((27 : Nat) : Int) < ((s.size : Nat) : Int)) := by omega
        have hlt2 : ¬ ((27 : Int) < ((s.size : Nat) : Int)) := by omega
        clear e3 hpl hlt
        go_wp2_with (first | (refine load_blk rfl 23 _ rfl _ rfl X1 Tryd.underlying23 rfl info_fl (by rw [u8s_length]; exact h24) ?_) | (refine store_blk rfl 23 _ _ rfl _ rfl rfl X0 info_fl (by rw [u8s_length]; exact h24) (by rw [u8s_length]; exact hz) (u8s_one _) ?_))
        refine ret_blk_tmp rfl _ rfl (X0.setRow _) Tryd.underlying23 rfl info_fl (by rw [u8s_length]; exact h24) rfl ⟨ret_v (by rw [hr.out.1, hr.out.2]; rfl), bl_setRow hb (by omega) _⟩
  · have h27' : (((s.size : Nat) : Int) != 27) = true := by simp; omega
    have hr := As.mk (rd_none (L := s.data.toList) (by unfold readF; rw [if_neg (by rw [hsz]; exact h27)]))
    rw [hr.out.1, hr.out.2]
    have B0 : Blk (w.alloc (.cells #[.int .u8 0, .int .u8 0, .int .u8 0, .int .u8 0, .int .u8 0, .int .u8 0, .int .u8 0, .int .u8 0, .int .u8 0, .int .u8 0, .int .u8 0, .int .u8 0, .int .u8 0, .int .u8 0, .int .u8 0, .int .u8 0, .int .u8 0, .int .u8 0, .int .u8 0, .int .u8 0, .int .u8 0, .int .u8 0, .int .u8 0, .int .u8 0] 23)) w.heap.size (u8s zero24) 23 := Blk.mk _ (u8s zero24) _ rfl
    have c0 := bl_new (Below.refl _ w) (.cells #[.int .u8 0, .int .u8 0, .int .u8 0, .int .u8 0, .int .u8 0, .int .u8 0, .int .u8 0, .int .u8 0, .int .u8 0, .int .u8 0, .int .u8 0, .int .u8 0, .int .u8 0, .int .u8 0, .int .u8 0, .int .u8 0, .int .u8 0, .int .u8 0, .int .u8 0, .int .u8 0, .int .u8 0, .int .u8 0, .int .u8 0, .int .u8 0] 23)
    clear A0 A1 V0 V1 d0 b0
    go_enter Tryd.func5, Tryd.ntmps5
    go_wp2_with (refine store_blk rfl 23 _ _ rfl _ rfl (ds := u8s zero24) rfl B0 info_fl (by rfl) (by rfl) (u8s_one _) ?_)
    refine ret_blk_tmp rfl _ rfl (B0.setRow _) Tryd.underlying23 rfl info_fl (by rfl) rfl ⟨rfl, bl_setRow c0 (by omega) _⟩
end Go.Proofs.YtjppoejkfpeicaaDoor
