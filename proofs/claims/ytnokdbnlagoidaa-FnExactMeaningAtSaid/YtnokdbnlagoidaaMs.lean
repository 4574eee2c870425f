/- Contract: spec.l03Meanings. -/
import Derived.Test.YtnokdbnlagoidaaNs
set_option linter.unusedVariables false
namespace Go.Proofs.Ytnokdbnlagoidaa
open Go.RowKit

theorem forC_one {m : List Int} {S : Nat} (hm : mOk m = true) (hS : S ≤ 4) : forC m 1 (S : Int) = if canB S m then 0 else 6 := by
  have h0 : askC m 1 (S : Int) = 0 := by
    unfold askC
    have h1 : inR 1 1 8 = true := by rw [inR_iff]; omega
    have h2 : inR (S : Int) 0 4 = true := by rw [inR_iff]; omega
    rw [if_pos hm, h1, h2]; rfl
  unfold forC canB
  rw [if_pos h0, show (1 : Int).toNat = 1 from rfl, show (S : Int).toNat = S from rfl]
  cases found m 1 S <;> simp

set_option maxRecDepth 100000 in
set_option maxHeartbeats 8000000 in
theorem l03Meanings_any (K L S : Nat) (hK : 1 ≤ K ∧ K ≤ 10) (hL : 1 ≤ L ∧ L ≤ 3) (hS : S ≤ 4) (P : Nat) (psv : Value) (w : World) (hB : Blk w P [.int .i8 K, .int .i8 L, .int .i8 S, psv] 48) :
    Calls Try.prog 70 #[.pointer (some ⟨P, 0, none⟩)] w fun e w' => (∃ v, e = .returned v ∧ ML w' w.heap.size v (outs K S L)) ∧ Below w.heap.size w w' := by
  obtain ⟨W, hW⟩ : ∃ W, W = ((w.alloc (.cells #[] 26)).alloc (.cells #[] 42)).alloc (.cells #[.slice (some ⟨w.heap.size + 1, 0, none⟩) 0 0] 26) := ⟨_, rfl⟩
  have b0 : Below w.heap.size w W := by rw [hW]; exact bl_new (bl_new (bl_new (Below.refl _ w) _) _) _
  have hcell : ∀ W', Below w.heap.size w W' → Blk W' P [.int .i8 K, .int .i8 L, .int .i8 S, psv] 48 := fun W' h => hB.kept h
  have o0 : Own W w.heap.size 26 (.slice (some ⟨w.heap.size, 0, none⟩) 0 0) [] := by
    rw [hW]; exact ((Own.lit w w.heap.size 26 [] (Nat.le_refl _) (by simp)).alloc _).alloc _
  have l0 : Own W w.heap.size 26 (.slice (some ⟨w.heap.size + 1 + 1, 0, none⟩) 1 1) [.slice (some ⟨w.heap.size + 1, 0, none⟩) 0 0] := by
    rw [hW]
    have := Own.lit ((w.alloc (.cells #[] 26)).alloc (.cells #[] 42)) w.heap.size 26 [.slice (some ⟨w.heap.size + 1, 0, none⟩) 0 0] (by simp; omega) (by simp)
    simpa using this
  have i0 : Own W w.heap.size 42 (.slice (some ⟨w.heap.size + 1, 0, none⟩) 0 0) [] := by
    rw [hW]
    have := (Own.lit (w.alloc (.cells #[] 26)) w.heap.size 42 [] (by simp) (by simp)).alloc (.cells #[.slice (some ⟨w.heap.size + 1, 0, none⟩) 0 0] 26)
    simpa using this
  have m0 : ML W w.heap.size (.slice (some ⟨w.heap.size, 0, none⟩) 0 0) (outs K S 0) := ⟨[], o0, Inn.nil _ _⟩
  have m1 : ML W w.heap.size (.slice (some ⟨w.heap.size + 1 + 1, 0, none⟩) 1 1) (lev K 0) := by
    refine ⟨_, l0, ?_⟩
    have := (Inn.nil W w.heap.size).snoc (m := []) (g := w.heap.size + 1) (c := 0) i0
    exact this
  have a0 : Ap (.slice (some ⟨w.heap.size, 0, none⟩) 0 0) (.slice (some ⟨w.heap.size + 1 + 1, 0, none⟩) 1 1) := by
    intro k h1 h2
    simp [Value.ownBlock] at h1 h2
    omega
  clear o0 l0 i0
  have hK2 := hK.2
  have hL2 := hL.2
  have hK' : (K : Int) ≤ 10 := by omega
  have hL' : (L : Int) ≤ 3 := by omega
  have hS' : (S : Int) ≤ 4 := by omega
  generalize hBs : w.heap.size = B at *
  go_enter Try.func70, Try.ntmps70
  go_wp2_with (fail)
  go_loopw [3, 4, 5] (fun vo0 vl0 le wr => ∃ (n : Nat) (vo vl : Value), n ≤ L ∧ vo = vo0 ∧ vl = vl0 ∧ le = .int .i8 ((n : Int) + 1) ∧ ML wr B vo (outs K S n) ∧ ML wr B vl (lev K n) ∧ Ap vo vl ∧ Below B w wr) (fun _ _ le _ => 5 - (intOf le).toNat)
  case atStart => rw [← hW]; exact ⟨0, _, _, by omega, rfl, rfl, rfl, m0, m1, a0, b0⟩
  case round =>
    obtain ⟨n, vo, vl, hn, rfl, rfl, rfl, hmo, hml, hap, hb⟩ := hrel
    clear m0 m1 a0 b0 hW
    have hBr := hcell _ hb
    have c0 := hBr.at 1
    simp only [List.getElem?_cons_zero, List.getElem?_cons_succ] at c0
    have hn3 : (n : Int) ≤ 3 := by omega
    by_cases hlt : n < L
    · have hle : (n : Int) + 1 ≤ (L : Int) := by omega
      have bB : B ≤ wr.heap.size := by rw [← hBs]; exact hb.size
      have Lv0 : Lv (wr.alloc (.cells #[] 26)) B vo vl (.slice (some ⟨wr.heap.size, 0, none⟩) 0 0) (outTo K S n (levTo K n 0)) (lev K n) (levTo K n 0) := by
        have hbn := bl_new (Below.refl _ wr) (.cells #[] 26)
        refine ⟨by rw [levTo_zero, outTo_nil]; exact hmo.kept hbn, hml.kept hbn, ⟨[], Own.lit wr B 26 [] bB (by simp), Inn.nil _ _⟩, hap, ?_, ?_⟩
        · intro k h1 h2
          obtain ⟨vs, q1, _⟩ := hmo
          have := q1.lt k h1
          simp [Value.ownBlock] at h2; omega
        · intro k h1 h2
          obtain ⟨vs, q1, _⟩ := hml
          have := q1.lt k h1
          simp [Value.ownBlock] at h2; omega
      have hbn := hb.alloc bB (.cells #[] 26)
      obtain ⟨Al, cl, rfl⟩ := hml.slice
      have hll := lev_length K n
      have hpow := pow_small (K := K) (n := n) hK2 (by omega)
      rw [← hll] at hpow
      have hlm := lev_mem K n
      have hfull := As.mk (levTo_full K n)
      have hsucc := levTo_succ K n
      have hto := outTo_le K S n hK2 (by omega)
      clear hll hmo hml hap hBr
      generalize hLn : (lev K n).length = ln at *
      have hpow' : (ln : Int) ≤ 1000 := by omega
      go_wp2_with (fail)
      go_loopw [3, 6, 7] (fun vo0 vn0 i wr => ∃ (j : Nat) (vo vn : Value), j ≤ ln ∧ vo = vo0 ∧ vn = vn0 ∧ i = .int .i64 j ∧ Lv wr B vo (.slice Al ln cl) vn (outTo K S n (levTo K n j)) (lev K n) (levTo K n j) ∧ Below B w wr) (fun _ _ i _ => ln - (intOf i).toNat)
      case atStart => exact ⟨0, _, _, by omega, rfl, rfl, rfl, Lv0, hbn⟩
      case round =>
        obtain ⟨j, vo, vn, hj, rfl, rfl, rfl, hv, hb2⟩ := hrel
        clear Lv0 hbn
        by_cases hlj : j < ln
        · have hlj' : (j : Int) < (ln : Int) := by omega
          have hsj := As.mk (hsucc j hlj)
          have hmj := hlm _ (nthL_mem (lev K n) j (by rw [hLn]; exact hlj))
          have hjn := As.mk (show (levTo K n j).length ≤ 10000 by
            unfold levTo
            rw [flat_kids, List.length_take]
            have : min j (lev K n).length ≤ 1000 := by omega
            calc _ ≤ 1000 * 10 := Nat.mul_le_mul this hK2
              _ = _ := by omega)
          go_wp2_with (fail)
          go_loopw [3, 6, 8] (fun vo0 vn0 kd wr => ∃ (k : Nat) (vo vn : Value), k ≤ K ∧ vo = vo0 ∧ vn = vn0 ∧ kd = .int .i8 k ∧ Lv wr B vo (.slice Al ln cl) vn (outTo K S n (levTo K n j ++ kidsTo (nthL (lev K n) j) k)) (lev K n) (levTo K n j ++ kidsTo (nthL (lev K n) j) k) ∧ Below B w wr) (fun _ _ kd _ => K - (intOf kd).toNat)
          case atStart => exact ⟨0, _, _, by omega, rfl, rfl, rfl, by rw [show kidsTo (nthL (lev K n) j) 0 = [] from rfl, List.append_nil]; exact hv, hb2⟩
          case round =>
            obtain ⟨k, vo, vn, hk, rfl, rfl, rfl, hv3, hb3⟩ := hrel
            clear hv
            have hBr := hcell _ hb3
            have c0 := hBr.at 0
            have c2 := hBr.at 2
            simp only [List.getElem?_cons_zero, List.getElem?_cons_succ] at c0 c2
            by_cases hlk : k < K
            · have hlk' : (k : Int) < (K : Int) := by omega
              obtain ⟨G, g, c', hAl, cm, hm⟩ := hv3.l.at j (by rw [hLn]; exact hlj)
              obtain ⟨G, rfl⟩ : ∃ G', Al = some ⟨G', 0, none⟩ := ⟨G, hAl⟩
              simp only [Option.some.injEq, Addr.mk.injEq, and_true] at hAl
              subst hAl
              have hkm := kidsTo_succ (nthL (lev K n) j) k
              have hkl := kidsTo_length (nthL (lev K n) j) k
              have hml8 := hmj.1
              have hmk : ∀ x ∈ nthL (lev K n) j ++ [(k : Int)], 0 ≤ x ∧ x ≤ 39 := fun x hx => by
                rcases List.mem_append.1 hx with hx | hx
                · have := hmj.2 x hx; omega
                · simp at hx; subst hx; omega
              generalize nthL (lev K n) j = m at *
              have hmO := kinds_mOk hmk (by simp) (by simp; omega)
              have hfc := As.mk (forC_one hmO hS)
              have hil := i8s_length m
              have hl2 : (m ++ [(k : Int)]).length = n + 1 := by rw [List.length_append, hml8]; rfl
              have hO := Own.lit wr wr.heap.size 42 [] (Nat.le_refl _) (by simp)
              have hb' := bl_new (Below.refl _ wr) (.cells #[] 42)
              have hr' : (wr.alloc (.cells #[] 42)).rangeAt g 0 (i8s m) := by
                rcases (hm.kept hb').form with ⟨q, _⟩ | ⟨g', c2, q, _, _, hr, _⟩
                · cases q
                · simp only [Value.slice.injEq, Option.some.injEq, Addr.mk.injEq, and_true] at q
                  rw [q.1]; exact hr
              have hho := fun A c W h => sHoistFor_any (m ++ [(k : Int)]) (fun x hx => by have := hmk x hx; omega) A c 1 (S : Int) W h
              rw [hl2] at hho
              have hmkl := As.mk hmk
              rw [hml8] at cm hm hil
              clear hml8 hmk
              have cm2 : (wr.alloc (.cells #[] 42)).cell? ⟨G, j, none⟩ = some (.slice (some ⟨g, 0, none⟩) n c') := by
                rw [hb'.cell (World.block_lt_of_cell? wr _ cm)]; exact cm
              go_wp2_with (at_builtin; refine appN (w0 := wr) (wr.heap.size) rfl (.tmp 38) (.tmp 42) 26 42 (.int .i8 0) 1 rfl Try.underlying26 info_i8 rfl (by omega) (.slice (some ⟨wr.heap.size, 0, none⟩) 0 0) ([]) (i8s m) g 0 c' n rfl rfl hil (i8s_one _) hO hr' hb' hb'.size (by simp; omega) ?_)
              intro v1 w1 hO1 hb1 _ _
              have hO1 : Own w1 wr.heap.size 42 v1 (i8s m) := hO1
              go_wp2_with (at_builtin; refine app1 (w0 := wr) (wr.heap.size) rfl (.tmp 43) (.tmp 45) 26 42 (.int .i8 0) 1 rfl Try.underlying26 info_i8 rfl (by omega) (v1) (i8s m) (.int .i8 (k : Int)) rfl rfl rfl hO1 hb1 hb1.size (by rw [hil]; omega) ?_)
              intro v2 w2 hO2 hb2 _ _
              rw [i8s_snoc] at hO2
              obtain ⟨A2, c2, rfl⟩ := hO2.slice
              rw [i8s_length, hl2] at hO2 ⊢
              obtain ⟨g2, rfl⟩ := hO2.addr (by rw [i8s_length, hl2]; omega)
              have hv4 := hv3.kept hb2
              have hb4 := hb3.trans (hb2.mono (by rw [← hBs]; exact hb3.size))
              have hO2' := hO2.lower (b' := B) (by rw [← hBs]; exact hb3.size)
              clear hv3 cm cm2 hm hO hb' hr' hO1 hb1 hO2 hb2
              obtain ⟨vs, hn1, hn2⟩ := hv4.n
              have hnl := hn2.1
              rw [List.length_append, hkl] at hnl
              have hj1 := hjn.out
              go_wp2_with (at_builtin; refine app1 (w0 := w) (B) rfl (.tmp 47) (.tmp 49) 89 26 (.slice none 0 0) 24 rfl Try.underlying89 info_m rfl (by omega) (vn) (vs) (.slice (some ⟨g2, 0, none⟩) (n + 1) c2) rfl rfl rfl hn1 hb4 (by rw [← hBs]; exact hb4.size) (by omega) ?_)
              intro v3 w3 hO3 hb3' hg3 hat3
              have hO2'' : Own w2 B 42 (.slice (some ⟨g2, 0, none⟩) (m ++ [(k : Int)]).length c2) (i8s (m ++ [(k : Int)])) := by rw [hl2]; exact hO2'
              rw [← hl2] at hO3
              obtain ⟨hv5, hI5⟩ := hv4.appN hn1 hn2 hO2'' hO3 hg3 hat3
              have hBr3 := hcell _ hb3'
              have c2' := hBr3.at 2
              simp only [List.getElem?_cons_zero, List.getElem?_cons_succ] at c2'
              have hsl3 := hI5.sl'
              have hts := outTo_snoc K S n (levTo K n j ++ kidsTo m k) (m ++ [(k : Int)])
              have htl := hto (levTo K n j ++ kidsTo m k)
              rw [List.length_append, hkl] at htl
              rw [List.append_assoc, ← hkm] at hts hv5
              have hkm := As.mk hkm
              clear hv4 hn1 hn2 hnl hO3 hO2' hO2'' hg3 hat3 hb4 hBr3
              have hts := As.mk hts
              go_wp2_with (fail)
              refine (hho _ _ _ hsl3).mono ?_; rintro e w4 ⟨⟨v4, rfl, hO4⟩, hb5⟩
              have hv6 := hv5.kept hb5
              have hI6 := hI5.kept hb5
              have hb6 := hb3'.trans (hb5.mono (by rw [← hBs]; exact hb3'.size))
              rw [hfc.out]
              clear hO4 hv5 hI5 hb3' hsl3 hb5 c2'
              cases hcan : canB S (m ++ [(k : Int)])
              · have hts1 := hts.out
                rw [hcan, if_neg (by simp)] at hts1
                rw [if_neg (by simp)]
                rw [← hts1] at hv6
                go_wp2_with (fail)
                go_roundw
                case rel => exact ⟨k + 1, _, _, by omega, rfl, rfl, by go_num, hv6, hb6⟩
                case measure => simp [intOf]; omega
              · have hts1 := hts.out
                rw [hcan, if_pos rfl] at hts1
                rw [if_pos rfl]
                obtain ⟨us, ho1, ho2⟩ := hv6.o
                have hol := ho2.1
                go_wp2_with (at_builtin; refine app1 (w0 := w) (B) rfl (.tmp 63) (.tmp 65) 89 26 (.slice none 0 0) 24 rfl Try.underlying89 info_m rfl (by omega) (vo) (us) (.slice (some ⟨g2, 0, none⟩) (n + 1) c2) rfl rfl rfl ho1 hb6 (by rw [← hBs]; exact hb6.size) (by omega) ?_)
                intro v7 w7 hO7 hb7 hg7 hat7
                have hI6' : Own w4 B 42 (.slice (some ⟨g2, 0, none⟩) (m ++ [(k : Int)]).length c2) (i8s (m ++ [(k : Int)])) := hI6
                rw [← hl2] at hO7
                have hv7 := hv6.appO ho1 ho2 hI6' hO7 hg7 hat7
                rw [← hts1] at hv7
                go_wp2_with (fail)
                go_roundw
                case rel => exact ⟨k + 1, _, _, by omega, rfl, rfl, by go_num, hv7, hb7⟩
                case measure => simp [intOf]; omega
            · obtain rfl : k = K := by omega
              go_wp2_with (fail)
              go_roundw
              case rel => exact ⟨j + 1, _, _, by omega, rfl, rfl, by go_num, by rw [hsj.out]; exact hv3, hb3⟩
              case measure => simp [intOf]; omega
        · obtain rfl : j = ln := by omega
          have hBr := hcell _ hb2
          go_wp2_with (fail)
          go_roundw
          case rel =>
            refine ⟨n + 1, _, _, by omega, rfl, rfl, by go_num, ?_, ?_, ?_, hb2⟩
            · have := hv.o; rw [hfull.out, outTo_full] at this; exact this
            · have := hv.n; rw [hfull.out] at this; exact this
            · exact hv.on
          case measure => simp [intOf]; omega
    · obtain rfl : n = L := by omega
      go_wp2_with (fail)
      go_ret
      exact ⟨⟨_, rfl, hmo⟩, hb⟩
end Go.Proofs.Ytnokdbnlagoidaa
