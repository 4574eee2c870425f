/- Contract: (impl.Book).meanings. -/
import Derived.Test.YtnokdbnlagoidaaMs
set_option linter.unusedVariables false
namespace Go.Proofs.Ytnokdbnlagoidaa
open Go.RowKit

theorem Blk.grownT {w w' : World} {b : Nat} {cs ds : List Value} {t e : TypeId} {u : Value} {b2 : Nat} (h : Blk w b cs t) (hg : w.grownBy w' u.ownBlock) (hu : Own w b2 e u ds) (he : t ≠ e) : Blk w' b cs t := by
  refine (hg.block b h.lt (fun e' => ?_)).trans h
  obtain ⟨cur, q⟩ := hu.typ b e'.symm
  rw [show w.heap[b]? = _ from h] at q
  simp only [Option.some.injEq, Obj.cells.injEq] at q
  exact he q.2.1
/-- The book and what there is to be had, boxed. -/
structure Hb (w : World) (B H K L S : Nat) (psv : Value) (hps : List Int) : Prop where
  b : Blk w B [.int .i8 K, .int .i8 L, .int .i8 S, psv] 48
  h : Blk w H (i64s hps) 76
section
variable {w w' : World} {B H K L S : Nat} {psv : Value} {hps : List Int}
theorem Hb.kept (x : Hb w B H K L S psv hps) (hb : Below w.heap.size w w') : Hb w' B H K L S psv hps := ⟨x.b.kept hb, x.h.kept hb⟩
theorem Hb.grown (x : Hb w B H K L S psv hps) {u : Value} {b2 : Nat} {ds : List Value} (hg : w.grownBy w' u.ownBlock) (hu : Own w b2 26 u ds) : Hb w' B H K L S psv hps :=
  ⟨x.b.grownT hg hu (by decide), x.h.grownT hg hu (by decide)⟩
end

set_option maxRecDepth 100000 in
set_option maxHeartbeats 8000000 in
theorem meanings_any (K L S : Nat) (hK : 1 ≤ K ∧ K ≤ 10) (hL : 1 ≤ L ∧ L ≤ 3) (hS : S ≤ 4) (psv : Value) (w : World) :
    Calls Try.prog 73 #[.agg #[.int .i8 K, .int .i8 L, .int .i8 S, psv]] w fun e w' => (∃ v, e = .returned v ∧ ML w' w.heap.size v (outs K S L)) ∧ Below w.heap.size w w' := by
  have hev := fun W => even_any 1 S (by omega) hS W
  have hl44 := haveL_length 1 S []
  have hfi := fun m hm A c W h => first_any m hm A c 1 S (by omega) hS W h
  have hcanD := As.mk (show ∀ m, (!(found m 1 S).isEmpty) = canB S m from fun _ => rfl)
  simp only [hcanD.out] at hfi
  generalize haveL 1 S [] = hps at *
  have hK2 := hK.2
  have hL2 := hL.2
  have hK' : (K : Int) ≤ 10 := by omega
  have hL' : (L : Int) ≤ 3 := by omega
  have hS' : (S : Int) ≤ 4 := by omega
  have Bk0 : Blk ((w.alloc (.cells #[.int .i8 K, .int .i8 L, .int .i8 S, psv] 48)).alloc (.cells #[] 26)) w.heap.size [.int .i8 K, .int .i8 L, .int .i8 S, psv] 48 := (Blk.mk w [_, _, _, _] _ rfl).alloc _
  have bb := bl_new (bl_new (Below.refl _ w) (.cells #[.int .i8 K, .int .i8 L, .int .i8 S, psv] 48)) (.cells #[] 26)
  have o0 : Own ((w.alloc (.cells #[.int .i8 K, .int .i8 L, .int .i8 S, psv] 48)).alloc (.cells #[] 26)) w.heap.size 26 (.slice (some ⟨w.heap.size + 1, 0, none⟩) 0 0) [] := by
    have := Own.lit (w.alloc (.cells #[.int .i8 K, .int .i8 L, .int .i8 S, psv] 48)) w.heap.size 26 [] (by simp) (by simp)
    simpa using this
  have hev0 := hev ((w.alloc (.cells #[.int .i8 K, .int .i8 L, .int .i8 S, psv] 48)).alloc (.cells #[] 26))
  have hsz0 : ((w.alloc (.cells #[.int .i8 K, .int .i8 L, .int .i8 S, psv] 48)).alloc (.cells #[] 26)).heap.size = w.heap.size + 2 := by simp
  go_enter Try.func73, Try.ntmps73
  go_wp2_with (fail)
  refine hev0.mono ?_; rintro e w1 ⟨rfl, hb1⟩
  have Bk1 := Bk0.kept hb1
  have o1 := o0.kept hb1
  have bb1 := bl_call bb hb1
  have hsz1 := hb1.size
  rw [hsz0] at hsz1
  clear Bk0 bb o0 hev0 hsz0 hb1 hev
  have P0 : Blk (w1.alloc (.cells #[.int .i64 0, .int .i64 0, .int .i64 0, .int .i64 0, .int .i64 0, .int .i64 0, .int .i64 0, .int .i64 0, .int .i64 0, .int .i64 0, .int .i64 0, .int .i64 0, .int .i64 0, .int .i64 0, .int .i64 0, .int .i64 0, .int .i64 0, .int .i64 0, .int .i64 0, .int .i64 0, .int .i64 0, .int .i64 0, .int .i64 0, .int .i64 0, .int .i64 0, .int .i64 0, .int .i64 0, .int .i64 0, .int .i64 0, .int .i64 0, .int .i64 0, .int .i64 0, .int .i64 0, .int .i64 0, .int .i64 0, .int .i64 0, .int .i64 0, .int .i64 0, .int .i64 0, .int .i64 0, .int .i64 0, .int .i64 0, .int .i64 0, .int .i64 0] 76)) w1.heap.size (i64s zero44) 76 := Blk.mk _ (i64s zero44) _ (by simp)
  have P1 := P0.setRow (i64s hps)
  have Bk2 := (Bk1.alloc (.cells #[.int .i64 0, .int .i64 0, .int .i64 0, .int .i64 0, .int .i64 0, .int .i64 0, .int .i64 0, .int .i64 0, .int .i64 0, .int .i64 0, .int .i64 0, .int .i64 0, .int .i64 0, .int .i64 0, .int .i64 0, .int .i64 0, .int .i64 0, .int .i64 0, .int .i64 0, .int .i64 0, .int .i64 0, .int .i64 0, .int .i64 0, .int .i64 0, .int .i64 0, .int .i64 0, .int .i64 0, .int .i64 0, .int .i64 0, .int .i64 0, .int .i64 0, .int .i64 0, .int .i64 0, .int .i64 0, .int .i64 0, .int .i64 0, .int .i64 0, .int .i64 0, .int .i64 0, .int .i64 0, .int .i64 0, .int .i64 0, .int .i64 0, .int .i64 0] 76)).farRow (g := w1.heap.size) (by omega) (i64s hps).toArray
  have bb2 := bl_setRow (bl_new bb1 (.cells #[.int .i64 0, .int .i64 0, .int .i64 0, .int .i64 0, .int .i64 0, .int .i64 0, .int .i64 0, .int .i64 0, .int .i64 0, .int .i64 0, .int .i64 0, .int .i64 0, .int .i64 0, .int .i64 0, .int .i64 0, .int .i64 0, .int .i64 0, .int .i64 0, .int .i64 0, .int .i64 0, .int .i64 0, .int .i64 0, .int .i64 0, .int .i64 0, .int .i64 0, .int .i64 0, .int .i64 0, .int .i64 0, .int .i64 0, .int .i64 0, .int .i64 0, .int .i64 0, .int .i64 0, .int .i64 0, .int .i64 0, .int .i64 0, .int .i64 0, .int .i64 0, .int .i64 0, .int .i64 0, .int .i64 0, .int .i64 0, .int .i64 0, .int .i64 0] 76)) (g := w1.heap.size) bb1.size (i64s hps).toArray
  have o2 : Own ((w1.alloc (.cells #[.int .i64 0, .int .i64 0, .int .i64 0, .int .i64 0, .int .i64 0, .int .i64 0, .int .i64 0, .int .i64 0, .int .i64 0, .int .i64 0, .int .i64 0, .int .i64 0, .int .i64 0, .int .i64 0, .int .i64 0, .int .i64 0, .int .i64 0, .int .i64 0, .int .i64 0, .int .i64 0, .int .i64 0, .int .i64 0, .int .i64 0, .int .i64 0, .int .i64 0, .int .i64 0, .int .i64 0, .int .i64 0, .int .i64 0, .int .i64 0, .int .i64 0, .int .i64 0, .int .i64 0, .int .i64 0, .int .i64 0, .int .i64 0, .int .i64 0, .int .i64 0, .int .i64 0, .int .i64 0, .int .i64 0, .int .i64 0, .int .i64 0, .int .i64 0] 76)).setRow w1.heap.size (i64s hps).toArray) w.heap.size 26 (.slice (some ⟨w.heap.size + 1, 0, none⟩) 0 0) [] :=
    (o1.alloc (.cells #[.int .i64 0, .int .i64 0, .int .i64 0, .int .i64 0, .int .i64 0, .int .i64 0, .int .i64 0, .int .i64 0, .int .i64 0, .int .i64 0, .int .i64 0, .int .i64 0, .int .i64 0, .int .i64 0, .int .i64 0, .int .i64 0, .int .i64 0, .int .i64 0, .int .i64 0, .int .i64 0, .int .i64 0, .int .i64 0, .int .i64 0, .int .i64 0, .int .i64 0, .int .i64 0, .int .i64 0, .int .i64 0, .int .i64 0, .int .i64 0, .int .i64 0, .int .i64 0, .int .i64 0, .int .i64 0, .int .i64 0, .int .i64 0, .int .i64 0, .int .i64 0, .int .i64 0, .int .i64 0, .int .i64 0, .int .i64 0, .int .i64 0, .int .i64 0] 76)).grown (setRow_grown _ _ _) (.inr (by simp [Value.ownBlock]; omega))
  have X2 : Hb ((w1.alloc (.cells #[.int .i64 0, .int .i64 0, .int .i64 0, .int .i64 0, .int .i64 0, .int .i64 0, .int .i64 0, .int .i64 0, .int .i64 0, .int .i64 0, .int .i64 0, .int .i64 0, .int .i64 0, .int .i64 0, .int .i64 0, .int .i64 0, .int .i64 0, .int .i64 0, .int .i64 0, .int .i64 0, .int .i64 0, .int .i64 0, .int .i64 0, .int .i64 0, .int .i64 0, .int .i64 0, .int .i64 0, .int .i64 0, .int .i64 0, .int .i64 0, .int .i64 0, .int .i64 0, .int .i64 0, .int .i64 0, .int .i64 0, .int .i64 0, .int .i64 0, .int .i64 0, .int .i64 0, .int .i64 0, .int .i64 0, .int .i64 0, .int .i64 0, .int .i64 0] 76)).setRow w1.heap.size (i64s hps).toArray) w.heap.size w1.heap.size K L S psv hps := ⟨Bk2, P1⟩
  have hz44 : zero44.length = 44 := by simp [zero44]
  clear P1 Bk1 Bk2 o1 bb1
  have hszH : ((w1.alloc (.cells #[.int .i64 0, .int .i64 0, .int .i64 0, .int .i64 0, .int .i64 0, .int .i64 0, .int .i64 0, .int .i64 0, .int .i64 0, .int .i64 0, .int .i64 0, .int .i64 0, .int .i64 0, .int .i64 0, .int .i64 0, .int .i64 0, .int .i64 0, .int .i64 0, .int .i64 0, .int .i64 0, .int .i64 0, .int .i64 0, .int .i64 0, .int .i64 0, .int .i64 0, .int .i64 0, .int .i64 0, .int .i64 0, .int .i64 0, .int .i64 0, .int .i64 0, .int .i64 0, .int .i64 0, .int .i64 0, .int .i64 0, .int .i64 0, .int .i64 0, .int .i64 0, .int .i64 0, .int .i64 0, .int .i64 0, .int .i64 0, .int .i64 0, .int .i64 0] 76)).setRow w1.heap.size (i64s hps).toArray).heap.size = w1.heap.size + 1 := by simp
  obtain ⟨wH, hwH⟩ : ∃ wH, wH = (w1.alloc (.cells #[.int .i64 0, .int .i64 0, .int .i64 0, .int .i64 0, .int .i64 0, .int .i64 0, .int .i64 0, .int .i64 0, .int .i64 0, .int .i64 0, .int .i64 0, .int .i64 0, .int .i64 0, .int .i64 0, .int .i64 0, .int .i64 0, .int .i64 0, .int .i64 0, .int .i64 0, .int .i64 0, .int .i64 0, .int .i64 0, .int .i64 0, .int .i64 0, .int .i64 0, .int .i64 0, .int .i64 0, .int .i64 0, .int .i64 0, .int .i64 0, .int .i64 0, .int .i64 0, .int .i64 0, .int .i64 0, .int .i64 0, .int .i64 0, .int .i64 0, .int .i64 0, .int .i64 0, .int .i64 0, .int .i64 0, .int .i64 0, .int .i64 0, .int .i64 0] 76)).setRow w1.heap.size (i64s hps).toArray := ⟨_, rfl⟩
  rw [← hwH] at X2 o2 bb2 hszH
  obtain ⟨W, hW⟩ : ∃ W, W = (wH.alloc (.cells #[] 42)).alloc (.cells #[.slice (some ⟨w1.heap.size + 1, 0, none⟩) 0 0] 26) := ⟨_, rfl⟩
  have bX : Below wH.heap.size wH W := by rw [hW]; exact bl_new (bl_new (Below.refl _ wH) _) _
  have X0 := X2.kept bX
  have b0 := bl_call bb2 bX
  have m0 : ML W w.heap.size (.slice (some ⟨w.heap.size + 1, 0, none⟩) 0 0) (outs K S 0) := ⟨[], o2.kept bX, Inn.nil _ _⟩
  have i0 : Own W w.heap.size 42 (.slice (some ⟨w1.heap.size + 1, 0, none⟩) 0 0) [] := by
    have := (Own.lit wH w.heap.size 42 [] (by omega) (by simp)).alloc (.cells #[.slice (some ⟨w1.heap.size + 1, 0, none⟩) 0 0] 26)
    rw [← hW, hszH] at this
    exact this
  have m1 : ML W w.heap.size (.slice (some ⟨w1.heap.size + 1 + 1, 0, none⟩) 1 1) (lev K 0) := by
    have h2 := Own.lit (wH.alloc (.cells #[] 42)) w.heap.size 26 [.slice (some ⟨w1.heap.size + 1, 0, none⟩) 0 0] (by simp; omega) (by simp)
    rw [← hW, show (wH.alloc (.cells #[] 42)).heap.size = w1.heap.size + 1 + 1 by simp [hszH]] at h2
    refine ⟨_, h2, ?_⟩
    have := (Inn.nil W w.heap.size).snoc (m := []) (g := w1.heap.size + 1) (c := 0) i0
    exact this
  have a0 : Ap (.slice (some ⟨w.heap.size + 1, 0, none⟩) 0 0) (.slice (some ⟨w1.heap.size + 1 + 1, 0, none⟩) 1 1) := by
    intro k h1 h2
    simp [Value.ownBlock] at h1 h2
    omega
  have c1W : W.cell? ⟨w.heap.size, 1, none⟩ = some (.int .i8 L) := by rw [X0.b.at]; rfl
  rw [hW, hwH] at c1W
  rw [hwH] at hW
  clear hwH bX X2 o2 bb2 i0
  generalize hHs : w1.heap.size = H at *
  go_wp2_with (refine store_blk rfl 76 _ _ rfl _ rfl (ds := i64s hps) rfl P0 info_44 (by rw [i64s_length]; exact hl44) (by rw [i64s_length]; exact hz44) (i64s_one _) ?_)
  go_loopw [3, 5, 22] (fun vo0 vl0 le wr => ∃ (n : Nat) (vo vl : Value), n ≤ L ∧ vo = vo0 ∧ vl = vl0 ∧ le = .int .i8 (n : Int) ∧ ML wr w.heap.size vo (outs K S n) ∧ ML wr w.heap.size vl (lev K n) ∧ Ap vo vl ∧ Hb wr w.heap.size H K L S psv hps ∧ Below w.heap.size w wr) (fun _ _ le _ => 5 - (intOf le).toNat)
  case atStart => rw [← hW]; exact ⟨0, _, _, by omega, rfl, rfl, rfl, m0, m1, a0, X0, b0⟩
  case round =>
    obtain ⟨n, vo, vl, hn, rfl, rfl, rfl, hmo, hml, hap, hX, hb⟩ := hrel
    clear m0 m1 a0 b0 hW X0 P0 c1W hHs
    have hn3 : (n : Int) ≤ 3 := by omega
    by_cases hlt : n < L
    · have hle : (n : Int) < (L : Int) := by omega
      have bB : w.heap.size ≤ wr.heap.size := hb.size
      have hbn0 := bl_new (Below.refl _ wr) (.cells #[] 26)
      have Lv0 : Lv (wr.alloc (.cells #[] 26)) w.heap.size vo vl (.slice (some ⟨wr.heap.size, 0, none⟩) 0 0) (outTo K S n (levTo K n 0)) (lev K n) (levTo K n 0) := by
        refine ⟨by rw [levTo_zero, outTo_nil]; exact hmo.kept hbn0, hml.kept hbn0, ⟨[], Own.lit wr w.heap.size 26 [] bB (by simp), Inn.nil _ _⟩, hap, ?_, ?_⟩
        · intro k h1 h2
          obtain ⟨vs, q1, _⟩ := hmo
          have := q1.lt k h1
          simp [Value.ownBlock] at h2; omega
        · intro k h1 h2
          obtain ⟨vs, q1, _⟩ := hml
          have := q1.lt k h1
          simp [Value.ownBlock] at h2; omega
      have hbn := bl_new hb (.cells #[] 26)
      have hXn := hX.kept hbn0
      obtain ⟨Al, cl, rfl⟩ := hml.slice
      have hll := lev_length K n
      have hpow := pow_small (K := K) (n := n) hK2 (by omega)
      rw [← hll] at hpow
      have hlm := lev_mem K n
      have hfull := As.mk (levTo_full K n)
      have hsucc := levTo_succ K n
      have hto := outTo_le K S n hK2 (by omega)
      clear hll hmo hml hap hX hbn0
      generalize hLn : (lev K n).length = ln at *
      have hpow' : (ln : Int) ≤ 1000 := by omega
      go_wp2_with (fail)
      go_loopw [3, 6, 27] (fun vo0 vn0 i wr => ∃ (j : Nat) (vo vn : Value), j ≤ ln ∧ vo = vo0 ∧ vn = vn0 ∧ i = .int .i64 j ∧ Lv wr w.heap.size vo (.slice Al ln cl) vn (outTo K S n (levTo K n j)) (lev K n) (levTo K n j) ∧ Hb wr w.heap.size H K L S psv hps ∧ Below w.heap.size w wr) (fun _ _ i _ => ln - (intOf i).toNat)
      case atStart => exact ⟨0, _, _, by omega, rfl, rfl, rfl, Lv0, hXn, hbn⟩
      case round =>
        obtain ⟨j, vo, vn, hj, rfl, rfl, rfl, hv, hX2, hb2⟩ := hrel
        clear Lv0 hbn hXn hb
        by_cases hlj : j < ln
        · have hlj' : (j : Int) < (ln : Int) := by omega
          have hsj := As.mk (hsucc j hlj)
          have hmj := hlm _ (nthL_mem (lev K n) j (by rw [hLn]; exact hlj))
          have hjn := As.mk (show (levTo K n j).length ≤ 10000 by
            unfold levTo
            rw [flat_kids, List.length_take]
            have : min j (lev K n).length ≤ 1000 := by omega
            calc _ ≤ 1000 * 10 := Nat.mul_le_mul this hK2
              _ = _ := by omega)
          obtain ⟨G, g, c', hAl, cm, hm⟩ := hv.l.at j (by rw [hLn]; exact hlj)
          obtain ⟨G, rfl⟩ : ∃ G', Al = some ⟨G', 0, none⟩ := ⟨G, hAl⟩
          simp only [Option.some.injEq, Addr.mk.injEq, and_true] at hAl
          subst hAl
          generalize nthL (lev K n) j = m at *
          have hml8 := hmj.1
          have hmj := As.mk hmj.2
          rw [hml8] at cm hm
          have hml8 := As.mk hml8
          have c0 := hX2.b.at 0
          simp only [List.getElem?_cons_zero] at c0
          go_wp2_with (fail)
          go_loopw [3, 6, 33] (fun vo0 vn0 kd wr => ∃ (k : Nat) (vo vn : Value), k ≤ K ∧ vo = vo0 ∧ vn = vn0 ∧ kd = .int .i8 k ∧ Lv wr w.heap.size vo (.slice (some ⟨G, 0, none⟩) ln cl) vn (outTo K S n (levTo K n j ++ kidsTo m k)) (lev K n) (levTo K n j ++ kidsTo m k) ∧ Own wr w.heap.size 42 (.slice (some ⟨g, 0, none⟩) n c') (i8s m) ∧ Hb wr w.heap.size H K L S psv hps ∧ Below w.heap.size w wr) (fun _ _ kd _ => K - (intOf kd).toNat)
          case atStart => exact ⟨0, _, _, by omega, rfl, rfl, rfl, by rw [show kidsTo m 0 = [] from rfl, List.append_nil]; exact hv, hm, hX2, hb2⟩
          case round =>
            clear hv cm hm hX2 hb2 c0
            obtain ⟨k, vo, vn, hk, rfl, rfl, rfl, hv3, hm, hX3, hb3⟩ := hrel
            by_cases hlk : k < K
            · have hlk' : (k : Int) < (K : Int) := by omega
              have hkm := kidsTo_succ m k
              have hkl := kidsTo_length m k
              have hmk : ∀ x ∈ m ++ [(k : Int)], 0 ≤ x ∧ x ≤ 39 := fun x hx => by
                rcases List.mem_append.1 hx with hx | hx
                · have := hmj.out x hx; omega
                · simp at hx; subst hx; omega
              have hl2 : (m ++ [(k : Int)]).length = n + 1 := by rw [List.length_append, hml8.out]; rfl
              have hil := i8s_length m
              rw [hml8.out] at hil
              have hmO := kinds_mOk hmk (by rw [hl2]; omega) (by rw [hl2]; omega)
              have hfk := fun A c W h => hfi (m ++ [(k : Int)]) hmO A c W h
              rw [hl2] at hfk
              have hmO := As.mk hmO
              have hmk := As.mk hmk
              have hclo := CloneM_own m _ _ wr hm (by rw [hml8.out]; omega)
              go_wp2_with (fail)
              refine hclo.mono ?_; rintro e w1 ⟨u1, rfl, hO1, hb1⟩
              have hil1 := hil
              go_wp2_with (at_builtin; refine app1 (w0 := wr) (wr.heap.size) rfl (.tmp 37) (.tmp 39) 26 42 (.int .i8 0) 1 rfl Try.underlying26 info_i8 rfl (by omega) (u1) (i8s m) (.int .i8 (k : Int)) rfl rfl rfl hO1 hb1 hb1.size (by rw [hil]; omega) ?_)
              intro v2 w2 hO2 hb2 _ _
              rw [i8s_snoc] at hO2
              obtain ⟨A2, c2, rfl⟩ := hO2.slice
              rw [i8s_length, hl2] at hO2 ⊢
              obtain ⟨g2, rfl⟩ := hO2.addr (by rw [i8s_length, hl2]; omega)
              have hv4 := hv3.kept hb2
              have hm4 := hm.kept hb2
              have hX4 := hX3.kept hb2
              have hb4 := bl_call hb3 hb2
              have hO2' := hO2.lower (b' := w.heap.size) hb3.size
              clear hv3 hm hX3 hclo hO1 hb1 hO2 hb2
              obtain ⟨vs, hn1, hn2⟩ := hv4.n
              have hnl := hn2.1
              rw [List.length_append, hkl] at hnl
              have hj1 := hjn.out
              go_wp2_with (at_builtin; refine app1 (w0 := w) (w.heap.size) rfl (.tmp 41) (.tmp 43) 89 26 (.slice none 0 0) 24 rfl Try.underlying89 info_m rfl (by omega) (vn) (vs) (.slice (some ⟨g2, 0, none⟩) (n + 1) c2) rfl rfl rfl hn1 hb4 hb4.size (by omega) ?_)
              intro v3 w3 hO3 hb3' hg3 hat3
              have hO2'' : Own w2 w.heap.size 42 (.slice (some ⟨g2, 0, none⟩) (m ++ [(k : Int)]).length c2) (i8s (m ++ [(k : Int)])) := by rw [hl2]; exact hO2'
              rw [← hl2] at hO3
              obtain ⟨hv5, hI5⟩ := hv4.appN hn1 hn2 hO2'' hO3 hg3 hat3
              have hX5 := hX4.grown hg3 hn1
              have hm5 := hm4.grown hg3 (Ap.of_typ hm4 hn1 im_ne).ne
              have hsl3 := hI5.sl'
              have hts := outTo_snoc K S n (levTo K n j ++ kidsTo m k) (m ++ [(k : Int)])
              have htl := hto (levTo K n j ++ kidsTo m k)
              rw [List.length_append, hkl] at htl
              rw [List.append_assoc, ← hkm] at hts hv5
              have hkm := As.mk hkm
              have hts := As.mk hts
              have hfk3 := hfk _ c2 _ hsl3
              have hXh := hX5.h
              clear hv4 hm4 hX4 hn1 hn2 hnl hO3 hO2' hO2'' hg3 hat3 hb4 hfk
              go_wp2_with (refine load_blk rfl 76 _ rfl _ rfl hXh Try.underlying76 rfl info_44 (by rw [i64s_length]; exact hl44) ?_)
              refine hfk3.mono ?_; rintro e w4 ⟨⟨v4, rfl, hO4⟩, hb5⟩
              have hv6 := hv5.kept hb5
              have hI6 := hI5.kept hb5
              have hm6 := hm5.kept hb5
              have hX6 := hX5.kept hb5
              have hb6 := bl_call hb3' hb5
              clear hO4 hv5 hI5 hm5 hX5 hXh hb3' hsl3 hb5 hfk3
              cases hcan : canB S (m ++ [(k : Int)])
              · have hts1 := hts.out
                rw [hcan, if_neg (by simp)] at hts1
                rw [← hts1] at hv6
                go_wp2_with (fail)
                go_roundw
                case rel => exact ⟨k + 1, _, _, by omega, rfl, rfl, by go_num, hv6, hm6, hX6, hb6⟩
                case measure => simp [intOf]; omega
              · have hts1 := hts.out
                rw [hcan, if_pos rfl] at hts1
                obtain ⟨us, ho1, ho2⟩ := hv6.o
                have hol := ho2.1
                go_wp2_with (at_builtin; refine app1 (w0 := w) (w.heap.size) rfl (.tmp 52) (.tmp 54) 89 26 (.slice none 0 0) 24 rfl Try.underlying89 info_m rfl (by omega) (vo) (us) (.slice (some ⟨g2, 0, none⟩) (n + 1) c2) rfl rfl rfl ho1 hb6 hb6.size (by omega) ?_)
                intro v7 w7 hO7 hb7 hg7 hat7
                have hI6' : Own w4 w.heap.size 42 (.slice (some ⟨g2, 0, none⟩) (m ++ [(k : Int)]).length c2) (i8s (m ++ [(k : Int)])) := hI6
                rw [← hl2] at hO7
                have hv7 := hv6.appO ho1 ho2 hI6' hO7 hg7 hat7
                rw [← hts1] at hv7
                have hX7 := hX6.grown hg7 ho1
                have hm7 := hm6.grown hg7 (Ap.of_typ hm6 ho1 im_ne).ne
                go_wp2_with (fail)
                go_roundw
                case rel => exact ⟨k + 1, _, _, by omega, rfl, rfl, by go_num, hv7, hm7, hX7, hb7⟩
                case measure => simp [intOf]; omega
            · obtain rfl : k = K := by omega
              go_wp2_with (fail)
              go_roundw
              case rel => exact ⟨j + 1, _, _, by omega, rfl, rfl, by go_num, by rw [hsj.out]; exact hv3, hX3, hb3⟩
              case measure => simp [intOf]; omega
        · obtain rfl : j = ln := by omega
          go_wp2_with (fail)
          go_roundw
          case rel =>
            refine ⟨n + 1, _, _, by omega, rfl, rfl, by go_num, ?_, ?_, ?_, hX2, hb2⟩
            · have := hv.o; rw [hfull.out, outTo_full] at this; exact this
            · have := hv.n; rw [hfull.out] at this; exact this
            · exact hv.on
          case measure => simp [intOf]; omega
    · obtain rfl : n = L := by omega
      go_wp2_with (fail)
      go_ret
      exact ⟨⟨_, rfl, hmo⟩, hb⟩
end Go.Proofs.Ytnokdbnlagoidaa
