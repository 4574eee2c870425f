/- Contracts: GroupsOf (both sides). -/
import Derived.Test.YtllplgjlpndpfaaMd
set_option linter.unusedVariables false
namespace Go.Proofs.Ytllplgjlpndpfaa
open Go.RowKit

/-- The groups of the first k numbers. -/
def grT (m : List Int) : Nat → List (List Int)
  | 0 => [[]]
  | k + 1 => if nth m k = -10 then grT m k ++ [[]] else (grT m k).set ((grT m k).length - 1) (nthL (grT m k) ((grT m k).length - 1) ++ [nth m k])
theorem grT_len (m : List Int) : ∀ k, 1 ≤ (grT m k).length ∧ (grT m k).length ≤ k + 1
  | 0 => by simp [grT]
  | k + 1 => by
    have := grT_len m k
    unfold grT; split
    · rw [List.length_append]; simp; omega
    · rw [List.length_set]; omega
theorem grT_in (m : List Int) : ∀ k i, (nthL (grT m k) i).length ≤ k
  | 0, i => by
    by_cases h : i < 1
    · obtain rfl : i = 0 := by omega
      simp [grT, nthL]
    · simp [grT, nthL]
      rw [List.getElem?_eq_none (by simp; omega)]; simp
  | k + 1, i => by
    have ih := grT_in m k
    have hl := grT_len m k
    unfold grT; split
    · by_cases h : i < (grT m k).length
      · rw [nthL_lt h]; have := ih i; omega
      · unfold nthL
        rw [List.getD_eq_getElem?_getD, List.getElem?_append_right (by omega)]
        cases i - (grT m k).length with
        | zero => simp
        | succ q => simp
    · rw [nthL_set _ _ _ _ (by omega)]
      split
      · rw [List.length_append]; have := ih ((grT m k).length - 1); simp; omega
      · have := ih i; omega
def goL (m : List Int) : List (List Int) := if mOk m then grT m m.length else []
def goC (m : List Int) : Int := if mOk m then 0 else 1
def GaveM (gs : List (List Int)) (cc : Int) (base : Nat) (e : Ending) (w' : World) : Prop := ∃ v, e = .returned (.tuple #[v, .int .i64 cc]) ∧ MD w' base v gs
theorem mOk_len' {m : List Int} (h : mOk m = true) : 1 ≤ m.length ∧ m.length ≤ 8 := hOk_len (mOk_hOk h)
theorem i8_snoc' (xs : List Int) (x : Int) : i8s xs ++ [.int .i8 x] = i8s (xs ++ [x]) := by simp [i8s]
/-- The first list: one that is empty. -/
theorem MD.first (w : World) : MD ((w.alloc (.cells #[] 62)).alloc (.cells #[.slice (some ⟨w.heap.size, 0, none⟩) 0 0] 29)) w.heap.size (.slice (some ⟨w.heap.size + 1, 0, none⟩) 1 1) [[]] := by
  have h1 := Own.lit (w.alloc (.cells #[] 62)) w.heap.size 29 [.slice (some ⟨w.heap.size, 0, none⟩) 0 0] (by simp) (by simp)
  have i0 := (Own.lit w w.heap.size 62 [] (Nat.le_refl _) (by simp)).alloc (.cells #[.slice (some ⟨w.heap.size, 0, none⟩) 0 0] 29)
  refine ⟨_, by simpa using h1, ?_, ?_⟩
  · have := (Inn.nil ((w.alloc (.cells #[] 62)).alloc (.cells #[.slice (some ⟨w.heap.size, 0, none⟩) 0 0] 29)) w.heap.size).snoc (m := []) (g := w.heap.size) (c := 0) i0
    exact this
  · intro i j u x hij hu hx
    have := (List.getElem?_eq_some_iff.1 hu).1
    have := (List.getElem?_eq_some_iff.1 hx).1
    simp at *; omega

set_option maxRecDepth 100000 in
set_option maxHeartbeats 4000000 in
theorem GroupsOf_any (m : List Int) (rm : ∀ n ∈ m, -128 ≤ n ∧ n ≤ 127) (hn : m.length ≤ 1048576) (A : Option Addr) (cm : Nat) (w : World) (hs : Sl .i8 w A m) :
    Calls Try.prog 36 #[.slice A m.length cm] w fun e w' => GaveM (goL m) (goC m) w.heap.size e w' ∧ Below w.heap.size w w' := by
  have key := ValidMeaning_any m A cm w hs rm hn
  unfold goL goC
  cases hk : mOk m
  · rw [hk] at key
    go_enter Try.func36, Try.ntmps36
    go_wp2_with (fail)
    refine key.mono ?_; rintro e w1 ⟨rfl, hb⟩
    go_wp2_with (fail)
    go_ret2
    exact ⟨⟨_, rfl, MD.nil _ _⟩, hb⟩
  rw [hk] at key
  have h8 := (mOk_len' hk).2
  simp only [if_true]
  have hgl := As.mk (grT_len m)
  have hgi := As.mk (grT_in m)
  have hst := As.mk (show ∀ k, grT m (k + 1) = if nth m k = -10 then grT m k ++ [[]] else (grT m k).set ((grT m k).length - 1) (nthL (grT m k) ((grT m k).length - 1) ++ [nth m k]) from fun _ => rfl)
  have hg0 := As.mk (show grT m 0 = [[]] from rfl)
  clear hk
  generalize hml : m.length = n at *
  have hml := As.mk hml
  have h8' : (n : Int) ≤ 8 := by omega
  go_enter Try.func36, Try.ntmps36
  go_wp2_with (fail)
  refine key.mono ?_; rintro e w1 ⟨rfl, hb1⟩
  have hs1 := hs.kept hb1
  have hM0 := (MD.first w1).lower hb1.size
  have hb0 := bl_new (bl_new hb1 (.cells #[] 62)) (.cells #[.slice (some ⟨w1.heap.size, 0, none⟩) 0 0] 29)
  rw [← hg0.out] at hM0
  go_wp2_with (fail)
  go_loopw [4, 14] (fun v0 i wr => ∃ (k : Nat) (v : Value), k ≤ n ∧ v = v0 ∧ i = .int .i64 k ∧ MD wr w.heap.size v (grT m k) ∧ Below w.heap.size w wr) (fun _ i _ => n - (intOf i).toNat)
  case atStart => exact ⟨0, _, by omega, rfl, rfl, hM0, hb0⟩
  case round =>
    obtain ⟨k, v, hk, rfl, rfl, hM, hb⟩ := hrel
    clear hM0 hb0 key
    by_cases hlt : k < n
    · have hlt' : (k : Int) < (n : Int) := by omega
      obtain ⟨b1, o, hA, hr1⟩ := (hs.kept hb).2 (by rw [hml.out]; omega)
      subst hA
      have c0 := hr1 k _ (i8s_get m k (by rw [hml.out]; exact hlt))
      have hstk := As.mk (hst.out k)
      have hglk := hgl.out k
      have hgik := hgi.out k ((grT m k).length - 1)
      clear hr1
      generalize nth m k = x at *
      generalize hgs : grT m k = gs at *
      have hgs := As.mk hgs
      obtain ⟨l, hl⟩ : ∃ l, gs.length = l + 1 := ⟨gs.length - 1, by omega⟩
      have hl1 : gs.length - 1 = l := by omega
      rw [hl1] at hstk hgik
      obtain ⟨vs, h1, h2, h3⟩ := hM
      have hvl : vs.length = l + 1 := by rw [h2.1]; exact hl
      obtain ⟨g, c', e, hOi⟩ := h2.2 l (by omega)
      obtain ⟨A4, c4, rfl⟩ := h1.slice
      obtain ⟨G, rfl⟩ := h1.addr (by omega)
      have cl : wr.cell? ⟨G, l, none⟩ = some (.slice (some ⟨g, 0, none⟩) (nthL gs l).length c') := by rw [h1.cellAt l (by omega)]; exact e
      have bB : w.heap.size ≤ wr.heap.size := hb.size
      rw [hvl] at h1 ⊢
      have hlI : ((l + 1 : Nat) : Int) = (l : Int) + 1 := by omega
      have hl9 : (l : Int) ≤ 9 := by omega
      have hlp : (l : Int) < (l : Int) + 1 := by omega
      by_cases hx : x = -10
      · have hstk2 := As.mk (show grT m (k + 1) = gs ++ [[]] by rw [hstk.out, if_pos hx])
        clear hstk
        subst hx
        have hOn := Own.lit wr w.heap.size 62 [] bB (by simp)
        have hbn := bl_new (Below.refl _ wr) (.cells #[] 62)
        have h1n := h1.kept hbn
        have h2n := h2.kept hbn
        have hbw := bl_new hb (.cells #[] 62)
        have hnew : ∀ (i : Nat) (y : Value), vs[i]? = some y → Ap y (.slice (some ⟨wr.heap.size, 0, none⟩) 0 0) := fun i y hy a ha hc => by
          obtain ⟨g2, c2, e2, hO2⟩ := h2.2 i (by rw [← h2.1]; exact (List.getElem?_eq_some_iff.1 hy).1)
          rw [hy] at e2
          simp only [Option.some.injEq] at e2
          subst e2
          have := hO2.lt a ha
          simp [Value.ownBlock] at hc; omega
        have hOn : Own (wr.alloc (.cells #[] 62)) w.heap.size 62 (.slice (some ⟨wr.heap.size, 0, none⟩) ([] : List Int).length 0) (i8s []) := hOn
        have hszz : (wr.alloc (.cells #[] 62)).heap.size = wr.heap.size + 1 := by simp
        go_wp2_with (at_builtin; refine app1 (w0 := w) (w.heap.size) rfl (.tmp 20) (.tmp 22) 45 29 (.slice none 0 0) 24 rfl Try.underlying45 info_m rfl (by omega) (.slice (some ⟨G, 0, none⟩) (l + 1) c4) (vs) (.slice (some ⟨wr.heap.size, 0, none⟩) 0 0) rfl (by rw [hszz]; rfl) rfl h1n hbw hbw.size (by omega) ?_)
        intro v3 w3 hO3 hb3 hg3 _
        have hMn := MD.snoc h1n h2n h3 hOn hnew hO3 hg3
        rw [← hstk2.out] at hMn
        go_wp2_with (fail)
        go_roundw
        case rel => exact ⟨k + 1, _, by omega, rfl, by go_num, hMn, hb3⟩
        case measure => simp [intOf]; omega
      · have hstk2 := As.mk (show grT m (k + 1) = gs.set l (nthL gs l ++ [x]) by rw [hstk.out, if_neg hx])
        clear hstk
        have hxb : (x == -10) = false := by rw [beq_eq_false_iff_ne]; exact hx
        clear hx
        have hml2 := i8s_length (nthL gs l)
        have hl2 : (nthL gs l ++ [x]).length = (nthL gs l).length + 1 := by simp
        generalize hmm : nthL gs l = mm at *
        have hmm := As.mk hmm
        generalize hmn : mm.length = mn at *
        have hmn := As.mk hmn
        go_wp2_with (at_builtin; refine app1 (w0 := w) (w.heap.size) rfl (.tmp 33) (.tmp 35) 29 62 (.int .i8 0) 1 rfl Try.underlying29 info_i8 rfl (by omega) (.slice (some ⟨g, 0, none⟩) mn c') (i8s mm) (.int .i8 x) rfl rfl rfl hOi hb bB (by rw [hml2]; omega) ?_)
        intro v2 w2 hO2 hb2 hg2 hat2
        rw [i8_snoc'] at hO2
        obtain ⟨A2, c2, rfl⟩ := hO2.slice
        rw [i8s_length] at hO2 hat2 ⊢
        obtain ⟨g2, rfl⟩ := hO2.addr (by rw [i8s_length, hl2]; omega)
        have h1' : Own w2 w.heap.size 29 (.slice (some ⟨G, 0, none⟩) (l + 1) c4) vs := h1.grown hg2 ((Ap.of_typ hOi h1 im_ne).symm).ne
        obtain ⟨u0, cu⟩ := h1'.someAt l (by omega)
        have fu := h1'.frozenAt l
        have hMn := MD.put h1 h2 h3 hvl.symm l (by omega) e hO2 hg2 (by rw [hmm.out]; exact hOi) hat2
        rw [← hstk2.out] at hMn
        rw [hl2] at hMn ⊢
        have hbS : Below w.heap.size w (w2.setCell ⟨G, l, none⟩ (.slice (some ⟨g2, 0, none⟩) (mn + 1) c2)) := hb2.setCell (h1.ge G rfl) _
        clear h1 h2 h3 hOi hO2 hg2 hat2 h1'
        go_wp2_with (fail)
        go_roundw
        case rel => exact ⟨k + 1, _, by omega, rfl, by go_num, hMn, hbS⟩
        case measure => simp [intOf]; omega
    · obtain rfl : k = n := by omega
      go_wp2_with (fail)
      go_ret2
      exact ⟨⟨_, rfl, hM⟩, hb⟩
end Go.Proofs.Ytllplgjlpndpfaa
