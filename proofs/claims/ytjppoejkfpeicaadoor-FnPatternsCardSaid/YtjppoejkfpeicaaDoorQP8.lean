/- Contracts and plain facts, several texts in one. -/
import Derived.Test.YtjppoejkfpeicaaDoorQP4
import Derived.Test.YtjppoejkfpeicaaDoorQP1
import Derived.Laws.IdiomCopy
import Derived.Test.YtjppoejkfpeicaaDoorQP2
import Derived.Great.FillDense
import Derived.Shelf.Small.Strs
import Derived.Shelf.Strings.Replace
import Derived.Test.YtjppoejkfpeicaaDoorProg
import Derived.Test.YtjppoejkfpeicaaDoorQP7
import Derived.Deep.OwnRows
import Derived.Maps.AppendAt
import Derived.OwnWalk
/- Contracts: l01Drawn, P6Flag, P6Set: flags that are drawn are valid. -/
set_option linter.unusedVariables false
set_option linter.unusedSimpArgs false
namespace Go.Proofs.YtjppoejkfpeicaaDoor
open Go.RowKit

theorem grow_row {w W : World} {row : Option Nat} (h : w.grownBy W row) {F : Nat} (hF : w.heap.size ≤ F) (ds : Array Value) : w.grownBy (W.setRow F ds) row :=
  ⟨h.os, h.tape, h.output, by rw [setRow_size]; exact h.size, fun k hk hne => by rw [← h.block k hk hne]; exact setRow_other W F k ds (by omega)⟩
theorem grow_cell {w W : World} {row : Option Nat} (h : w.grownBy W row) {a : Addr} (hF : w.heap.size ≤ a.block) (v : Value) : w.grownBy (W.setCell a v) row :=
  ⟨h.os, h.tape, h.output, by simpa [World.setCell] using h.size, fun k hk hne => by rw [← h.block k hk hne]; exact heap_setCell_other W a k v (by omega)⟩
theorem grow_below {w W W' : World} {row : Option Nat} (h : w.grownBy W row) (hb : Below W.heap.size W W') : w.grownBy W' row :=
  ⟨hb.os.trans h.os, hb.tape.trans h.tape, hb.output.trans h.output, Nat.le_trans h.size hb.size, fun k hk hne => (hb.block k (Nat.lt_of_lt_of_le hk h.size)).trans (h.block k hk hne)⟩
theorem Src.re {w W W' : World} {P : Nat} {A : Option Addr} {xs : List Int} {c k0 k : Nat} (h0 : Src w P A xs c k0) (hW : Src W P A xs c k) (hg : w.grownBy W' (some P)) (hb : W'.heap[P]? = W.heap[P]?) : Src W' P A xs c k := by
  obtain ⟨at', seed, h1, h2⟩ := hW
  obtain ⟨_, _, h3, _⟩ := h0
  exact ⟨at', seed, ⟨hb.trans h1.blk, h3.sl.ofGrown hg h3.low, h1.len, h1.bytes, h1.at0, h1.seed0, h1.low⟩, h2⟩

structure Dw (w W : World) (P : Nat) (A : Option Addr) (xs : List Int) (c k F : Nat) (f : List Int) : Prop where
  src : Src W P A xs c k
  res : Blk W w.heap.size (u8s zero24) 23
  blk : Blk W F (u8s f) 23
  grw : w.grownBy W (some P)
  fine : Fine f
  low : w.heap.size < F
section
variable {w W W' : World} {P : Nat} {A : Option Addr} {xs : List Int} {c k k' F k0 : Nat} {f f' : List Int}
theorem Dw.pick (h : Dw w W P A xs c k F f) (hP : P < w.heap.size) (hg : W.grownBy W' (some P)) (hS : Src W' P A xs c k') : Dw w W' P A xs c k' F f :=
  ⟨hS, h.res.byGrown2 hg (by simp; omega), h.blk.byGrown2 hg (by have := h.low; simp; omega), h.grw.trans hg, h.fine, h.low⟩
theorem Dw.call (h : Dw w W P A xs c k F f) (hb : Below W.heap.size W W') : Dw w W' P A xs c k F f :=
  ⟨h.src.kept hb, h.res.kept hb, h.blk.kept hb, grow_below h.grw hb, h.fine, h.low⟩
theorem Dw.row (h : Dw w W P A xs c k F f) (h0 : Src w P A xs c k0) (hf : Fine f') : Dw w (W.setRow F (u8s f').toArray) P A xs c k F f' := by
  have hg := grow_row h.grw (Nat.le_of_lt h.low) (u8s f').toArray
  have hP := h0.lt
  have hlow := h.low
  exact ⟨h0.re h.src hg (setRow_other W F P _ (by omega)), h.res.farRow (by omega) _, h.blk.setRow _, hg, hf, h.low⟩
theorem Dw.set (h : Dw w W P A xs c k F f) (h0 : Src w P A xs c k0) (i : Nat) (x : Int) (hx : 0 ≤ x ∧ x ≤ 5) : Dw w (W.setCell ⟨F, i, none⟩ (.int .u8 x)) P A xs c k F (f.set i x) := by
  have hg := grow_cell (a := ⟨F, i, none⟩) h.grw (Nat.le_of_lt h.low) (.int .u8 x)
  have hP := h0.lt
  have hlow := h.low
  refine ⟨h0.re h.src hg (heap_setCell_other W ⟨F, i, none⟩ P _ (by show P ≠ F; omega)), h.res.far (by show w.heap.size ≠ F; omega) _, ?_, hg, h.fine.set i x hx.1 hx.2, h.low⟩
  have := h.blk.set i (.int .u8 x)
  rw [u8s_set] at this; exact this
end

set_option maxRecDepth 100000 in
set_option maxHeartbeats 4000000 in
theorem l01Drawn_any (P : Nat) (A : Option Addr) (xs : List Int) (c k : Nat) (hk : k < 999999000) (w : World) (hS : Src w P A xs c k) :
    Calls Tryd.prog 32 #[.pointer (some ⟨P, 0, none⟩)] w fun e w' => (∃ f, e = .returned (fl f) ∧ Fine f) ∧ Src w' P A xs c (k + 20) ∧ w.grownBy w' (some P) := by
  have hP := hS.lt
  have HS0 := As.mk hS
  have S0 := hS.kept (bl_new (Below.refl _ _) (.cells #[.int .u8 0, .int .u8 0, .int .u8 0, .int .u8 0, .int .u8 0, .int .u8 0, .int .u8 0, .int .u8 0, .int .u8 0, .int .u8 0, .int .u8 0, .int .u8 0, .int .u8 0, .int .u8 0, .int .u8 0, .int .u8 0, .int .u8 0, .int .u8 0, .int .u8 0, .int .u8 0, .int .u8 0, .int .u8 0, .int .u8 0, .int .u8 0] 23))
  have R0 : Blk (w.alloc (.cells #[.int .u8 0, .int .u8 0, .int .u8 0, .int .u8 0, .int .u8 0, .int .u8 0, .int .u8 0, .int .u8 0, .int .u8 0, .int .u8 0, .int .u8 0, .int .u8 0, .int .u8 0, .int .u8 0, .int .u8 0, .int .u8 0, .int .u8 0, .int .u8 0, .int .u8 0, .int .u8 0, .int .u8 0, .int .u8 0, .int .u8 0, .int .u8 0] 23)) w.heap.size (u8s zero24) 23 := Blk.mk _ (u8s zero24) _ rfl
  have g0 : w.grownBy (w.alloc (.cells #[.int .u8 0, .int .u8 0, .int .u8 0, .int .u8 0, .int .u8 0, .int .u8 0, .int .u8 0, .int .u8 0, .int .u8 0, .int .u8 0, .int .u8 0, .int .u8 0, .int .u8 0, .int .u8 0, .int .u8 0, .int .u8 0, .int .u8 0, .int .u8 0, .int .u8 0, .int .u8 0, .int .u8 0, .int .u8 0, .int .u8 0, .int .u8 0] 23)) (some P) := World.grownBy_alloc _ _ _
  have hne : (some P) ≠ some w.heap.size := by simp; omega
  go_enter Tryd.func32, Tryd.ntmps32
  go_wp2_with (fail)
  refine (pick_src P A xs c k (by omega) 6 (by omega) _ S0).mono ?_; rintro e w1 ⟨⟨a, rfl, a0, a1⟩, S1, G1⟩
  have R1 := R0.byGrown2 G1 hne
  have g1 := g0.trans G1
  clear S0 R0 g0 G1
  go_wp2_with (fail)
  refine (pick_src P A xs c (k + 1) (by omega) 6 (by omega) _ S1).mono ?_; rintro e w2 ⟨⟨b, rfl, b0, b1⟩, S2, G2⟩
  have R2 := R1.byGrown2 G2 hne
  have g2 := g1.trans G2
  clear S1 R1 g1 G2
  go_wp2_with (fail)
  refine (pick_src P A xs c (k + 1 + 1) (by omega) 4 (by omega) _ S2).mono ?_; rintro e w3 ⟨⟨d, rfl, d0, d1⟩, S3, G3⟩
  have R3 := R2.byGrown2 G3 hne
  have g3 := g2.trans G3
  clear S2 R2 g2 G3
  go_wp2_with (fail)
  refine (l01Made_fine a b d ⟨a0, by omega⟩ ⟨b0, by omega⟩ ⟨d0, by omega⟩ _).mono ?_; rintro e w4 ⟨⟨f, rfl, hf⟩, hb4⟩
  have S4 := S3.kept hb4
  have R4 := R3.kept hb4
  have g4 := grow_below g3 hb4
  have hw4 := As.mk R4.lt
  clear S3 R3 g3 hb4
  have X4 : Blk (w4.alloc (.cells #[.int .u8 0, .int .u8 0, .int .u8 0, .int .u8 0, .int .u8 0, .int .u8 0, .int .u8 0, .int .u8 0, .int .u8 0, .int .u8 0, .int .u8 0, .int .u8 0, .int .u8 0, .int .u8 0, .int .u8 0, .int .u8 0, .int .u8 0, .int .u8 0, .int .u8 0, .int .u8 0, .int .u8 0, .int .u8 0, .int .u8 0, .int .u8 0] 23)) w4.heap.size (u8s zero24) 23 := Blk.mk _ (u8s zero24) _ rfl
  have D4 : As (Dw w ((w4.alloc (.cells #[.int .u8 0, .int .u8 0, .int .u8 0, .int .u8 0, .int .u8 0, .int .u8 0, .int .u8 0, .int .u8 0, .int .u8 0, .int .u8 0, .int .u8 0, .int .u8 0, .int .u8 0, .int .u8 0, .int .u8 0, .int .u8 0, .int .u8 0, .int .u8 0, .int .u8 0, .int .u8 0, .int .u8 0, .int .u8 0, .int .u8 0, .int .u8 0] 23)).setRow w4.heap.size (u8s f).toArray) P A xs c (k + 3) w4.heap.size f) := ⟨by
    have D : Dw w (w4.alloc (.cells #[.int .u8 0, .int .u8 0, .int .u8 0, .int .u8 0, .int .u8 0, .int .u8 0, .int .u8 0, .int .u8 0, .int .u8 0, .int .u8 0, .int .u8 0, .int .u8 0, .int .u8 0, .int .u8 0, .int .u8 0, .int .u8 0, .int .u8 0, .int .u8 0, .int .u8 0, .int .u8 0, .int .u8 0, .int .u8 0, .int .u8 0, .int .u8 0] 23)) P A xs c (k + 3) w4.heap.size zero24 :=
      ⟨S4.kept (bl_new (Below.refl _ _) _), R4.alloc _, X4, grow_below g4 (bl_new (Below.refl _ _) _), by unfold Fine; decide, hw4.out⟩
    exact D.row HS0.out hf⟩
  have hl := hf.1
  clear S4 R4 g4 hf
  unfold fl
  go_wp2_with (refine store_blk rfl 23 _ _ rfl _ rfl rfl X4 info_fl (by rw [u8s_length]; exact hl) (by rw [u8s_length]; exact zero24_length) (u8s_one _) ?_)
  clear X4 hl
  generalize (w4.alloc (.cells #[.int .u8 0, .int .u8 0, .int .u8 0, .int .u8 0, .int .u8 0, .int .u8 0, .int .u8 0, .int .u8 0, .int .u8 0, .int .u8 0, .int .u8 0, .int .u8 0, .int .u8 0, .int .u8 0, .int .u8 0, .int .u8 0, .int .u8 0, .int .u8 0, .int .u8 0, .int .u8 0, .int .u8 0, .int .u8 0, .int .u8 0, .int .u8 0] 23)).setRow w4.heap.size (u8s f).toArray = w5 at *
  obtain ⟨F, hF⟩ : ∃ F, w4.heap.size = F := ⟨_, rfl⟩
  rw [hF] at D4 ⊢
  clear hF hw4
  refine (pick_src P A xs c (k + 3) (by omega) 5 (by omega) _ D4.out.src).mono ?_; rintro e w6 ⟨⟨t, rfl, t0, t1⟩, S6, G6⟩
  have D6 := As.mk (D4.out.pick hP G6 S6)
  clear D4 S6 G6
  by_cases h0 : t = 0
  case' pos =>
    subst h0
    clear t0 t1
    go_wp2_with (fail)
    refine (sPlain_fine a ⟨a0, by omega⟩ _).mono ?_; rintro e w7 ⟨⟨f7, rfl, hf7⟩, hb7⟩
    have D7 := As.mk (D6.out.call hb7)
    have X7 := D7.out.blk
    have hl0 := D7.out.fine.1
    have hl7 := hf7.1
    have D8 : As (∃ f, Dw w (w7.setRow F (u8s f7).toArray) P A xs c (k + 8) F f) := ⟨⟨f7, by
      have D := D7.out.row HS0.out hf7
      exact ⟨D.src.mono (by omega), D.res, D.blk, D.grw, D.fine, D.low⟩⟩⟩
    clear D6 hb7 D7 hf7
    unfold fl
    go_wp2_with (refine store_blk rfl 23 _ _ rfl _ rfl rfl X7 info_fl (by rw [u8s_length]; exact hl7) (by rw [u8s_length]; exact hl0) (u8s_one _) ?_)
    clear X7 hl0 hl7
    generalize w7.setRow F (u8s f7).toArray = w8 at *
  case' neg =>
    by_cases h1 : t = 1
    case' pos =>
      subst h1
      clear t0 t1 h0
      go_wp2_with (fail)
      refine (pick_src P A xs c (k + 3 + 1) (by omega) 6 (by omega) _ D6.out.src).mono ?_; rintro e w61 ⟨⟨d2, rfl, e0, e1⟩, S61, G61⟩
      have D61 := As.mk (D6.out.pick hP G61 S61)
      clear D6 S61 G61
      have B61 := Blk.mk w61 (i64s [a, b, d2]) 2 rfl
      have D62 := As.mk (D61.out.call (bl_new (Below.refl _ _) (.cells #[.int .i64 a, .int .i64 b, .int .i64 d2] 2)))
      have hsz : F < w61.heap.size := D61.out.blk.lt
      have hPF := D61.out.src.lt
      clear D61
      go_wp2_with (fail)
      refine (one_src P A xs c (k + 3 + 1 + 1) (by omega) 2 (by omega) _ D62.out.src).mono ?_; rintro e w63 ⟨⟨up, rfl⟩, S63, G63⟩
      have D63 := As.mk (D62.out.pick hP G63 S63)
      have B63 := B61.byGrown2 G63 (by simp; omega)
      have hs63 : Sl .i64 w63 (some ⟨w61.heap.size, 0, none⟩) [a, b, d2] := And.intro (by simp) fun _ => ⟨w61.heap.size, 0, rfl, B63.range⟩
      clear D62 S63 G63 B61 B63
      go_wp2_with (fail)
      refine (sStripes_fine a b d2 up ⟨a0, by omega⟩ ⟨b0, by omega⟩ ⟨e0, by omega⟩ _ _ _ hs63).mono ?_; rintro e w7 ⟨⟨f7, rfl, hf7⟩, hb7⟩
      have D7 := As.mk (D63.out.call hb7)
      have X7 := D7.out.blk
      have hl0 := D7.out.fine.1
      have hl7 := hf7.1
      have D8 : As (∃ f, Dw w (w7.setRow F (u8s f7).toArray) P A xs c (k + 8) F f) := ⟨⟨f7, by
        have D := D7.out.row HS0.out hf7
        exact ⟨D.src.mono (by omega), D.res, D.blk, D.grw, D.fine, D.low⟩⟩⟩
      clear D63 hb7 D7 hf7 hs63
      unfold fl
      go_wp2_with (refine store_blk rfl 23 _ _ rfl _ rfl rfl X7 info_fl (by rw [u8s_length]; exact hl7) (by rw [u8s_length]; exact hl0) (u8s_one _) ?_)
      clear X7 hl0 hl7
      generalize w7.setRow F (u8s f7).toArray = w8 at *
    case' neg =>
      have h0' : (t == 0) = false := by simp [h0]
      have h1' : (t == 1) = false := by simp [h1]
      have D8 : As (∃ f, Dw w w6 P A xs c (k + 8) F f) := ⟨⟨f, by
        have D := D6.out
        exact ⟨D.src.mono (by omega), D.res, D.blk, D.grw, D.fine, D.low⟩⟩⟩
      clear D6 h0 h1
      go_wp2_with (fail)
      generalize w6 = w8 at *
  all_goals
    obtain ⟨f8, D8⟩ := D8.out
    refine (pick_src P A xs c (k + 8) (by omega) 4 (by omega) _ D8.src).mono ?_; rintro e w9 ⟨⟨q, rfl, q0, q1⟩, S9, G9⟩
    have D9 := As.mk (D8.pick hP G9 S9)
    clear D8 S9 G9
    obtain ⟨qn, rfl⟩ : ∃ qn : Nat, q = (qn : Int) := ⟨q.toNat, by omega⟩
    go_wp2_with (fail)
    go_loopw [7] (fun v wr => ∃ (j : Nat) (fj : List Int), j ≤ qn ∧ v = .int .i64 j ∧ As (Dw w wr P A xs c (k + 9 + 2 * (qn - j)) F fj)) (fun v _ => (intOf v).toNat)
    case atStart => exact ⟨qn, f8, by omega, rfl, by rw [Nat.sub_self]; exact D9⟩
    case round =>
      obtain ⟨j, fj, hj, rfl, D⟩ := hrel
      clear D9
      by_cases hj0 : 0 < j
      · have hj0' : (0 : Int) < (j : Int) := by omega
        go_wp2_with (fail)
        refine (pick_src P A xs c (k + 9 + 2 * (qn - j)) (by omega) 24 (by omega) _ D.out.src).mono ?_; rintro e v1 ⟨⟨i, rfl, i0, i1⟩, S1, G1⟩
        have D1 := As.mk (D.out.pick hP G1 S1)
        clear D S1 G1
        go_wp2_with (fail)
        refine (pick_src P A xs c (k + 9 + 2 * (qn - j) + 1) (by omega) 6 (by omega) _ D1.out.src).mono ?_; rintro e v2 ⟨⟨x, rfl, x0, x1⟩, S2, G2⟩
        have D2 := As.mk (D1.out.pick hP G2 S2)
        clear D1 S2 G2
        obtain ⟨ni, rfl⟩ : ∃ ni : Nat, i = (ni : Int) := ⟨i.toNat, by omega⟩
        obtain ⟨u2, c2⟩ := D2.out.blk.some ni (by rw [u8s_length, D2.out.fine.1]; omega)
        have f2 := D2.out.blk.frozen ni
        have hxw : IntKind.wrap .u8 x = x := by simp [IntKind.wrap, IntKind.bits, IntKind.signed]; omega
        have D3 := As.mk (D2.out.set HS0.out ni x ⟨x0, by omega⟩)
        clear D2
        go_wp2_with (fail)
        clear hxw c2 f2
        go_roundw
        case rel => exact ⟨j - 1, _, by omega, by go_num, ⟨⟨D3.out.src.mono (by omega), D3.out.res, D3.out.blk, D3.out.grw, D3.out.fine, D3.out.low⟩⟩⟩
        case measure => simp [intOf]; omega
      · obtain rfl : j = 0 := by omega
        have X1 := D.out.blk
        have X0 := D.out.res
        have hl := D.out.fine.1
        have hG := As.mk (grow_row D.out.grw (F := w.heap.size) (Nat.le_refl _) (u8s fj).toArray)
        have hSr := As.mk ((HS0.out.re D.out.src hG.out (setRow_other _ _ P _ (by omega))).mono (k' := k + 20) (by omega))
        have hfn := As.mk D.out.fine
        clear D
        go_wp2_with (first | (refine load_blk rfl 23 _ rfl _ rfl X1 Tryd.underlying23 rfl info_fl (by rw [u8s_length]; exact hl) ?_) | (refine store_blk rfl 23 _ _ rfl _ rfl rfl X0 info_fl (by rw [u8s_length]; exact hl) (by rw [u8s_length]; exact zero24_length) (u8s_one _) ?_))
        refine ret_blk rfl _ rfl (X0.setRow _) Tryd.underlying23 rfl info_fl (by rw [u8s_length]; exact hl) rfl ⟨⟨fj, rfl, hfn.out⟩, hSr.out, hG.out⟩
end Go.Proofs.YtjppoejkfpeicaaDoor

/- Slices of flags: blocks whose cells lie in runs of 24. -/
set_option linter.unusedVariables false
namespace Go.Proofs.YtjppoejkfpeicaaDoor
open Go.RowKit

theorem flat_length {α : Type} (f : α → List Value) (m : Nat) : ∀ (l : List α), (∀ x ∈ l, (f x).length = m) → (l.flatMap f).length = l.length * m
  | [], _ => by simp
  | x :: l, h => by
    rw [List.flatMap_cons, List.length_append, h x (by simp), flat_length f m l (fun y hy => h y (by simp [hy])), List.length_cons, Nat.add_mul, Nat.one_mul, Nat.add_comm]
theorem flat_get {α : Type} (f : α → List Value) (m : Nat) : ∀ (l : List α), (∀ x ∈ l, (f x).length = m) → ∀ (i : Nat) (x : α), l[i]? = some x → ∀ j, j < m → (l.flatMap f)[i * m + j]? = (f x)[j]?
  | [], _, i, x, h, _, _ => by simp at h
  | y :: l, hl, 0, x, h, j, hj => by
    have hy : y = x := by simpa using h
    subst hy
    rw [List.flatMap_cons, Nat.zero_mul, Nat.zero_add, List.getElem?_append_left (by rw [hl y (by simp)]; exact hj)]
  | y :: l, hl, i + 1, x, h, j, hj => by
    have h' : l[i]? = some x := by simpa using h
    rw [List.flatMap_cons, List.getElem?_append_right (by rw [hl y (by simp), Nat.add_mul, Nat.one_mul]; omega), hl y (by simp)]
    have := flat_get f m l (fun z hz => hl z (by simp [hz])) i x h' j hj
    rw [← this]
    congr 1
    rw [Nat.add_mul, Nat.one_mul]; omega
theorem flat_set {α : Type} (f : α → List Value) (m : Nat) (y : α) (hy : (f y).length = m) : ∀ (l : List α), (∀ x ∈ l, (f x).length = m) → ∀ (i : Nat), i < l.length →
    (l.flatMap f).take (i * m) ++ f y ++ (l.flatMap f).drop (i * m + m) = (l.set i y).flatMap f
  | [], _, i, h => by simp at h
  | z :: l, hl, 0, _ => by
    rw [List.flatMap_cons, Nat.zero_mul, List.take_zero, List.nil_append, Nat.zero_add, List.drop_left' (hl z (by simp)), List.set_cons_zero, List.flatMap_cons]
  | z :: l, hl, i + 1, h => by
    have hz := hl z (by simp)
    have ih := flat_set f m y hy l (fun x hx => hl x (by simp [hx])) i (by simpa using h)
    rw [List.set_cons_succ, List.flatMap_cons, List.flatMap_cons, ← ih]
    have e1 : (i + 1) * m = m + i * m := by rw [Nat.add_mul, Nat.one_mul]; omega
    rw [e1, List.take_append, List.drop_append, hz, List.take_of_length_le (by omega), List.drop_of_length_le (by omega)]
    simp only [List.nil_append, List.append_assoc]
    congr 3
    · congr 1; omega
    · congr 1; omega

/-- Stores of many cells into a block known whole. -/
theorem Blk.setCells {w : World} {b : Nat} {t : TypeId} : ∀ (vs : List Value) (o : Nat) (w : World) (cs : List Value), Blk w b cs t → o + vs.length ≤ cs.length → Blk (w.setCells b o vs) b (cs.take o ++ vs ++ cs.drop (o + vs.length)) t
  | [], o, w, cs, h, hl => by simpa [World.setCells] using h
  | v :: r, o, w, cs, h, hl => by
    have h1 := h.set o v
    have h2 := Blk.setCells (w := w) r (o + 1) _ _ h1 (by simp at hl ⊢; omega)
    rw [World.setCells]
    have e : (cs.set o v).take (o + 1) ++ r ++ (cs.set o v).drop (o + 1 + r.length) = cs.take o ++ (v :: r) ++ cs.drop (o + (v :: r).length) := by
      have hlo : o < cs.length := by simp at hl; omega
      apply List.ext_getElem?
      intro i
      simp only [List.getElem?_append, List.length_append, List.length_take, List.length_set, List.getElem?_take, List.getElem?_set, List.getElem?_drop, List.length_cons]
      rcases Nat.lt_trichotomy i o with hi | hi | hi
      · simp [show i < o + 1 by omega, show min (o + 1) cs.length = o + 1 by omega, show min o cs.length = o by omega, show o ≠ i by omega, hi, show i < o + 1 + r.length by omega, show i < o + (r.length + 1) by omega]
      · subst hi
        simp [show min (i + 1) cs.length = i + 1 by omega, show min i cs.length = i by omega, show i < i + 1 + r.length by omega, show i < i + (r.length + 1) by omega, hlo]
      · have e1 : min (o + 1) cs.length = o + 1 := by omega
        have e2 : min o cs.length = o := by omega
        by_cases h3 : i < o + 1 + r.length
        · simp [e1, e2, h3, show ¬ i < o + 1 by omega, show ¬ i < o by omega, show i < o + (r.length + 1) by omega]
          have : i - o = (i - (o + 1)) + 1 := by omega
          rw [this, List.getElem?_cons_succ]
        · simp [e1, e2, h3, show ¬ i < o + (r.length + 1) by omega]
          rw [if_neg (by omega)]
          congr 1; omega
    rw [e] at h2
    exact h2

/-- '.slice A fs.length c' is a slice that holds the flags fs. -/
def SlF (w : World) (A : Option Addr) (fs : List (List Int)) : Prop :=
  fs.length ≤ 9223372036854775807 ∧ (∀ f ∈ fs, f.length = 24) ∧ (∀ f ∈ fs, ∀ x ∈ f, 0 ≤ x ∧ x ≤ 255) ∧ (0 < fs.length → ∃ b o, A = some ⟨b, o, none⟩ ∧ ∀ i f, fs[i]? = some f → w.rangeAt b (o + i * 24) (u8s f))
theorem SlF.kept {w w' : World} {A : Option Addr} {fs : List (List Int)} (h : SlF w A fs) (hb : Below w.heap.size w w') : SlF w' A fs :=
  ⟨h.1, h.2.1, h.2.2.1, fun hp => by
    obtain ⟨b, o, e, hr⟩ := h.2.2.2 hp
    refine ⟨b, o, e, fun i f hf j v hv => ?_⟩
    have := hr i f hf j v hv
    rw [hb.cell (World.block_lt_of_cell? w _ this)]; exact this⟩
/-- A block of flags. -/
theorem Blk.slF {w : World} {b : Nat} {fs : List (List Int)} {t : TypeId} (h : Blk w b (fs.flatMap u8s) t) (hl : fs.length ≤ 9223372036854775807) (h24 : ∀ f ∈ fs, f.length = 24) (hb : ∀ f ∈ fs, ∀ x ∈ f, 0 ≤ x ∧ x ≤ 255) : SlF w (Option.some ⟨b, 0, none⟩) fs := by
  refine And.intro hl ⟨h24, hb, fun _ => ⟨b, 0, rfl, fun i f hf j v hv => ?_⟩⟩
  have hj : j < 24 := by
    have := (List.getElem?_eq_some_iff.1 hv).1
    rw [u8s_length, h24 f (List.mem_of_getElem? hf)] at this; exact this
  rw [Nat.zero_add, h.at, flat_get u8s 24 fs (fun x hx => by rw [u8s_length]; exact h24 x hx) i f hf j hj]
  exact hv
end Go.Proofs.YtjppoejkfpeicaaDoor

/- Lists of flags that the call itself makes: a list of one flag written out, append. -/
set_option linter.unusedVariables false
set_option linter.unusedSimpArgs false
namespace Go.Proofs.YtjppoejkfpeicaaDoor
open Go.RowKit

theorem info_flz : (Tryd.prog.info? 23).map (fun i => (i.zero, i.size, i.bytes)) = some (some (.agg #[.int .u8 0, .int .u8 0, .int .u8 0, .int .u8 0, .int .u8 0, .int .u8 0, .int .u8 0, .int .u8 0, .int .u8 0, .int .u8 0, .int .u8 0, .int .u8 0, .int .u8 0, .int .u8 0, .int .u8 0, .int .u8 0, .int .u8 0, .int .u8 0, .int .u8 0, .int .u8 0, .int .u8 0, .int .u8 0, .int .u8 0, .int .u8 0]), 24, 24) := by kernel_rfl
/-- v is a slice of the flags fs, in a block from base on that nobody else knows, or nil. -/
def OwnF (w : World) (base : Nat) (v : Value) (fs : List (List Int)) : Prop := w.ownsRow base 23 24 v fs.length (fs.flatMap u8s)
section
variable {w w' : World} {base : Nat} {v : Value} {fs : List (List Int)}
theorem flatF_length {fs : List (List Int)} (h : ∀ f ∈ fs, f.length = 24) : (fs.flatMap u8s).length = fs.length * 24 := flat_length u8s 24 fs (fun x hx => by rw [u8s_length]; exact h x hx)
theorem OwnF.lit (w : World) (base : Nat) (hb : base ≤ w.heap.size) : OwnF (w.alloc (.cells #[] 23)) base (.slice (some ⟨w.heap.size, 0, none⟩) 0 0) [] := by
  have h := World.ownsRow_lit (base := base) (e := 23) (size := 24) w #[] 0 hb (by simp) (by simp)
  unfold OwnF
  simpa using h
theorem OwnF.kept (h : OwnF w base v fs) (hb : Below w.heap.size w w') : OwnF w' base v fs :=
  World.ownsRow.kept (row := Option.none) h ⟨hb.os, hb.tape, hb.output, hb.size, fun i hi _ => hb.block i hi⟩ (by cases v.ownBlock <;> simp)
theorem OwnF.grown (h : OwnF w base v fs) {row : Option Nat} (hg : w.grownBy w' row) (hne : v.ownBlock = none ∨ v.ownBlock ≠ row) : OwnF w' base v fs := World.ownsRow.kept h hg hne
theorem OwnF.alloc (h : OwnF w base v fs) (o : Obj) : OwnF (w.alloc o) base v fs := World.ownsRow.alloc h o
theorem OwnF.form (h : OwnF w base v fs) : (v = .slice none 0 0 ∧ fs = []) ∨ ∃ g c, v = .slice (some ⟨g, 0, none⟩) fs.length c ∧ base ≤ g ∧ g < w.heap.size ∧ w.rangeAt g 0 (fs.flatMap u8s) ∧ fs.length ≤ 9223372036854775807 := by
  rcases h.2 with ⟨hv, hn⟩ | ⟨g, cap, cur, hv, hb, hh, h1, h2, h3⟩
  · exact .inl ⟨hv, List.eq_nil_of_length_eq_zero hn⟩
  · refine .inr ⟨g, cap, hv, hb, (Array.getElem?_eq_some_iff.1 hh).1, fun j u hu => ?_, by simp only [maxLen] at h2; omega⟩
    subst hv
    have := World.ownsRow.cells (g := g) h rfl j u hu
    rwa [show (⟨g, 0, none⟩ : Addr).add j = ⟨g, 0 + j, none⟩ by unfold Addr.add; split <;> simp_all] at this
theorem OwnF.slF (h : OwnF w base v fs) (h24 : ∀ f ∈ fs, f.length = 24) (hby : ∀ f ∈ fs, ∀ x ∈ f, 0 ≤ x ∧ x ≤ 255) : ∃ A c, v = .slice A fs.length c ∧ SlF w A fs := by
  rcases h.form with ⟨rfl, rfl⟩ | ⟨g, c, rfl, _, _, hr, hm⟩
  · exact ⟨none, 0, rfl, by simp, (fun f hf => by cases hf), (fun f hf => by cases hf), (fun hp => by simp at hp)⟩
  · refine ⟨_, c, rfl, hm, h24, hby, fun _ => ⟨g, 0, rfl, fun i f hf j u hu => ?_⟩⟩
    have hj : j < 24 := by
      have := (List.getElem?_eq_some_iff.1 hu).1
      rw [u8s_length, h24 f (List.mem_of_getElem? hf)] at this; exact this
    have := hr (i * 24 + j) u (by rw [flat_get u8s 24 fs (fun x hx => by rw [u8s_length]; exact h24 x hx) i f hf j hj]; exact hu)
    rw [Nat.zero_add] at this ⊢
    exact this
theorem OwnF.ge (h : OwnF w base v fs) (k : Nat) (hk : v.ownBlock = some k) : base ≤ k := by
  rcases h.form with ⟨rfl, _⟩ | ⟨g, c, rfl, hb, _⟩
  · simp [Value.ownBlock] at hk
  · have : g = k := by simpa [Value.ownBlock] using hk
    omega
theorem OwnF.lt (h : OwnF w base v fs) (k : Nat) (hk : v.ownBlock = some k) : k < w.heap.size := by
  rcases h.form with ⟨rfl, _⟩ | ⟨g, c, rfl, hb, hl, _⟩
  · simp [Value.ownBlock] at hk
  · have : g = k := by simpa [Value.ownBlock] using hk
    omega
theorem OwnF.lower (h : OwnF w base v fs) {b' : Nat} (hb : b' ≤ base) : OwnF w b' v fs := by
  obtain ⟨h1, h2⟩ := h
  refine ⟨h1, ?_⟩
  rcases h2 with h2 | ⟨g, cap, cur, rfl, hg, r⟩
  · exact .inl h2
  · exact .inr ⟨g, cap, cur, rfl, Nat.le_trans hb hg, r⟩
end

section
variable {ops : Array Oper} {rest : List Oper} {op : Oper} {a : Act} {w : World} {Q : Exit → Act → World → Prop}
end
end Go.Proofs.YtjppoejkfpeicaaDoor

/- Contracts: P6Flag, P6Set. -/
set_option linter.unusedVariables false
set_option linter.unusedSimpArgs false
namespace Go.Proofs.YtjppoejkfpeicaaDoor
open Go.RowKit

theorem one_range (W : World) (f : List Int) : (W.alloc (.cells (u8s f).toArray 23)).rangeAt W.heap.size 0 ([f].flatMap u8s) := by
  have := (Blk.new W (u8s f) 23).range
  simpa using this

theorem Src.keptB {w w' : World} {P B : Nat} {A : Option Addr} {xs : List Int} {c k : Nat} (h : Src w P A xs c k) (hb : Below B w w') (hP : P < B) (hA : ∀ b o, A = some ⟨b, o, none⟩ → 0 < xs.length → b < B) : Src w' P A xs c k := by
  obtain ⟨at', seed, h1, h2⟩ := h
  refine ⟨at', seed, ⟨(hb.block P hP).trans h1.blk, And.intro h1.sl.1 fun hp => ?_, h1.len, h1.bytes, h1.at0, h1.seed0, h1.low⟩, h2⟩
  obtain ⟨b, o, e, hr⟩ := h1.sl.2 hp
  exact ⟨b, o, e, fun j v hv => by rw [hb.cell (hA b o e hp)]; exact hr j v hv⟩

set_option maxRecDepth 100000 in
set_option maxHeartbeats 1000000 in
theorem P6Flag_any (A : Option Addr) (xs : List Int) (c : Nat) (w : World) (hs : Sl .u8 w A xs) (hl : xs.length ≤ 4097) (hb : ∀ x ∈ xs, 0 ≤ x ∧ x ≤ 255) :
    Calls Tryd.prog 9 #[.slice A xs.length c] w fun e w' => (∃ f, e = .returned (fl f) ∧ Fine f) ∧ Below w.heap.size w w' := by
  have key := fun W h => l00From_any A xs c W h hl hb
  have key2 := fun P W h => l01Drawn_any P A xs c 0 (by omega) W h
  have B0 : Blk (w.alloc (.cells #[.int .u8 0, .int .u8 0, .int .u8 0, .int .u8 0, .int .u8 0, .int .u8 0, .int .u8 0, .int .u8 0, .int .u8 0, .int .u8 0, .int .u8 0, .int .u8 0, .int .u8 0, .int .u8 0, .int .u8 0, .int .u8 0, .int .u8 0, .int .u8 0, .int .u8 0, .int .u8 0, .int .u8 0, .int .u8 0, .int .u8 0, .int .u8 0] 23)) w.heap.size (u8s zero24) 23 := Blk.mk _ (u8s zero24) _ rfl
  have b0 := bl_new (Below.refl _ w) (.cells #[.int .u8 0, .int .u8 0, .int .u8 0, .int .u8 0, .int .u8 0, .int .u8 0, .int .u8 0, .int .u8 0, .int .u8 0, .int .u8 0, .int .u8 0, .int .u8 0, .int .u8 0, .int .u8 0, .int .u8 0, .int .u8 0, .int .u8 0, .int .u8 0, .int .u8 0, .int .u8 0, .int .u8 0, .int .u8 0, .int .u8 0, .int .u8 0] 23)
  have s1 := hs.kept b0
  generalize xs.length = m at *
  go_enter Tryd.func9, Tryd.ntmps9
  go_wp2_with (fail)
  generalize w.alloc (.cells #[.int .u8 0, .int .u8 0, .int .u8 0, .int .u8 0, .int .u8 0, .int .u8 0, .int .u8 0, .int .u8 0, .int .u8 0, .int .u8 0, .int .u8 0, .int .u8 0, .int .u8 0, .int .u8 0, .int .u8 0, .int .u8 0, .int .u8 0, .int .u8 0, .int .u8 0, .int .u8 0, .int .u8 0, .int .u8 0, .int .u8 0, .int .u8 0] 23) = W0 at *
  refine (key _ s1).mono ?_; rintro e w1 ⟨rfl, hS, hb1⟩
  have hsz := B0.lt
  have hB := B0.kept hb1
  have hbw := bl_call b0 hb1
  have hlt := hS.lt
  generalize W0.heap.size = PP at *
  go_wp2_with (fail)
  refine (key2 _ w1 hS).mono ?_; rintro e w2 ⟨⟨f, rfl, hf⟩, _, hg⟩
  have hb2 : Below w.heap.size w w2 := hbw.grown hg hbw.size (fun k hk => by simp only [Option.some.injEq] at hk; omega)
  have hB2 : Blk w2 w.heap.size (u8s zero24) 23 := hB.byGrown2 hg (by simp; omega)
  have lf := hf.1
  unfold fl
  clear hB B0 b0 hS hg hbw s1 key key2 hs hb1
  go_wp2_with (refine store_blk rfl 23 _ _ rfl _ rfl rfl hB2 info_fl (by rw [u8s_length]; exact lf) (by rw [u8s_length]; exact zero24_length) (u8s_one _) ?_)
  refine ret_blk rfl _ rfl (hB2.setRow _) Tryd.underlying23 rfl info_fl (by rw [u8s_length]; exact lf) rfl ⟨⟨f, rfl, hf⟩, bl_setRow hb2 (Nat.le_refl _) _⟩

end Go.Proofs.YtjppoejkfpeicaaDoor

/- A library function's contract, laid at this program (plain text of the shelf's own tool; numbers by name). -/
set_option linter.unusedVariables false
namespace Go.Proofs.YtjppoejkfpeicaaDoor
open Go.Shelf
def sh_lays137_ren : Go.Shelf.Ren := ⟨fun | 137 => 31 | 217 => 54 | 266 => 76 | n => n, fun | 9 => 9 | 5 => 5 | 3 => 3 | n => n, fun | n => n⟩
theorem sh_lays137 : Go.Proofs.Lays.n137 Tryd.prog sh_lays137_ren := {
  mixed := by kernel_rfl
  f137 := Tryd.func31.trans (congrArg some (by kernel_rfl))
  f217 := Tryd.func54.trans (congrArg some (by kernel_rfl))
  f266 := Tryd.func76.trans (congrArg some (by kernel_rfl))
  t3 := Tryd.underlying3
  a3 := Tryd.isAgg3
  z3 := Tryd.sizeOf3
  v3 := Tryd.zeroValue3
  t5 := Tryd.underlying5
  a5 := Tryd.isAgg5
  z5 := Tryd.sizeOf5
  v5 := Tryd.zeroValue5
  t9 := Tryd.underlying9
  a9 := Tryd.isAgg9
  z9 := Tryd.sizeOf9
  v9 := Tryd.zeroValue9 }
open Go.RowKit in
/-- strings.IndexByte: "IndexByte returns the index of the first instance of c in s, or -1 if c is not present in s.": IT RETURNS 'Lib.indexByte s c'; the world is as it was. (LAID: no walk: one application.) -/
theorem sh_strings_IndexByte (s : ByteArray) (c : Int) (w : World) :
    Calls Tryd.prog 31 #[.string s, .int .u8 c] w fun e w' => e = .returned (.int .i64 (Lib.indexByte s.data.toList c.toNat.toUInt8)) ∧ w' = w := Any.strings_IndexByte sh_lays137 s c w
def sh_lays155_ren : Go.Shelf.Ren := ⟨fun | 155 => 30 | 154 => 53 | 138 => 70 | 165 => 71 | 143 => 72 | 166 => 73 | 197 => 74 | 169 => 75 | 195 => 80 | 218 => 81 | 240 => 82 | 241 => 83 | 219 => 84 | 260 => 85 | 276 => 86 | 277 => 87 | 217 => 54 | 225 => 88 | 224 => 89 | 267 => 90 | 266 => 76 | 314 => 91 | n => n, fun | 9 => 9 | 3 => 3 | 4 => 4 | 72 => 96 | 0 => 0 | 76 => 100 | 105 => 102 | 21 => 21 | 5 => 5 | 70 => 94 | 20 => 20 | 37 => 28 | 75 => 99 | 127 => 108 | 164 => 109 | 46 => 105 | 119 => 113 | 139 => 116 | 138 => 115 | 146 => 118 | 51 => 117 | 80 => 104 | n => n, fun | 1 => 0 | 3 => 1 | 4 => 2 | n => n⟩
theorem sh_lays155 : Go.Proofs.Lays.n155 Tryd.prog sh_lays155_ren := {
  mixed := by kernel_rfl
  f138 := Tryd.func70.trans (congrArg some (by kernel_rfl))
  f143 := Tryd.func72.trans (congrArg some (by kernel_rfl))
  f154 := Tryd.func53.trans (congrArg some (by kernel_rfl))
  f155 := Tryd.func30.trans (congrArg some (by kernel_rfl))
  f165 := Tryd.func71.trans (congrArg some (by kernel_rfl))
  f166 := Tryd.func73.trans (congrArg some (by kernel_rfl))
  f169 := Tryd.func75.trans (congrArg some (by kernel_rfl))
  f195 := Tryd.func80.trans (congrArg some (by kernel_rfl))
  f197 := Tryd.func74.trans (congrArg some (by kernel_rfl))
  f217 := Tryd.func54.trans (congrArg some (by kernel_rfl))
  f218 := Tryd.func81.trans (congrArg some (by kernel_rfl))
  f219 := Tryd.func84.trans (congrArg some (by kernel_rfl))
  f224 := Tryd.func89.trans (congrArg some (by kernel_rfl))
  f225 := Tryd.func88.trans (congrArg some (by kernel_rfl))
  f240 := Tryd.func82.trans (congrArg some (by kernel_rfl))
  f241 := Tryd.func83.trans (congrArg some (by kernel_rfl))
  f260 := Tryd.func85.trans (congrArg some (by kernel_rfl))
  f266 := Tryd.func76.trans (congrArg some (by kernel_rfl))
  f267 := Tryd.func90.trans (congrArg some (by kernel_rfl))
  f276 := Tryd.func86.trans (congrArg some (by kernel_rfl))
  f277 := Tryd.func87.trans (congrArg some (by kernel_rfl))
  f314 := Tryd.func91.trans (congrArg some (by kernel_rfl))
  t0 := Tryd.underlying0
  a0 := Tryd.isAgg0
  z0 := Tryd.sizeOf0
  v0 := Tryd.zeroValue0
  t3 := Tryd.underlying3
  a3 := Tryd.isAgg3
  z3 := Tryd.sizeOf3
  v3 := Tryd.zeroValue3
  t4 := Tryd.underlying4
  a4 := Tryd.isAgg4
  z4 := Tryd.sizeOf4
  v4 := Tryd.zeroValue4
  t5 := Tryd.underlying5
  a5 := Tryd.isAgg5
  z5 := Tryd.sizeOf5
  v5 := Tryd.zeroValue5
  t9 := Tryd.underlying9
  a9 := Tryd.isAgg9
  z9 := Tryd.sizeOf9
  v9 := Tryd.zeroValue9
  t20 := Tryd.underlying20
  a20 := Tryd.isAgg20
  z20 := Tryd.sizeOf20
  v20 := Tryd.zeroValue20
  t21 := Tryd.underlying21
  a21 := Tryd.isAgg21
  z21 := Tryd.sizeOf21
  v21 := Tryd.zeroValue21
  t37 := Tryd.underlying28
  a37 := Tryd.isAgg28
  z37 := Tryd.sizeOf28
  v37 := Tryd.zeroValue28
  t46 := Tryd.underlying105
  a46 := Tryd.isAgg105
  z46 := Tryd.sizeOf105
  v46 := Tryd.zeroValue105
  t51 := Tryd.underlying117
  a51 := Tryd.isAgg117
  z51 := Tryd.sizeOf117
  v51 := Tryd.zeroValue117
  t70 := Tryd.underlying94
  a70 := Tryd.isAgg94
  z70 := Tryd.sizeOf94
  v70 := Tryd.zeroValue94
  t72 := Tryd.underlying96
  a72 := Tryd.isAgg96
  z72 := Tryd.sizeOf96
  v72 := Tryd.zeroValue96
  t75 := Tryd.underlying99
  a75 := Tryd.isAgg99
  z75 := Tryd.sizeOf99
  v75 := Tryd.zeroValue99
  t76 := Tryd.underlying100
  a76 := Tryd.isAgg100
  z76 := Tryd.sizeOf100
  v76 := Tryd.zeroValue100
  t105 := Tryd.underlying102
  a105 := Tryd.isAgg102
  z105 := Tryd.sizeOf102
  v105 := Tryd.zeroValue102
  t119 := Tryd.underlying113
  a119 := Tryd.isAgg113
  z119 := Tryd.sizeOf113
  t127 := Tryd.underlying108
  a127 := Tryd.isAgg108
  z127 := Tryd.sizeOf108
  v127 := Tryd.zeroValue108
  t138 := Tryd.underlying115
  a138 := Tryd.isAgg115
  z138 := Tryd.sizeOf115
  v138 := Tryd.zeroValue115
  t139 := Tryd.underlying116
  a139 := Tryd.isAgg116
  z139 := Tryd.sizeOf116
  v139 := Tryd.zeroValue116
  t146 := Tryd.underlying118
  a146 := Tryd.isAgg118
  z146 := Tryd.sizeOf118
  v146 := Tryd.zeroValue118
  t164 := Tryd.underlying109
  a164 := Tryd.isAgg109
  z164 := Tryd.sizeOf109
  v164 := Tryd.zeroValue109
  g1 := by kernel_rfl
  g3 := by kernel_rfl
  g4 := by kernel_rfl }
theorem sh_Builder_Extra_155 : Builder.Extra Tryd.prog sh_lays155_ren := {
  sizeBuilder := by kernel_rfl
  liesBuilder := by kernel_rfl
  t5 := Tryd.underlying5
  a5 := Tryd.isAgg5
  z5 := Tryd.sizeOf5
  v5 := Tryd.zeroValue5
  infoByte := by kernel_rfl
  cellsByte := by kernel_rfl
  sizeByte := by kernel_rfl
  neB5 := by decide }
open Go.RowKit Go.Lib in
/-- strings.ReplaceAll: "ReplaceAll returns a copy of the string s with all non-overlapping instances of old replaced by new.": AT AN old THAT IS NOT EMPTY: 'Lib.replaceAll s old new'. (LAID: no walk: one application.) -/
theorem sh_strings_ReplaceAll (s old new : ByteArray) (m : Int) (w : World) (hs : s.size < 4294967281) (hm : w.cell? ⟨0, 0, none⟩ = some (.int .i64 m)) (h1 : 1 ≤ old.size) (hlen : s.size + Lib.countB s old * new.size ≤ 140737488355328) :
    Calls Tryd.prog 30 #[.string s, .string old, .string new] w fun e w' =>
      e = .returned (.string ⟨(Lib.replaceAll s.data.toList old.data.toList new.data.toList).toArray⟩) ∧ Below w.heap.size w w' := Any.strings_ReplaceAll sh_lays155 sh_Builder_Extra_155 s old new m w hs hm h1 hlen
end Go.Proofs.YtjppoejkfpeicaaDoor

/- Contracts: ReadFlag: impl's side. -/
set_option linter.unusedVariables false
set_option linter.unusedSimpArgs false
namespace Go.Proofs.YtjppoejkfpeicaaDoor
open Go.RowKit

theorem nat_u8 (b : UInt8) : ((b.toNat : Int)).toNat.toUInt8 = b := by simp
theorem count_one_le (s : ByteArray) : s.size + Lib.countB s ⟨#[47]⟩ * (⟨#[]⟩ : ByteArray).size ≤ s.size := by
  have : (⟨#[]⟩ : ByteArray).size = 0 := rfl
  rw [this, Nat.mul_zero]; exact Nat.le_refl _

theorem toList_ne2 {u v : ByteArray} (h : u ≠ v) : (u.toList == v.toList) = false := by
  rw [beq_eq_false_iff_ne]
  intro e
  rw [ByteArray.toList_eq, ByteArray.toList_eq] at e
  exact h (ByteArray.ext (Array.toList_inj.1 e))
theorem toList_some {u : ByteArray} (h : u ≠ ⟨#[]⟩) : u.toList.isEmpty = false := by
  cases hq : u.toList.isEmpty
  · rfl
  · exfalso
    rw [List.isEmpty_iff, ByteArray.toList_eq] at hq
    exact h (ByteArray.ext (Array.toList_inj.1 (by rw [hq])))
set_option maxRecDepth 100000 in
set_option maxHeartbeats 2000000 in
theorem ReadFlag_any (s : ByteArray) (hs : s.size ≤ 1048576) (w : World) (m : Int) (hm : w.cell? ⟨0, 0, none⟩ = some (.int .i64 m)) :
    Calls Tryd.prog 6 #[.string s] w fun e w' => e = .returned (.tuple #[fl (rdL s.data.toList), .int .i64 (rdC s.data.toList)]) ∧ Below w.heap.size w w' := by
  unfold fl
  have B0 : Blk (w.alloc (.cells #[.int .u8 0, .int .u8 0, .int .u8 0, .int .u8 0, .int .u8 0, .int .u8 0, .int .u8 0, .int .u8 0, .int .u8 0, .int .u8 0, .int .u8 0, .int .u8 0, .int .u8 0, .int .u8 0, .int .u8 0, .int .u8 0, .int .u8 0, .int .u8 0, .int .u8 0, .int .u8 0, .int .u8 0, .int .u8 0, .int .u8 0, .int .u8 0] 23)) w.heap.size (u8s zero24) 23 := Blk.mk _ (u8s zero24) _ rfl
  have b0 := bl_new (Below.refl _ w) (.cells #[.int .u8 0, .int .u8 0, .int .u8 0, .int .u8 0, .int .u8 0, .int .u8 0, .int .u8 0, .int .u8 0, .int .u8 0, .int .u8 0, .int .u8 0, .int .u8 0, .int .u8 0, .int .u8 0, .int .u8 0, .int .u8 0, .int .u8 0, .int .u8 0, .int .u8 0, .int .u8 0, .int .u8 0, .int .u8 0, .int .u8 0, .int .u8 0] 23)
  have hz : zero24.length = 24 := rfl
  have kr := fun W h => sh_strings_ReplaceAll s ⟨#[47]⟩ ⟨#[]⟩ m W (by omega) h (by decide) (Nat.le_trans (count_one_le s) (by omega))
  have hcs : Lib.replaceAll s.data.toList (⟨#[47]⟩ : ByteArray).data.toList (⟨#[]⟩ : ByteArray).data.toList = cellsF s.data.toList := rfl
  simp only [hcs] at kr
  have HE := As.mk (readF_eq s)
  have hm1 : (w.alloc (.cells #[.int .u8 0, .int .u8 0, .int .u8 0, .int .u8 0, .int .u8 0, .int .u8 0, .int .u8 0, .int .u8 0, .int .u8 0, .int .u8 0, .int .u8 0, .int .u8 0, .int .u8 0, .int .u8 0, .int .u8 0, .int .u8 0, .int .u8 0, .int .u8 0, .int .u8 0, .int .u8 0, .int .u8 0, .int .u8 0, .int .u8 0, .int .u8 0] 23)).cell? ⟨0, 0, none⟩ = some (.int .i64 m) := by
    rw [b0.cell (World.block_lt_of_cell? w _ hm)]; exact hm
  have k1 := kr _ hm1
  have hg : As (gotF s.data.toList = gotN (cellsF s.data.toList)) := ⟨rfl⟩
  obtain ⟨cs, hcs2⟩ : ∃ cs, cellsF s.data.toList = cs := ⟨_, rfl⟩
  rw [hcs2] at hg
  simp only [hcs2] at k1
  clear kr hcs hm1 hcs2
  obtain ⟨q, hq⟩ : ∃ q, min cs.length 24 = q := ⟨_, rfl⟩
  have hq24 : q ≤ 24 := by omega
  have hql : q ≤ cs.length := by omega
  go_enter Tryd.func6, Tryd.ntmps6
  go_wp2_with (fail)
  refine k1.mono ?_; rintro e w1 ⟨rfl, hb1⟩
  have B1 := (B0.kept hb1).alloc (.cells #[.int .u8 0, .int .u8 0, .int .u8 0, .int .u8 0, .int .u8 0, .int .u8 0, .int .u8 0, .int .u8 0, .int .u8 0, .int .u8 0, .int .u8 0, .int .u8 0, .int .u8 0, .int .u8 0, .int .u8 0, .int .u8 0, .int .u8 0, .int .u8 0, .int .u8 0, .int .u8 0, .int .u8 0, .int .u8 0, .int .u8 0, .int .u8 0] 23)
  have B2 : Blk (w1.alloc (.cells #[.int .u8 0, .int .u8 0, .int .u8 0, .int .u8 0, .int .u8 0, .int .u8 0, .int .u8 0, .int .u8 0, .int .u8 0, .int .u8 0, .int .u8 0, .int .u8 0, .int .u8 0, .int .u8 0, .int .u8 0, .int .u8 0, .int .u8 0, .int .u8 0, .int .u8 0, .int .u8 0, .int .u8 0, .int .u8 0, .int .u8 0, .int .u8 0] 23)) w1.heap.size (u8s zero24) 23 := Blk.mk _ (u8s zero24) _ rfl
  have hlt := As.mk (B0.kept hb1).lt
  have b1 := bl_new (bl_call b0 hb1) (.cells #[.int .u8 0, .int .u8 0, .int .u8 0, .int .u8 0, .int .u8 0, .int .u8 0, .int .u8 0, .int .u8 0, .int .u8 0, .int .u8 0, .int .u8 0, .int .u8 0, .int .u8 0, .int .u8 0, .int .u8 0, .int .u8 0, .int .u8 0, .int .u8 0, .int .u8 0, .int .u8 0, .int .u8 0, .int .u8 0, .int .u8 0, .int .u8 0] 23)
  clear B0 b0 hb1 k1
  have V1 := B1.farRow (g := w1.heap.size) (by have := hlt.out; omega) (u8s zero24).toArray
  have V2 := B2.setRow (u8s zero24)
  have d0 := bl_setRow b1 (g := w1.heap.size) (by have := hlt.out; omega) (u8s zero24).toArray
  have hq' : min ((cs.length : Nat) : Int) 24 = (q : Int) := by omega
  have hp0 : part (fun i => IntKind.wrap .u8 (colB (cs.getD i 0))) 24 0 = zero24 := part_zero _ _
  go_wp2_with (refine store_blk rfl 23 _ _ rfl _ rfl (ds := u8s zero24) rfl B2 info_fl (by rfl) (by rfl) (u8s_one _) ?_)
  try simp only [hq']
  clear hq' B1 B2 b1
  generalize ((w1.alloc (.cells #[.int .u8 0, .int .u8 0, .int .u8 0, .int .u8 0, .int .u8 0, .int .u8 0, .int .u8 0, .int .u8 0, .int .u8 0, .int .u8 0, .int .u8 0, .int .u8 0, .int .u8 0, .int .u8 0, .int .u8 0, .int .u8 0, .int .u8 0, .int .u8 0, .int .u8 0, .int .u8 0, .int .u8 0, .int .u8 0, .int .u8 0, .int .u8 0] 23)).setRow w1.heap.size (u8s zero24).toArray) = W2 at *
  have hne := As.mk (show w.heap.size ≠ w1.heap.size by have := hlt.out; omega)
  have hge := As.mk (show w.heap.size ≤ w1.heap.size by have := hlt.out; omega)
  clear hlt
  obtain ⟨F, hF⟩ : ∃ F, w1.heap.size = F := ⟨_, rfl⟩
  rw [hF] at V2 hne hge ⊢
  clear hF
  go_loopw [13] (fun v wr => ∃ k : Nat, k ≤ q ∧ v = .int .i64 k ∧ Blk wr w.heap.size (u8s zero24) 23 ∧ Blk wr F (u8s (part (fun i => IntKind.wrap .u8 (colB (cs.getD i 0))) 24 k)) 23 ∧ Below w.heap.size w wr) (fun v _ => q - (intOf v).toNat)
  case atStart => exact ⟨0, by omega, rfl, V1, by rw [hp0]; exact V2, d0⟩
  case round =>
    obtain ⟨k, hk, rfl, X0, X1, hb⟩ := hrel
    clear V1 V2 d0 hp0
    by_cases hlt : k < q
    · have hlt' : (k : Int) < (q : Int) := by omega
      have hkl : k < cs.length := by omega
      have hkl' : (k : Int) < ((cs.length : Nat) : Int) := by omega
      have hk24 : (k : Int) < 24 := by omega
      have hbk := bytR_get ⟨cs.toArray⟩ k (by show k < cs.toArray.size; simpa using hkl)
      have hbl : bytR (⟨cs.toArray⟩ : ByteArray).data.toList k = bytR cs k := rfl
      rw [hbl] at hbk
      have kI := fun W => sh_strings_IndexByte ⟨#[119, 121, 114, 98, 103, 107]⟩ (bytR cs k) W
      have e : Lib.indexByte (⟨#[119, 121, 114, 98, 103, 107]⟩ : ByteArray).data.toList (bytR cs k).toNat.toUInt8 = colB (cs.getD k 0) := by unfold bytR colB; rw [nat_u8]
      simp only [e] at kI
      have hbd := bytR_bd cs k
      have hst : As ((part (fun i => IntKind.wrap .u8 (colB (cs.getD i 0))) 24 k).set k (IntKind.wrap .u8 (colB (cs.getD k 0))) = part (fun i => IntKind.wrap .u8 (colB (cs.getD i 0))) 24 (k + 1)) := ⟨part_set (fun i => IntKind.wrap .u8 (colB (cs.getD i 0))) 24 k⟩
      clear e hbl
      generalize colB (cs.getD k 0) = ci at *
      generalize bytR cs k = x at *
      obtain ⟨v2, d2⟩ := X1.some k (by rw [u8s_length, part_length]; omega)
      have f2 := X1.frozen k
      have X3 := X1.set k (.int .u8 (IntKind.wrap .u8 ci))
      rw [u8s_set, hst.out] at X3
      have X4 := X0.far (p := ⟨F, k, none⟩) hne.out (.int .u8 (IntKind.wrap .u8 ci))
      have hb4 := hb.setCell (p := ⟨F, k, none⟩) hge.out (.int .u8 (IntKind.wrap .u8 ci))
      clear X0 X1 hb
      go_wp2_with (fail)
      refine (kI _).mono ?_; rintro e w' ⟨rfl, rfl⟩
      go_wp2_with (fail)
      clear d2 f2 hbk
      go_roundw
      case rel => exact ⟨k + 1, by omega, by go_num, X4, X3, hb4⟩
      case measure => simp [intOf]; omega
    · obtain rfl : k = q := by omega
      have hgn : part (fun i => IntKind.wrap .u8 (colB (cs.getD i 0))) 24 k = gotN cs := by unfold gotN; rw [hq]
      rw [hgn] at X1
      clear hgn hq hq24 hql hlt
      have hgl := gotN_length cs
      have kt := fun W => FlagText_any (gotN cs) hgl (gotN_bytes cs) W
      rw [hg.out] at HE
      generalize gotN cs = gs at *
      by_cases hs0 : s = ⟨#[]⟩
      · have hr := As.mk (rd_none (HE.out.trans (if_pos (.inl hs0))))
        go_wp2_with (refine store_blk rfl 23 _ _ rfl _ rfl (ds := u8s zero24) rfl X0 info_fl (by rfl) (by rfl) (u8s_one _) ?_)
        refine ret_blk_tmp rfl _ rfl (X0.setRow _) Tryd.underlying23 rfl info_fl (by rfl) rfl ⟨ret_v (by rw [hr.out.1, hr.out.2]; rfl), bl_setRow hb (Nat.le_refl _) _⟩
      · have he := toList_some hs0
        by_cases hft : flagText gs = s
        · have hr := As.mk (rd_some (HE.out.trans (if_neg (by rintro (h | h); exact hs0 h; exact h hft))))
          have he2 : ((flagText gs).toList == s.toList) = true := by rw [hft]; simp
          have he3 : ((flagText gs).toList != s.toList) = false := by rw [hft]; simp
          clear hs0 HE hft
          generalize flagText gs = ft at *
          go_wp2_with (refine load_blk (by kernel_rfl) 23 _ rfl _ rfl X1 Tryd.underlying23 rfl info_fl (by rw [u8s_length]; exact hgl) ?_)
          refine (kt _).mono ?_; rintro e w2 ⟨rfl, hb2⟩
          have Y0 := X0.kept hb2
          have Y1 := X1.kept hb2
          have b2 := bl_call hb hb2
          go_wp2_with (first | (refine load_blk rfl 23 _ rfl _ rfl Y1 Tryd.underlying23 rfl info_fl (by rw [u8s_length]; exact hgl) ?_) | (refine store_blk rfl 23 _ _ rfl _ rfl rfl Y0 info_fl (by rw [u8s_length]; exact hgl) (by rw [u8s_length]; exact hz) (u8s_one _) ?_))
          refine ret_blk_tmp rfl _ rfl (Y0.setRow _) Tryd.underlying23 rfl info_fl (by rw [u8s_length]; exact hgl) rfl ⟨ret_v (by rw [hr.out.1, hr.out.2]; rfl), bl_setRow b2 (Nat.le_refl _) _⟩
        · have hr := As.mk (rd_none (HE.out.trans (if_pos (.inr hft))))
          have he2 := toList_ne2 hft
          have he3 : ((flagText gs).toList != s.toList) = true := by unfold bne; rw [he2]; rfl
          clear hs0 HE hft
          generalize flagText gs = ft at *
          go_wp2_with (refine load_blk (by kernel_rfl) 23 _ rfl _ rfl X1 Tryd.underlying23 rfl info_fl (by rw [u8s_length]; exact hgl) ?_)
          refine (kt _).mono ?_; rintro e w2 ⟨rfl, hb2⟩
          have Y0 := X0.kept hb2
          have b2 := bl_call hb hb2
          go_wp2_with (refine store_blk rfl 23 _ _ rfl _ rfl (ds := u8s zero24) rfl Y0 info_fl (by rfl) (by rfl) (u8s_one _) ?_)
          refine ret_blk_tmp rfl _ rfl (Y0.setRow _) Tryd.underlying23 rfl info_fl (by rfl) rfl ⟨ret_v (by rw [hr.out.1, hr.out.2]; rfl), bl_setRow b2 (Nat.le_refl _) _⟩
end Go.Proofs.YtjppoejkfpeicaaDoor

/- Contracts: laws.toHoist; SameHoist: both sides. -/
set_option linter.unusedVariables false
namespace Go.Proofs.YtjppoejkfpeicaaDoor
open Go.RowKit

theorem made_list (v : Value) (n : Nat) : (madeCells #[v] n).toList = List.replicate n v := by
  apply List.ext_getElem
  · simp [madeCells]
  · intro i h1 h2
    simp [madeCells, Nat.mod_one]
/-- 'make([]T, n)' as the walk meets it. -/
theorem make_of {P : Program} (t e : TypeId) (z : Value) (bytes : Nat) (ht : P.underlying t = some (.slice e)) (hinfo : (P.info? e).map (fun i => (i.zero, i.size, i.bytes)) = some (some z, 1, bytes)) (hz : z.cells = #[z]) (hb0 : 0 < bytes)
    (n : Nat) (hn : n * bytes ≤ 281474976710656) (W : World) : (Instr.makeSlice t (.int .i64 (n : Int)) (.int .i64 (n : Int))).run P W = .ok (.slice (some ⟨W.heap.size, 0, none⟩) n n) (W.alloc (.cells (List.replicate n z).toArray e)) := by
  have hm : n ≤ 281474976710656 := Nat.le_trans (Nat.le_mul_of_pos_right _ hb0) hn
  rw [run_make_row' t e z bytes ht hinfo hz .i64 .i64 n (by rw [Nat.mul_comm]; exact hn) (by omega) W, ← made_list z n]
theorem i8s_replicate (n : Nat) : List.replicate n (Value.int .i8 0) = i8s (List.replicate n 0) := by simp [i8s]
theorem Blk.sl {k : IntKind} {w : World} {b : Nat} {xs : List Int} {t : TypeId} (h : Blk w b (xs.map (Value.int k)) t) (hl : xs.length ≤ 9223372036854775807) : Sl k w (Option.some ⟨b, 0, none⟩) xs :=
  And.intro hl fun _ => ⟨b, 0, rfl, h.range⟩

end Go.Proofs.YtjppoejkfpeicaaDoor

/- Contracts: laws.toInt64S, eqInt64S. -/
set_option linter.unusedVariables false
namespace Go.Proofs.YtjppoejkfpeicaaDoor
open Go.RowKit

theorem info_i64 : (Tryd.prog.info? 2).map (fun i => (i.zero, i.size, i.bytes)) = some (some (.int .i64 0), 1, 8) := by kernel_rfl
theorem i64s_replicate (n : Nat) : List.replicate n (Value.int .i64 0) = i64s (List.replicate n 0) := by simp [i64s]
end Go.Proofs.YtjppoejkfpeicaaDoor

/- Slices that a law holds: marked, held; what a call made as a slice of numbers. (The contracts below the head are printed by genh.py.) -/
set_option linter.unusedVariables false
namespace Go.Proofs.YtjppoejkfpeicaaDoor
open Go.RowKit

section
variable {w w' : World} {base : Nat} {e : TypeId} {v : Value} {cs : List Value}
theorem Own.sl {k : IntKind} {xs : List Int} (h : Own w base e v (xs.map (Value.int k))) : ∃ A c, v = .slice A xs.length c ∧ Sl k w A xs := by
  rcases h.form with ⟨rfl, hn⟩ | ⟨g, c, rfl, _, _, hr, _, hm, _⟩
  · have : xs = [] := by simpa using hn
    subst this
    exact ⟨none, 0, rfl, ⟨by simp, fun hp => by simp at hp⟩⟩
  · rw [List.length_map] at hm ⊢
    exact ⟨_, c, rfl, ⟨hm, fun _ => ⟨g, 0, rfl, hr⟩⟩⟩
theorem Blk.own {b : Nat} (h : Blk w b cs e) (hb : base ≤ b) (hm : cs.length ≤ 9223372036854775807) : Own w base e (.slice (Option.some ⟨b, 0, none⟩) cs.length cs.length) cs :=
  And.intro (by simp) (Or.inr ⟨b, cs.length, cs.toArray, rfl, hb, h, Nat.le_refl _, by simp only [maxLen]; omega, by simp, by simp⟩)
theorem Own.addr {A : Option Addr} {n c : Nat} (h : Own w base e (.slice A n c) cs) (hp : 0 < cs.length) : ∃ g, A = some ⟨g, 0, none⟩ := by
  rcases h.form with ⟨_, rfl⟩ | ⟨g, c, hv, _⟩
  · simp at hp
  · simp only [Value.slice.injEq] at hv; exact ⟨g, hv.1⟩
theorem Own.cellAt {g n c : Nat} (h : Own w base e (.slice (some ⟨g, 0, none⟩) n c) cs) (j : Nat) (hj : j < cs.length) : w.cell? ⟨g, j, none⟩ = cs[j]? := by
  rcases h.form with ⟨hv, _⟩ | ⟨g', c', hv, _, _, hr, _⟩
  · simp at hv
  · simp only [Value.slice.injEq, Option.some.injEq, Addr.mk.injEq, and_true] at hv
    obtain ⟨rfl, _⟩ := hv
    have := hr j cs[j] (List.getElem?_eq_getElem hj)
    rw [Nat.zero_add] at this
    rw [this, List.getElem?_eq_getElem hj]
theorem Own.someAt {g n c : Nat} (h : Own w base e (.slice (some ⟨g, 0, none⟩) n c) cs) (j : Nat) (hj : j < cs.length) : ∃ u, w.cell? ⟨g, j, none⟩ = some u := by
  rw [h.cellAt j hj, List.getElem?_eq_getElem hj]; exact ⟨_, rfl⟩
theorem Own.frozenAt {g n c : Nat} (h : Own w base e (.slice (some ⟨g, 0, none⟩) n c) cs) (j : Nat) : w.frozen? ⟨g, j, none⟩ = false := by
  rcases h.form with ⟨hv, _⟩ | ⟨g', c', hv, _, _, _, hf, _⟩
  · simp at hv
  · simp only [Value.slice.injEq, Option.some.injEq, Addr.mk.injEq, and_true] at hv
    obtain ⟨rfl, _⟩ := hv
    exact hf j
theorem wrap_i64 (n : Int) (h0 : 0 ≤ n) (h1 : n ≤ 2147483647) : IntKind.wrap .i64 n = n := by
  simp [IntKind.wrap, IntKind.bits, IntKind.signed]; omega
/-- What a slice's own turning leaves: all below it. -/
theorem bl_grown {w0 : World} {B : Nat} (hb : Below B w0 w) (hB : B ≤ w.heap.size) (h : Own w base e v cs) (hg : w.grownBy w' v.ownBlock) (hbase : B ≤ base) : Below B w0 w' :=
  hb.grown hg hB (fun k hk => Nat.le_trans hbase (h.ge k hk))
/-- Another slice stays, of which the first lies below the second's begin. -/
theorem Own.kept2 {b2 : Nat} {e2 : TypeId} {u : Value} {ds : List Value} (h : Own w base e v cs) (hlt : ∀ k, v.ownBlock = some k → k < b2) (h2 : Own w b2 e2 u ds) (hg : w.grownBy w' u.ownBlock) : Own w' base e v cs := by
  refine h.grown hg ?_
  cases hv : v.ownBlock with
  | none => exact .inl rfl
  | some k =>
    refine .inr fun e' => ?_
    have := h2.ge k e'.symm
    have := hlt k hv
    omega
end

def marks (kd : IntKind) (k : Int) (n : Nat) : List Int := (List.range n).map fun (i : Nat) => kd.wrap (k + (i : Int))
def marked (kd : IntKind) (k : Int) (xs : List Int) (j : Nat) : List Int := (List.range xs.length).map fun i => if i < j then kd.wrap (k + (i : Int)) else nth xs i
theorem marks_length (kd : IntKind) (k : Int) (n : Nat) : (marks kd k n).length = n := by simp [marks]
theorem marked_length (kd : IntKind) (k : Int) (xs : List Int) (j : Nat) : (marked kd k xs j).length = xs.length := by simp [marked]
theorem marks_nth (kd : IntKind) (k : Int) (n j : Nat) (h : j < n) : nth (marks kd k n) j = kd.wrap (k + (j : Int)) := by unfold marks; rw [nth_map_range _ _ _ h]
theorem marked_zero (kd : IntKind) (k : Int) (xs : List Int) : marked kd k xs 0 = xs := by
  conv => rhs; rw [← range_nth xs _ rfl]
  apply List.map_congr_left
  intro i _
  rw [if_neg (by omega)]
theorem marked_succ (kd : IntKind) (k : Int) (xs : List Int) (j : Nat) : (marked kd k xs j).set j (kd.wrap (k + (j : Int))) = marked kd k xs (j + 1) := by
  apply List.ext_getElem
  · simp [marked]
  · intro i h1 h2
    simp only [List.getElem_set, marked, List.getElem_map, List.getElem_range]
    by_cases h : j = i
    · subst h; simp
    · rw [if_neg h]
      by_cases h3 : i < j
      · rw [if_pos h3, if_pos (by omega)]
      · rw [if_neg h3, if_neg (by omega)]
theorem marked_full (kd : IntKind) (k : Int) (xs : List Int) (j : Nat) (h : xs.length = j) : marked kd k xs j = marks kd k j := by
  subst h
  apply List.map_congr_left
  intro i hi
  rw [if_pos (List.mem_range.1 hi)]

end Go.Proofs.YtjppoejkfpeicaaDoor

/- Laws over slices: what stays while a slice is marked. -/
set_option linter.unusedVariables false
namespace Go.Proofs.YtjppoejkfpeicaaDoor
open Go.RowKit
section
variable {w w' w0 : World} {base : Nat} {e : TypeId} {v : Value} {cs : List Value} {k : IntKind} {xs : List Int}
theorem Blk.ownN {b : Nat} (h : Blk w b (xs.map (Value.int k)) e) (hb : base ≤ b) (hm : xs.length ≤ 9223372036854775807) : Own w base e (.slice (Option.some ⟨b, 0, none⟩) xs.length xs.length) (xs.map (Value.int k)) := by
  have := h.own hb (by rw [List.length_map]; exact hm)
  rwa [List.length_map] at this
theorem Blk.grown {b g n c : Nat} (h : Blk w b cs e) (hg : w.grownBy w' (Value.slice (Option.some ⟨g, 0, none⟩) n c).ownBlock) (hne : b ≠ g) : Blk w' b cs e :=
  (hg.block b h.lt (by simp only [Value.ownBlock, ne_eq, Option.some.injEq]; exact hne)).trans h
theorem Own.sl' {A : Option Addr} {n c : Nat} (h : Own w base e (.slice A n c) (xs.map (Value.int k))) : Sl k w A xs := by
  obtain ⟨A', c', hv, S⟩ := h.sl
  simp only [Value.slice.injEq] at hv
  rw [hv.1]; exact S
theorem Own.slN {A : Option Addr} {n c : Nat} {kd : IntKind} {k0 : Int} (h : Own w base e (.slice A n c) ((marks kd k0 n).map (Value.int k))) : Sl k w A (marks kd k0 n) := h.sl'
/-- A slice stays while a block below it is turned. -/
theorem Own.keptBy {g n c : Nat} (h : Own w base e v cs) (hg : w.grownBy w' (Value.slice (some ⟨g, 0, none⟩) n c).ownBlock) (hlt : g < base) : Own w' base e v cs := by
  refine h.grown hg ?_
  cases hv : v.ownBlock with
  | none => exact .inl rfl
  | some k =>
    refine .inr fun e' => ?_
    simp only [Value.ownBlock, Option.some.injEq] at e'
    have := h.ge k hv
    omega
theorem bl_mark {B g n c : Nat} (hb : Below B w0 w) (hB : B ≤ w.heap.size) (hg : w.grownBy w' (Value.slice (some ⟨g, 0, none⟩) n c).ownBlock) (hBg : B ≤ g) : Below B w0 w' :=
  hb.grown hg hB (fun k hk => by simp only [Value.ownBlock, Option.some.injEq] at hk; omega)
end
end Go.Proofs.YtjppoejkfpeicaaDoor

/- Contracts: impl.DistanceOf. -/
set_option linter.unusedVariables false
namespace Go.Proofs.YtjppoejkfpeicaaDoor
open Go.RowKit

set_option maxHeartbeats 800000 in
theorem DistanceOf_any (xs ys : List Int) (hx : xs.length = 24) (hy : ys.length = 24) (w : World) :
    Calls Tryd.prog 17 #[fl xs, fl ys] w fun e w' => e = .returned (.tuple #[.int .i64 (distN xs ys), .int .i64 (codeV (vf xs && vf ys))]) ∧ Below w.heap.size w w' := by
  unfold fl
  have B0 : Blk ((w.alloc (.cells (u8s xs).toArray 23)).alloc (.cells (u8s ys).toArray 23)) w.heap.size (u8s xs) 23 := (Blk.new _ _ _).alloc _
  have B1 : Blk ((w.alloc (.cells (u8s xs).toArray 23)).alloc (.cells (u8s ys).toArray 23)) (w.heap.size + 1) (u8s ys) 23 := Blk.mk _ _ _ (by simp)
  have b0 := bl_new (bl_new (Below.refl _ w) (.cells (u8s xs).toArray 23)) (.cells (u8s ys).toArray 23)
  have hU := fun (W : World) (c c' : Nat) h h' => unlike_any xs ys (by rw [hx, hy]) (by omega) w.heap.size 0 c (w.heap.size + 1) 0 c' W h h'
  rw [hx] at hU
  cases h1 : vf xs
  · have hN := As.mk (show distN xs ys = if vf xs && vf ys then diffs xs ys 24 else 0 from rfl)
    go_enter Tryd.func17, Tryd.ntmps17
    go_wp2_with (refine load_blk rfl 23 _ rfl _ rfl B0 Tryd.underlying23 rfl info_fl (by rw [u8s_length]; exact hx) ?_)
    refine (ValidFlag_any xs hx _).mono ?_; rintro e w1 ⟨rfl, hb1⟩
    go_wp2_with (fail)
    go_ret2
    exact ⟨ret_2 (by rw [hN.out, h1]; rfl) rfl, bl_call b0 hb1⟩
  · cases h2 : vf ys
    · have hN := As.mk (show distN xs ys = if vf xs && vf ys then diffs xs ys 24 else 0 from rfl)
      go_enter Tryd.func17, Tryd.ntmps17
      go_wp2_with (refine load_blk rfl 23 _ rfl _ rfl B0 Tryd.underlying23 rfl info_fl (by rw [u8s_length]; exact hx) ?_)
      refine (ValidFlag_any xs hx _).mono ?_; rintro e w1 ⟨rfl, hb1⟩
      have B1' := B1.kept hb1
      go_wp2_with (refine load_blk rfl 23 _ rfl _ rfl B1' Tryd.underlying23 rfl info_fl (by rw [u8s_length]; exact hy) ?_)
      refine (ValidFlag_any ys hy _).mono ?_; rintro e w2 ⟨rfl, hb2⟩
      go_wp2_with (fail)
      go_ret2
      exact ⟨ret_2 (by rw [hN.out, h1, h2]; rfl) rfl, bl_call (bl_call b0 hb1) hb2⟩
    · have hN := As.mk (show distN xs ys = if vf xs && vf ys then diffs xs ys 24 else 0 from rfl)
      go_enter Tryd.func17, Tryd.ntmps17
      go_wp2_with (refine load_blk rfl 23 _ rfl _ rfl B0 Tryd.underlying23 rfl info_fl (by rw [u8s_length]; exact hx) ?_)
      refine (ValidFlag_any xs hx _).mono ?_; rintro e w1 ⟨rfl, hb1⟩
      have B1' := B1.kept hb1
      go_wp2_with (refine load_blk rfl 23 _ rfl _ rfl B1' Tryd.underlying23 rfl info_fl (by rw [u8s_length]; exact hy) ?_)
      refine (ValidFlag_any ys hy _).mono ?_; rintro e w2 ⟨rfl, hb2⟩
      have R0 := ((B0.kept hb1).kept hb2).range
      have R1 := (B1'.kept hb2).range
      go_wp2_with (fail)
      go_quiet ((go_at_call 41; exact Calls.quiet_of_same (hU _ _ _ R0 R1)))
      go_wp2
      go_ret2
      exact ⟨ret_2 (by rw [hN.out, h1, h2]; rfl) rfl, bl_drewN (bl_call (bl_call b0 hb1) hb2) _⟩
end Go.Proofs.YtjppoejkfpeicaaDoor
