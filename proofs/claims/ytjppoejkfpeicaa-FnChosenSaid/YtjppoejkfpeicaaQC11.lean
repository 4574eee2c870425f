/- Contracts and plain facts, several texts in one. -/
import Derived.Test.YtjppoejkfpeicaaQC9
import Derived.Test.YtjppoejkfpeicaaQC7
import Derived.Test.YtjppoejkfpeicaaQC10
import Derived.Test.YtjppoejkfpeicaaQC3
import Derived.Great.FillDense
/- Contracts: flags that are drawn: l01Made of any kind, one, l01Drawn. -/
set_option linter.unusedVariables false
set_option linter.unusedSimpArgs false
namespace Go.Proofs.Ytjppoejkfpeicaa
open Go.RowKit

/-- A valid flag. -/
def Fine (f : List Int) : Prop := f.length = 24 ∧ ∀ x ∈ f, 0 ≤ x ∧ x ≤ 5
theorem Fine.nth {f : List Int} (h : Fine f) (i : Nat) : 0 ≤ nth f i ∧ nth f i ≤ 5 := by
  by_cases hi : i < f.length
  · exact h.2 _ (nth_mem f i hi)
  · rw [nth_out f i (by omega)]; omega
theorem Fine.vf {f : List Int} (h : Fine f) : vf f = true := by
  unfold Go.Proofs.Ytjppoejkfpeicaa.vf; rw [List.all_eq_true]
  intro x hx
  have := h.2 x hx
  simpa using this.2
theorem Fine.bytes {f : List Int} (h : Fine f) : Bytes f := fun x hx => by have := h.2 x hx; omega
theorem Fine.of_map (g : Nat → Int) (hg : ∀ i, i < 24 → 0 ≤ g i ∧ g i ≤ 5) : Fine ((List.range 24).map g) := ⟨by simp, fun x hx => by
  obtain ⟨i, hi, rfl⟩ := List.mem_map.1 hx
  exact hg i (List.mem_range.1 hi)⟩
theorem Fine.set {f : List Int} (h : Fine f) (i : Nat) (x : Int) (h0 : 0 ≤ x) (h5 : x ≤ 5) : Fine (f.set i x) := ⟨by rw [List.length_set]; exact h.1, fun y hy => by
  rcases List.mem_or_eq_of_mem_set hy with hy | hy
  · exact h.2 y hy
  · subst hy; exact ⟨h0, h5⟩⟩
theorem Blk.byGrown2 {w w' : World} {b : Nat} {cs : List Value} {t : TypeId} {row : Option Nat} (h : Blk w b cs t) (hg : w.grownBy w' row) (hne : row ≠ Option.some b) : Blk w' b cs t :=
  (hg.block b h.lt (fun e => hne e.symm)).trans h
theorem Src.mono {w : World} {P : Nat} {A : Option Addr} {xs : List Int} {c k k' : Nat} (h : Src w P A xs c k) (hk : k ≤ k') : Src w P A xs c k' := by
  obtain ⟨at', seed, h1, h2⟩ := h
  exact ⟨at', seed, h1, by omega⟩
theorem Src.lt {w : World} {P : Nat} {A : Option Addr} {xs : List Int} {c k : Nat} (h : Src w P A xs c k) : P < w.heap.size := by
  obtain ⟨at', seed, h1, h2⟩ := h
  exact h1.blk.lt
theorem Src.kept {w w' : World} {P : Nat} {A : Option Addr} {xs : List Int} {c k : Nat} (h : Src w P A xs c k) (hb : Below w.heap.size w w') : Src w' P A xs c k := by
  obtain ⟨at', seed, h1, h2⟩ := h
  exact ⟨at', seed, ⟨h1.blk.kept hb, h1.sl.kept hb, h1.len, h1.bytes, h1.at0, h1.seed0, h1.low⟩, h2⟩

set_option maxHeartbeats 1000000 in
theorem one_src (P : Nat) (A : Option Addr) (xs : List Int) (c k : Nat) (hk : k < 999999999) (n : Int) (hn : 2 ≤ n ∧ n ≤ 200) (w : World) (hS : Src w P A xs c k) :
    Calls Try.prog 94 #[.pointer (some ⟨P, 0, none⟩), .int .i64 n] w fun e w' => (∃ x : Bool, e = .returned (.bool x)) ∧ Src w' P A xs c (k + 1) ∧ w.grownBy w' (some P) := by
  have key := pick_src P A xs c k hk n hn w hS
  go_enter Try.func94, Try.ntmps94
  go_wp2_with (fail)
  refine key.mono ?_; rintro e w1 ⟨⟨x, rfl, x0, x1⟩, hS1, hg⟩
  go_wp2_with (fail)
  go_ret
  exact ⟨⟨_, rfl⟩, hS1, hg⟩

set_option maxHeartbeats 1000000 in
theorem l01Made3_any (a b : Int) (ha : 0 ≤ a ∧ a ≤ 5) (hb5 : 0 ≤ b ∧ b ≤ 5) (w : World) :
    Calls Try.prog 68 #[.int .i64 a, .int .i64 b, .int .i64 3] w fun e w' => e = .returned (.tuple #[fl (madeL 3 a b), .int .i64 0]) ∧ Below w.heap.size w w' := by
  have B0 : Blk ((w.alloc (.cells #[.int .u8 0, .int .u8 0, .int .u8 0, .int .u8 0, .int .u8 0, .int .u8 0, .int .u8 0, .int .u8 0, .int .u8 0, .int .u8 0, .int .u8 0, .int .u8 0, .int .u8 0, .int .u8 0, .int .u8 0, .int .u8 0, .int .u8 0, .int .u8 0, .int .u8 0, .int .u8 0, .int .u8 0, .int .u8 0, .int .u8 0, .int .u8 0] 38)).alloc (.cells #[.int .u8 0, .int .u8 0, .int .u8 0, .int .u8 0, .int .u8 0, .int .u8 0, .int .u8 0, .int .u8 0, .int .u8 0, .int .u8 0, .int .u8 0, .int .u8 0, .int .u8 0, .int .u8 0, .int .u8 0, .int .u8 0, .int .u8 0, .int .u8 0, .int .u8 0, .int .u8 0, .int .u8 0, .int .u8 0, .int .u8 0, .int .u8 0] 38)) w.heap.size (u8s zero24) 38 := (Blk.mk _ (u8s zero24) _ rfl).alloc _
  have B1 : Blk ((w.alloc (.cells #[.int .u8 0, .int .u8 0, .int .u8 0, .int .u8 0, .int .u8 0, .int .u8 0, .int .u8 0, .int .u8 0, .int .u8 0, .int .u8 0, .int .u8 0, .int .u8 0, .int .u8 0, .int .u8 0, .int .u8 0, .int .u8 0, .int .u8 0, .int .u8 0, .int .u8 0, .int .u8 0, .int .u8 0, .int .u8 0, .int .u8 0, .int .u8 0] 38)).alloc (.cells #[.int .u8 0, .int .u8 0, .int .u8 0, .int .u8 0, .int .u8 0, .int .u8 0, .int .u8 0, .int .u8 0, .int .u8 0, .int .u8 0, .int .u8 0, .int .u8 0, .int .u8 0, .int .u8 0, .int .u8 0, .int .u8 0, .int .u8 0, .int .u8 0, .int .u8 0, .int .u8 0, .int .u8 0, .int .u8 0, .int .u8 0, .int .u8 0] 38)) (w.heap.size + 1) (u8s zero24) 38 := Blk.mk _ (u8s zero24) _ (by simp)
  have b0 : Below w.heap.size w ((w.alloc (.cells #[.int .u8 0, .int .u8 0, .int .u8 0, .int .u8 0, .int .u8 0, .int .u8 0, .int .u8 0, .int .u8 0, .int .u8 0, .int .u8 0, .int .u8 0, .int .u8 0, .int .u8 0, .int .u8 0, .int .u8 0, .int .u8 0, .int .u8 0, .int .u8 0, .int .u8 0, .int .u8 0, .int .u8 0, .int .u8 0, .int .u8 0, .int .u8 0] 38)).alloc (.cells #[.int .u8 0, .int .u8 0, .int .u8 0, .int .u8 0, .int .u8 0, .int .u8 0, .int .u8 0, .int .u8 0, .int .u8 0, .int .u8 0, .int .u8 0, .int .u8 0, .int .u8 0, .int .u8 0, .int .u8 0, .int .u8 0, .int .u8 0, .int .u8 0, .int .u8 0, .int .u8 0, .int .u8 0, .int .u8 0, .int .u8 0, .int .u8 0] 38)) := bl_new (bl_new (Below.refl _ _) _) _
  have C0 := B0.farRow (g := w.heap.size + 1) (by omega) (u8s zero24).toArray
  have C1 := B1.setRow (u8s zero24)
  have c0 := bl_setRow b0 (g := w.heap.size + 1) (by omega) (u8s zero24).toArray
  have h2 : inR a 0 5 = true := (inR_iff _ _ _).2 ha
  have h3 : inR b 0 5 = true := (inR_iff _ _ _).2 hb5
  have n1 := ha.1; have n2 := ha.2
  have n3 := hb5.1; have n4 := hb5.2
  have hz : part (madeF 3 a b) 24 0 = zero24 := part_zero _ _
  have HZ := As.mk hz
  clear hz ha hb5
  go_enter Try.func68, Try.ntmps68
  go_wp2_with (first | (refine store_blk rfl 38 _ _ rfl _ rfl (ds := u8s zero24) rfl B1 info_fl (by rfl) (by rfl) (u8s_one _) ?_) | (go_at_call 67; refine (l01Colour_any _ _).mono ?_; rintro e w' ⟨rfl, rfl⟩))
  go_loopw [9] (fun i wr => ∃ k : Nat, k ≤ 24 ∧ i = .int .i64 k ∧ Blk wr w.heap.size (u8s zero24) 38 ∧ Blk wr (w.heap.size + 1) (u8s (part (madeF 3 a b) 24 k)) 38 ∧ Below w.heap.size w wr) (fun i _ => 24 - (intOf i).toNat)
  case atStart => exact ⟨0, by omega, rfl, C0, by rw [HZ.out]; exact C1, c0⟩
  case round =>
    obtain ⟨k, hk, rfl, g1, g2, hb⟩ := hrel
    clear B0 B1 b0 C0 C1 c0 HZ
    by_cases hlt : k < 24
    · have hlt' : (k : Int) < 24 := by omega
      obtain ⟨v2, c2⟩ := g2.some k (by rw [u8s_length, part_length]; exact hlt)
      have f2 := g2.frozen k
      have e := As.mk (part_set (madeF 3 a b) 24 k)
      go_wp2
      go_roundw
      case rel => exact ⟨k + 1, by omega, by go_num, g1.far (by simp) _, by have := g2.set k (.int .u8 a); rw [u8s_set] at this; rw [← e.out]; exact this, hb.setCell (by simp) _⟩
      case measure => simp [intOf]; omega
    · obtain rfl : k = 24 := by omega
      rw [part_full] at g2
      have hl : (madeL 3 a b).length = 24 := madeL_length _ _ _
      have g2 : Blk wr (w.heap.size + 1) (u8s (madeL 3 a b)) 38 := g2
      go_wp2_with (first | (refine load_blk rfl 38 _ rfl _ rfl g2 Try.underlying38 rfl info_fl (by rw [u8s_length]; exact hl) ?_) | (refine store_blk rfl 38 _ _ rfl _ rfl rfl g1 info_fl (by rw [u8s_length]; exact hl) (by rw [u8s_length]; exact zero24_length) (u8s_one _) ?_))
      refine ret_blk_tmp rfl _ rfl (g1.setRow _) Try.underlying38 rfl info_fl (by rw [u8s_length]; exact hl) rfl ⟨rfl, bl_setRow hb (by omega) _⟩

theorem madeL_fine (kind : Nat) (a b : Int) (ha : 0 ≤ a ∧ a ≤ 5) (hb : 0 ≤ b ∧ b ≤ 5) : Fine (madeL kind a b) := Fine.of_map _ fun i _ => by unfold madeF; split <;> omega
theorem l01Made_fine (a b kd : Int) (ha : 0 ≤ a ∧ a ≤ 5) (hb : 0 ≤ b ∧ b ≤ 5) (hk : 0 ≤ kd ∧ kd ≤ 3) (w : World) :
    Calls Try.prog 68 #[.int .i64 a, .int .i64 b, .int .i64 kd] w fun e w' => (∃ f, e = .returned (.tuple #[fl f, .int .i64 0]) ∧ Fine f) ∧ Below w.heap.size w w' := by
  have hA : aC [a, b] = true := by rw [aC_two, Bool.and_eq_true]; exact ⟨(inR_iff _ _ _).2 ha, (inR_iff _ _ _).2 hb⟩
  have ho : ∀ ys, okF (aC [a, b]) ys = ys := fun ys => by rw [hA]; rfl
  have hc : codeR (aC [a, b]) = 0 := by rw [hA]; rfl
  rcases (by omega : kd = 0 ∨ kd = 1 ∨ kd = 2 ∨ kd = 3) with rfl | rfl | rfl | rfl
  · refine (l01Made0_any a b w).mono ?_; rintro e w' ⟨rfl, h⟩; rw [ho, hc]; exact ⟨⟨_, rfl, madeL_fine 0 a b ha hb⟩, h⟩
  · refine (l01Made1_any a b w).mono ?_; rintro e w' ⟨rfl, h⟩; rw [ho, hc]; exact ⟨⟨_, rfl, madeL_fine 1 a b ha hb⟩, h⟩
  · refine (l01Made2_any a b w).mono ?_; rintro e w' ⟨rfl, h⟩; rw [ho, hc]; exact ⟨⟨_, rfl, madeL_fine 2 a b ha hb⟩, h⟩
  · refine (l01Made3_any a b ha hb w).mono ?_; rintro e w' ⟨rfl, h⟩; exact ⟨⟨_, rfl, madeL_fine 3 a b ha hb⟩, h⟩
theorem sPlain_fine (a : Int) (ha : 0 ≤ a ∧ a ≤ 5) (w : World) :
    Calls Try.prog 26 #[.int .i64 a] w fun e w' => (∃ f, e = .returned (.tuple #[fl f, .int .i64 0]) ∧ Fine f) ∧ Below w.heap.size w w' := by
  have hA : inR a 0 5 = true := (inR_iff _ _ _).2 ha
  refine (sPlainFlag_any a w).mono ?_; rintro e w' ⟨rfl, h⟩
  rw [hA]
  exact ⟨⟨plainL a, rfl, Fine.of_map _ fun i _ => ha⟩, h⟩
theorem sStripes_fine (a b d : Int) (up : Bool) (ha : 0 ≤ a ∧ a ≤ 5) (hb : 0 ≤ b ∧ b ≤ 5) (hd : 0 ≤ d ∧ d ≤ 5) (A : Option Addr) (c : Nat) (w : World) (hs : Sl .i64 w A [a, b, d]) :
    Calls Try.prog 25 #[.slice A 3 c, .bool up] w fun e w' => (∃ f, e = .returned (.tuple #[fl f, .int .i64 0]) ∧ Fine f) ∧ Below w.heap.size w w' := by
  have hA : stripesOk [a, b, d] up = true := by
    unfold stripesOk aC
    simp only [Bool.and_eq_true, List.all_cons, List.all_nil, Bool.and_true, inR_iff]
    refine ⟨?_, ha, hb, hd⟩
    simp; split <;> omega
  refine (sStripesOf_any [a, b, d] up A c w hs (by simp)).mono ?_; rintro e w' ⟨rfl, h⟩
  rw [hA]
  refine ⟨⟨stripeL [a, b, d] up, rfl, Fine.of_map _ fun i _ => ?_⟩, h⟩
  have hc : ∀ q, 0 ≤ nth [a, b, d] q ∧ nth [a, b, d] q ≤ 5 := fun q => by
    by_cases hq : q < 3
    · rcases (by omega : q = 0 ∨ q = 1 ∨ q = 2) with rfl | rfl | rfl
      · exact ha
      · exact hb
      · exact hd
    · rw [nth_out _ q (by simp; omega)]; omega
  unfold stripeF
  exact hc _
end Go.Proofs.Ytjppoejkfpeicaa

/- Contracts: l01Drawn, P6Flag, P6Set: flags that are drawn are valid. -/
set_option linter.unusedVariables false
set_option linter.unusedSimpArgs false
namespace Go.Proofs.Ytjppoejkfpeicaa
open Go.RowKit

theorem grow_row {w W : World} {row : Option Nat} (h : w.grownBy W row) {F : Nat} (hF : w.heap.size ≤ F) (ds : Array Value) : w.grownBy (W.setRow F ds) row :=
  ⟨h.os, h.tape, h.output, by rw [setRow_size]; exact h.size, fun k hk hne => by rw [← h.block k hk hne]; exact setRow_other W F k ds (by omega)⟩
theorem grow_cell {w W : World} {row : Option Nat} (h : w.grownBy W row) {a : Addr} (hF : w.heap.size ≤ a.block) (v : Value) : w.grownBy (W.setCell a v) row :=
  ⟨h.os, h.tape, h.output, by simpa [World.setCell] using h.size, fun k hk hne => by rw [← h.block k hk hne]; exact heap_setCell_other W a k v (by omega)⟩
theorem grow_below {w W W' : World} {row : Option Nat} (h : w.grownBy W row) (hb : Below W.heap.size W W') : w.grownBy W' row :=
  ⟨hb.os.trans h.os, hb.tape.trans h.tape, hb.output.trans h.output, Nat.le_trans h.size hb.size, fun k hk hne => (hb.block k (Nat.lt_of_lt_of_le hk h.size)).trans (h.block k hk hne)⟩
theorem Src.re {w W W' : World} {P : Nat} {A : Option Addr} {xs : List Int} {c k0 k : Nat} (h0 : Src w P A xs c k0) (hW : Src W P A xs c k) (hg : w.grownBy W' (some P)) (hb : W'.heap[P]? = W.heap[P]?) : Src W' P A xs c k := by
  obtain ⟨at', seed, h1, h2⟩ := hW
  obtain ⟨_, _, h3, _⟩ := h0
  exact ⟨at', seed, ⟨hb.trans h1.blk, h3.sl.ofGrown hg h3.low, h1.len, h1.bytes, h1.at0, h1.seed0, h1.low⟩, h2⟩

structure Dw (w W : World) (P : Nat) (A : Option Addr) (xs : List Int) (c k F : Nat) (f : List Int) : Prop where
  src : Src W P A xs c k
  res : Blk W w.heap.size (u8s zero24) 38
  blk : Blk W F (u8s f) 38
  grw : w.grownBy W (some P)
  fine : Fine f
  low : w.heap.size < F
section
variable {w W W' : World} {P : Nat} {A : Option Addr} {xs : List Int} {c k k' F k0 : Nat} {f f' : List Int}
theorem Dw.pick (h : Dw w W P A xs c k F f) (hP : P < w.heap.size) (hg : W.grownBy W' (some P)) (hS : Src W' P A xs c k') : Dw w W' P A xs c k' F f :=
  ⟨hS, h.res.byGrown2 hg (by simp; omega), h.blk.byGrown2 hg (by have := h.low; simp; omega), h.grw.trans hg, h.fine, h.low⟩
theorem Dw.call (h : Dw w W P A xs c k F f) (hb : Below W.heap.size W W') : Dw w W' P A xs c k F f :=
  ⟨h.src.kept hb, h.res.kept hb, h.blk.kept hb, grow_below h.grw hb, h.fine, h.low⟩
theorem Dw.row (h : Dw w W P A xs c k F f) (h0 : Src w P A xs c k0) (hf : Fine f') : Dw w (W.setRow F (u8s f').toArray) P A xs c k F f' := by
  have hg := grow_row h.grw (Nat.le_of_lt h.low) (u8s f').toArray
  have hP := h0.lt
  have hlow := h.low
  exact ⟨h0.re h.src hg (setRow_other W F P _ (by omega)), h.res.farRow (by omega) _, h.blk.setRow _, hg, hf, h.low⟩
theorem Dw.set (h : Dw w W P A xs c k F f) (h0 : Src w P A xs c k0) (i : Nat) (x : Int) (hx : 0 ≤ x ∧ x ≤ 5) : Dw w (W.setCell ⟨F, i, none⟩ (.int .u8 x)) P A xs c k F (f.set i x) := by
  have hg := grow_cell (a := ⟨F, i, none⟩) h.grw (Nat.le_of_lt h.low) (.int .u8 x)
  have hP := h0.lt
  have hlow := h.low
  refine ⟨h0.re h.src hg (heap_setCell_other W ⟨F, i, none⟩ P _ (by show P ≠ F; omega)), h.res.far (by show w.heap.size ≠ F; omega) _, ?_, hg, h.fine.set i x hx.1 hx.2, h.low⟩
  have := h.blk.set i (.int .u8 x)
  rw [u8s_set] at this; exact this
end

set_option maxRecDepth 100000 in
set_option maxHeartbeats 4000000 in
theorem l01Drawn_any (P : Nat) (A : Option Addr) (xs : List Int) (c k : Nat) (hk : k < 999999000) (w : World) (hS : Src w P A xs c k) :
    Calls Try.prog 73 #[.pointer (some ⟨P, 0, none⟩)] w fun e w' => (∃ f, e = .returned (fl f) ∧ Fine f) ∧ Src w' P A xs c (k + 20) ∧ w.grownBy w' (some P) := by
  have hP := hS.lt
  have HS0 := As.mk hS
  have S0 := hS.kept (bl_new (Below.refl _ _) (.cells #[.int .u8 0, .int .u8 0, .int .u8 0, .int .u8 0, .int .u8 0, .int .u8 0, .int .u8 0, .int .u8 0, .int .u8 0, .int .u8 0, .int .u8 0, .int .u8 0, .int .u8 0, .int .u8 0, .int .u8 0, .int .u8 0, .int .u8 0, .int .u8 0, .int .u8 0, .int .u8 0, .int .u8 0, .int .u8 0, .int .u8 0, .int .u8 0] 38))
  have R0 : Blk (w.alloc (.cells #[.int .u8 0, .int .u8 0, .int .u8 0, .int .u8 0, .int .u8 0, .int .u8 0, .int .u8 0, .int .u8 0, .int .u8 0, .int .u8 0, .int .u8 0, .int .u8 0, .int .u8 0, .int .u8 0, .int .u8 0, .int .u8 0, .int .u8 0, .int .u8 0, .int .u8 0, .int .u8 0, .int .u8 0, .int .u8 0, .int .u8 0, .int .u8 0] 38)) w.heap.size (u8s zero24) 38 := Blk.mk _ (u8s zero24) _ rfl
  have g0 : w.grownBy (w.alloc (.cells #[.int .u8 0, .int .u8 0, .int .u8 0, .int .u8 0, .int .u8 0, .int .u8 0, .int .u8 0, .int .u8 0, .int .u8 0, .int .u8 0, .int .u8 0, .int .u8 0, .int .u8 0, .int .u8 0, .int .u8 0, .int .u8 0, .int .u8 0, .int .u8 0, .int .u8 0, .int .u8 0, .int .u8 0, .int .u8 0, .int .u8 0, .int .u8 0] 38)) (some P) := World.grownBy_alloc _ _ _
  have hne : (some P) ≠ some w.heap.size := by simp; omega
  go_enter Try.func73, Try.ntmps73
  go_wp2_with (fail)
  refine (pick_src P A xs c k (by omega) 6 (by omega) _ S0).mono ?_; rintro e w1 ⟨⟨a, rfl, a0, a1⟩, S1, G1⟩
  have R1 := R0.byGrown2 G1 hne
  have g1 := g0.trans G1
  clear S0 R0 g0 G1
  go_wp2_with (fail)
  refine (pick_src P A xs c (k + 1) (by omega) 6 (by omega) _ S1).mono ?_; rintro e w2 ⟨⟨b, rfl, b0, b1⟩, S2, G2⟩
  have R2 := R1.byGrown2 G2 hne
  have g2 := g1.trans G2
  clear S1 R1 g1 G2
  go_wp2_with (fail)
  refine (pick_src P A xs c (k + 1 + 1) (by omega) 4 (by omega) _ S2).mono ?_; rintro e w3 ⟨⟨d, rfl, d0, d1⟩, S3, G3⟩
  have R3 := R2.byGrown2 G3 hne
  have g3 := g2.trans G3
  clear S2 R2 g2 G3
  go_wp2_with (fail)
  refine (l01Made_fine a b d ⟨a0, by omega⟩ ⟨b0, by omega⟩ ⟨d0, by omega⟩ _).mono ?_; rintro e w4 ⟨⟨f, rfl, hf⟩, hb4⟩
  have S4 := S3.kept hb4
  have R4 := R3.kept hb4
  have g4 := grow_below g3 hb4
  have hw4 := As.mk R4.lt
  clear S3 R3 g3 hb4
  have X4 : Blk (w4.alloc (.cells #[.int .u8 0, .int .u8 0, .int .u8 0, .int .u8 0, .int .u8 0, .int .u8 0, .int .u8 0, .int .u8 0, .int .u8 0, .int .u8 0, .int .u8 0, .int .u8 0, .int .u8 0, .int .u8 0, .int .u8 0, .int .u8 0, .int .u8 0, .int .u8 0, .int .u8 0, .int .u8 0, .int .u8 0, .int .u8 0, .int .u8 0, .int .u8 0] 38)) w4.heap.size (u8s zero24) 38 := Blk.mk _ (u8s zero24) _ rfl
  have D4 : As (Dw w ((w4.alloc (.cells #[.int .u8 0, .int .u8 0, .int .u8 0, .int .u8 0, .int .u8 0, .int .u8 0, .int .u8 0, .int .u8 0, .int .u8 0, .int .u8 0, .int .u8 0, .int .u8 0, .int .u8 0, .int .u8 0, .int .u8 0, .int .u8 0, .int .u8 0, .int .u8 0, .int .u8 0, .int .u8 0, .int .u8 0, .int .u8 0, .int .u8 0, .int .u8 0] 38)).setRow w4.heap.size (u8s f).toArray) P A xs c (k + 3) w4.heap.size f) := ⟨by
    have D : Dw w (w4.alloc (.cells #[.int .u8 0, .int .u8 0, .int .u8 0, .int .u8 0, .int .u8 0, .int .u8 0, .int .u8 0, .int .u8 0, .int .u8 0, .int .u8 0, .int .u8 0, .int .u8 0, .int .u8 0, .int .u8 0, .int .u8 0, .int .u8 0, .int .u8 0, .int .u8 0, .int .u8 0, .int .u8 0, .int .u8 0, .int .u8 0, .int .u8 0, .int .u8 0] 38)) P A xs c (k + 3) w4.heap.size zero24 :=
      ⟨S4.kept (bl_new (Below.refl _ _) _), R4.alloc _, X4, grow_below g4 (bl_new (Below.refl _ _) _), by unfold Fine; decide, hw4.out⟩
    exact D.row HS0.out hf⟩
  have hl := hf.1
  clear S4 R4 g4 hf
  unfold fl
  go_wp2_with (refine store_blk rfl 38 _ _ rfl _ rfl rfl X4 info_fl (by rw [u8s_length]; exact hl) (by rw [u8s_length]; exact zero24_length) (u8s_one _) ?_)
  clear X4 hl
  generalize (w4.alloc (.cells #[.int .u8 0, .int .u8 0, .int .u8 0, .int .u8 0, .int .u8 0, .int .u8 0, .int .u8 0, .int .u8 0, .int .u8 0, .int .u8 0, .int .u8 0, .int .u8 0, .int .u8 0, .int .u8 0, .int .u8 0, .int .u8 0, .int .u8 0, .int .u8 0, .int .u8 0, .int .u8 0, .int .u8 0, .int .u8 0, .int .u8 0, .int .u8 0] 38)).setRow w4.heap.size (u8s f).toArray = w5 at *
  obtain ⟨F, hF⟩ : ∃ F, w4.heap.size = F := ⟨_, rfl⟩
  rw [hF] at D4 ⊢
  clear hF hw4
  refine (pick_src P A xs c (k + 3) (by omega) 5 (by omega) _ D4.out.src).mono ?_; rintro e w6 ⟨⟨t, rfl, t0, t1⟩, S6, G6⟩
  have D6 := As.mk (D4.out.pick hP G6 S6)
  clear D4 S6 G6
  by_cases h0 : t = 0
  case' pos =>
    subst h0
    clear t0 t1
    go_wp2_with (fail)
    refine (sPlain_fine a ⟨a0, by omega⟩ _).mono ?_; rintro e w7 ⟨⟨f7, rfl, hf7⟩, hb7⟩
    have D7 := As.mk (D6.out.call hb7)
    have X7 := D7.out.blk
    have hl0 := D7.out.fine.1
    have hl7 := hf7.1
    have D8 : As (∃ f, Dw w (w7.setRow F (u8s f7).toArray) P A xs c (k + 8) F f) := ⟨⟨f7, by
      have D := D7.out.row HS0.out hf7
      exact ⟨D.src.mono (by omega), D.res, D.blk, D.grw, D.fine, D.low⟩⟩⟩
    clear D6 hb7 D7 hf7
    unfold fl
    go_wp2_with (refine store_blk rfl 38 _ _ rfl _ rfl rfl X7 info_fl (by rw [u8s_length]; exact hl7) (by rw [u8s_length]; exact hl0) (u8s_one _) ?_)
    clear X7 hl0 hl7
    generalize w7.setRow F (u8s f7).toArray = w8 at *
  case' neg =>
    by_cases h1 : t = 1
    case' pos =>
      subst h1
      clear t0 t1 h0
      go_wp2_with (fail)
      refine (pick_src P A xs c (k + 3 + 1) (by omega) 6 (by omega) _ D6.out.src).mono ?_; rintro e w61 ⟨⟨d2, rfl, e0, e1⟩, S61, G61⟩
      have D61 := As.mk (D6.out.pick hP G61 S61)
      clear D6 S61 G61
      have B61 := Blk.mk w61 (i64s [a, b, d2]) 2 rfl
      have D62 := As.mk (D61.out.call (bl_new (Below.refl _ _) (.cells #[.int .i64 a, .int .i64 b, .int .i64 d2] 2)))
      have hsz : F < w61.heap.size := D61.out.blk.lt
      have hPF := D61.out.src.lt
      clear D61
      go_wp2_with (fail)
      refine (one_src P A xs c (k + 3 + 1 + 1) (by omega) 2 (by omega) _ D62.out.src).mono ?_; rintro e w63 ⟨⟨up, rfl⟩, S63, G63⟩
      have D63 := As.mk (D62.out.pick hP G63 S63)
      have B63 := B61.byGrown2 G63 (by simp; omega)
      have hs63 : Sl .i64 w63 (some ⟨w61.heap.size, 0, none⟩) [a, b, d2] := And.intro (by simp) fun _ => ⟨w61.heap.size, 0, rfl, B63.range⟩
      clear D62 S63 G63 B61 B63
      go_wp2_with (fail)
      refine (sStripes_fine a b d2 up ⟨a0, by omega⟩ ⟨b0, by omega⟩ ⟨e0, by omega⟩ _ _ _ hs63).mono ?_; rintro e w7 ⟨⟨f7, rfl, hf7⟩, hb7⟩
      have D7 := As.mk (D63.out.call hb7)
      have X7 := D7.out.blk
      have hl0 := D7.out.fine.1
      have hl7 := hf7.1
      have D8 : As (∃ f, Dw w (w7.setRow F (u8s f7).toArray) P A xs c (k + 8) F f) := ⟨⟨f7, by
        have D := D7.out.row HS0.out hf7
        exact ⟨D.src.mono (by omega), D.res, D.blk, D.grw, D.fine, D.low⟩⟩⟩
      clear D63 hb7 D7 hf7 hs63
      unfold fl
      go_wp2_with (refine store_blk rfl 38 _ _ rfl _ rfl rfl X7 info_fl (by rw [u8s_length]; exact hl7) (by rw [u8s_length]; exact hl0) (u8s_one _) ?_)
      clear X7 hl0 hl7
      generalize w7.setRow F (u8s f7).toArray = w8 at *
    case' neg =>
      have h0' : (t == 0) = false := by simp [h0]
      have h1' : (t == 1) = false := by simp [h1]
      have D8 : As (∃ f, Dw w w6 P A xs c (k + 8) F f) := ⟨⟨f, by
        have D := D6.out
        exact ⟨D.src.mono (by omega), D.res, D.blk, D.grw, D.fine, D.low⟩⟩⟩
      clear D6 h0 h1
      go_wp2_with (fail)
      generalize w6 = w8 at *
  all_goals
    obtain ⟨f8, D8⟩ := D8.out
    refine (pick_src P A xs c (k + 8) (by omega) 4 (by omega) _ D8.src).mono ?_; rintro e w9 ⟨⟨q, rfl, q0, q1⟩, S9, G9⟩
    have D9 := As.mk (D8.pick hP G9 S9)
    clear D8 S9 G9
    obtain ⟨qn, rfl⟩ : ∃ qn : Nat, q = (qn : Int) := ⟨q.toNat, by omega⟩
    go_wp2_with (fail)
    go_loopw [7] (fun v wr => ∃ (j : Nat) (fj : List Int), j ≤ qn ∧ v = .int .i64 j ∧ As (Dw w wr P A xs c (k + 9 + 2 * (qn - j)) F fj)) (fun v _ => (intOf v).toNat)
    case atStart => exact ⟨qn, f8, by omega, rfl, by rw [Nat.sub_self]; exact D9⟩
    case round =>
      obtain ⟨j, fj, hj, rfl, D⟩ := hrel
      clear D9
      by_cases hj0 : 0 < j
      · have hj0' : (0 : Int) < (j : Int) := by omega
        go_wp2_with (fail)
        refine (pick_src P A xs c (k + 9 + 2 * (qn - j)) (by omega) 24 (by omega) _ D.out.src).mono ?_; rintro e v1 ⟨⟨i, rfl, i0, i1⟩, S1, G1⟩
        have D1 := As.mk (D.out.pick hP G1 S1)
        clear D S1 G1
        go_wp2_with (fail)
        refine (pick_src P A xs c (k + 9 + 2 * (qn - j) + 1) (by omega) 6 (by omega) _ D1.out.src).mono ?_; rintro e v2 ⟨⟨x, rfl, x0, x1⟩, S2, G2⟩
        have D2 := As.mk (D1.out.pick hP G2 S2)
        clear D1 S2 G2
        obtain ⟨ni, rfl⟩ : ∃ ni : Nat, i = (ni : Int) := ⟨i.toNat, by omega⟩
        obtain ⟨u2, c2⟩ := D2.out.blk.some ni (by rw [u8s_length, D2.out.fine.1]; omega)
        have f2 := D2.out.blk.frozen ni
        have hxw : IntKind.wrap .u8 x = x := by simp [IntKind.wrap, IntKind.bits, IntKind.signed]; omega
        have D3 := As.mk (D2.out.set HS0.out ni x ⟨x0, by omega⟩)
        clear D2
        go_wp2_with (fail)
        clear hxw c2 f2
        go_roundw
        case rel => exact ⟨j - 1, _, by omega, by go_num, ⟨⟨D3.out.src.mono (by omega), D3.out.res, D3.out.blk, D3.out.grw, D3.out.fine, D3.out.low⟩⟩⟩
        case measure => simp [intOf]; omega
      · obtain rfl : j = 0 := by omega
        have X1 := D.out.blk
        have X0 := D.out.res
        have hl := D.out.fine.1
        have hG := As.mk (grow_row D.out.grw (F := w.heap.size) (Nat.le_refl _) (u8s fj).toArray)
        have hSr := As.mk ((HS0.out.re D.out.src hG.out (setRow_other _ _ P _ (by omega))).mono (k' := k + 20) (by omega))
        have hfn := As.mk D.out.fine
        clear D
        go_wp2_with (first | (refine load_blk rfl 38 _ rfl _ rfl X1 Try.underlying38 rfl info_fl (by rw [u8s_length]; exact hl) ?_) | (refine store_blk rfl 38 _ _ rfl _ rfl rfl X0 info_fl (by rw [u8s_length]; exact hl) (by rw [u8s_length]; exact zero24_length) (u8s_one _) ?_))
        refine ret_blk rfl _ rfl (X0.setRow _) Try.underlying38 rfl info_fl (by rw [u8s_length]; exact hl) rfl ⟨⟨fj, rfl, hfn.out⟩, hSr.out, hG.out⟩
end Go.Proofs.Ytjppoejkfpeicaa

/- Lists of flags that the call itself makes: a list of one flag written out, append. -/
set_option linter.unusedVariables false
set_option linter.unusedSimpArgs false
namespace Go.Proofs.Ytjppoejkfpeicaa
open Go.RowKit

theorem info_flz : (Try.prog.info? 38).map (fun i => (i.zero, i.size, i.bytes)) = some (some (.agg #[.int .u8 0, .int .u8 0, .int .u8 0, .int .u8 0, .int .u8 0, .int .u8 0, .int .u8 0, .int .u8 0, .int .u8 0, .int .u8 0, .int .u8 0, .int .u8 0, .int .u8 0, .int .u8 0, .int .u8 0, .int .u8 0, .int .u8 0, .int .u8 0, .int .u8 0, .int .u8 0, .int .u8 0, .int .u8 0, .int .u8 0, .int .u8 0]), 24, 24) := by kernel_rfl
theorem build1 (f : List Int) (hf : f.length = 24) (w : World) :
    (Instr.buildSlice 27 1 #[(0, .agg (u8s f).toArray)]).run Try.prog w = .ok (.slice (some ⟨w.heap.size, 0, none⟩) 1 1) (w.alloc (.cells (u8s f).toArray 38)) := by
  have hfw := fun (cells : Array Value) (h : 1 * 24 = cells.size) => Great.fill_whole (s := 24) (by omega) [.agg (u8s f).toArray] cells (by
    intro v hv
    simp only [List.mem_cons, List.not_mem_nil, or_false] at hv
    rcases hv with rfl
    simp [Value.cells, u8s_length, hf]) (by simpa using h)
  have hu := Try.underlying27
  have hz : ∀ W, (zeroValue 38).run Try.prog W = .ok (.agg #[.int .u8 0, .int .u8 0, .int .u8 0, .int .u8 0, .int .u8 0, .int .u8 0, .int .u8 0, .int .u8 0, .int .u8 0, .int .u8 0, .int .u8 0, .int .u8 0, .int .u8 0, .int .u8 0, .int .u8 0, .int .u8 0, .int .u8 0, .int .u8 0, .int .u8 0, .int .u8 0, .int .u8 0, .int .u8 0, .int .u8 0, .int .u8 0]) W := fun W => by go_simp
  have hs : ∀ W, (sizeOf 38).run Try.prog W = .ok 24 W := fun W => by go_simp
  have hn : ∀ W cs, (newRow 38 cs).run Try.prog W = .ok ⟨W.heap.size, 0, none⟩ (W.alloc (.cells cs 38)) := fun W cs => by go_simp
  unfold Instr.buildSlice
  simp only [Sem.run_bind, run_underlying hu w, Result.andThen_ok, hs, Sem.run_pure]
  rw [if_neg (by decide), if_neg (by decide)]
  simp only [Sem.run_bind, hz, Result.andThen_ok, Sem.run_pure]
  have hf2 : ∀ cells : Array Value, 1 * 24 = cells.size → Instr.fill (fun i => some (i * 24, 24)) cells [(0, Value.agg (u8s f).toArray)] = some (u8s f).toArray := fun cells h => by
    have := hfw cells h
    simpa [Value.cells] using this
  rw [hf2 _ (by simp)]
  simp only [Sem.run_bind, hn, Result.andThen_ok, Sem.run_pure]

/-- v is a slice of the flags fs, in a block from base on that nobody else knows, or nil. -/
def OwnF (w : World) (base : Nat) (v : Value) (fs : List (List Int)) : Prop := w.ownsRow base 38 24 v fs.length (fs.flatMap u8s)
section
variable {w w' : World} {base : Nat} {v : Value} {fs : List (List Int)}
theorem flatF_length {fs : List (List Int)} (h : ∀ f ∈ fs, f.length = 24) : (fs.flatMap u8s).length = fs.length * 24 := flat_length u8s 24 fs (fun x hx => by rw [u8s_length]; exact h x hx)
theorem OwnF.lit (w : World) (base : Nat) (hb : base ≤ w.heap.size) : OwnF (w.alloc (.cells #[] 38)) base (.slice (some ⟨w.heap.size, 0, none⟩) 0 0) [] := by
  have h := World.ownsRow_lit (base := base) (e := 38) (size := 24) w #[] 0 hb (by simp) (by simp)
  unfold OwnF
  simpa using h
theorem OwnF.kept (h : OwnF w base v fs) (hb : Below w.heap.size w w') : OwnF w' base v fs :=
  World.ownsRow.kept (row := Option.none) h ⟨hb.os, hb.tape, hb.output, hb.size, fun i hi _ => hb.block i hi⟩ (by cases v.ownBlock <;> simp)
theorem OwnF.grown (h : OwnF w base v fs) {row : Option Nat} (hg : w.grownBy w' row) (hne : v.ownBlock = none ∨ v.ownBlock ≠ row) : OwnF w' base v fs := World.ownsRow.kept h hg hne
theorem OwnF.alloc (h : OwnF w base v fs) (o : Obj) : OwnF (w.alloc o) base v fs := World.ownsRow.alloc h o
theorem OwnF.form (h : OwnF w base v fs) : (v = .slice none 0 0 ∧ fs = []) ∨ ∃ g c, v = .slice (some ⟨g, 0, none⟩) fs.length c ∧ base ≤ g ∧ g < w.heap.size ∧ w.rangeAt g 0 (fs.flatMap u8s) ∧ fs.length ≤ 9223372036854775807 := by
  rcases h.2 with ⟨hv, hn⟩ | ⟨g, cap, cur, hv, hb, hh, h1, h2, h3⟩
  · exact .inl ⟨hv, List.eq_nil_of_length_eq_zero hn⟩
  · refine .inr ⟨g, cap, hv, hb, (Array.getElem?_eq_some_iff.1 hh).1, fun j u hu => ?_, by simp only [maxLen] at h2; omega⟩
    subst hv
    have := World.ownsRow.cells (g := g) h rfl j u hu
    rwa [show (⟨g, 0, none⟩ : Addr).add j = ⟨g, 0 + j, none⟩ by unfold Addr.add; split <;> simp_all] at this
theorem OwnF.slF (h : OwnF w base v fs) (h24 : ∀ f ∈ fs, f.length = 24) (hby : ∀ f ∈ fs, ∀ x ∈ f, 0 ≤ x ∧ x ≤ 255) : ∃ A c, v = .slice A fs.length c ∧ SlF w A fs := by
  rcases h.form with ⟨rfl, rfl⟩ | ⟨g, c, rfl, _, _, hr, hm⟩
  · exact ⟨none, 0, rfl, by simp, (fun f hf => by cases hf), (fun f hf => by cases hf), (fun hp => by simp at hp)⟩
  · refine ⟨_, c, rfl, hm, h24, hby, fun _ => ⟨g, 0, rfl, fun i f hf j u hu => ?_⟩⟩
    have hj : j < 24 := by
      have := (List.getElem?_eq_some_iff.1 hu).1
      rw [u8s_length, h24 f (List.mem_of_getElem? hf)] at this; exact this
    have := hr (i * 24 + j) u (by rw [flat_get u8s 24 fs (fun x hx => by rw [u8s_length]; exact h24 x hx) i f hf j hj]; exact hu)
    rw [Nat.zero_add] at this ⊢
    exact this
theorem OwnF.ge (h : OwnF w base v fs) (k : Nat) (hk : v.ownBlock = some k) : base ≤ k := by
  rcases h.form with ⟨rfl, _⟩ | ⟨g, c, rfl, hb, _⟩
  · simp [Value.ownBlock] at hk
  · have : g = k := by simpa [Value.ownBlock] using hk
    omega
theorem OwnF.lt (h : OwnF w base v fs) (k : Nat) (hk : v.ownBlock = some k) : k < w.heap.size := by
  rcases h.form with ⟨rfl, _⟩ | ⟨g, c, rfl, hb, hl, _⟩
  · simp [Value.ownBlock] at hk
  · have : g = k := by simpa [Value.ownBlock] using hk
    omega
theorem OwnF.lower (h : OwnF w base v fs) {b' : Nat} (hb : b' ≤ base) : OwnF w b' v fs := by
  obtain ⟨h1, h2⟩ := h
  refine ⟨h1, ?_⟩
  rcases h2 with h2 | ⟨g, cap, cur, rfl, hg, r⟩
  · exact .inl h2
  · exact .inr ⟨g, cap, cur, rfl, Nat.le_trans hb hg, r⟩
end

section
variable {ops : Array Oper} {rest : List Oper} {op : Oper} {a : Act} {w : World} {Q : Exit → Act → World → Prop}
/-- A list of one flag, written out. -/
theorem build1_step (hgd : Region.wanted op (yielded ops a.tmps) = true) (f : List Int) (hf : f.length = 24) (x : Operand) (ho : op.op = .buildSlice 27 1 #[(0, x)]) (ex : a.eval x = .agg (u8s f).toArray)
    (h : wpList Try.prog ops Q rest (a.put op.dst (.slice (some ⟨w.heap.size, 0, none⟩) 1 1)) (w.alloc (.cells (u8s f).toArray 38))) : wpList Try.prog ops Q (op :: rest) a w :=
  BigFrame.wpList_want hgd fun _ hK => by
    have hb := build1 f hf w
    have he : (execOp a.eval op).run Try.prog w = .ok (.value (.slice (some ⟨w.heap.size, 0, none⟩) 1 1)) (w.alloc (.cells (u8s f).toArray 38)) := by
      unfold execOp
      rw [ho]
      simp only [List.map_toArray, List.map_cons, List.map_nil, ex, Sem.run_bind, Sem.run_pure, Result.andThen_ok, hb]
    unfold Oper.wp
    rw [he, Oper.upon_value]
    exact hK _ _ h
/-- append(v, gs...) for lists of flags. -/
theorem appF {w0 : World} (base : Nat) (hgd : op.guard = none) (s x : Operand)
    (ho : op.op = .call { callee := .builtin .append, args := #[s, x], argTypes := #[27, 27] })
    (v : Value) (fs gs : List (List Int)) (hg24 : ∀ f ∈ gs, f.length = 24) (b o c m : Nat) (hs : a.eval s = v) (hx : a.eval x = .slice (some ⟨b, o, none⟩) m c) (hm : gs.length = m)
    (HO : OwnF w base v fs) (hr : w.rangeAt b o (gs.flatMap u8s)) (HB : Below base w0 w) (hbase : base ≤ w.heap.size) (hl : (fs.length + m) * 24 ≤ 140737488355328)
    (h : ∀ v1 w1, OwnF w1 base v1 (fs ++ gs) → Below base w0 w1 → w.grownBy w1 v.ownBlock → (v1.ownBlock = v.ownBlock ∨ ∃ b, v1.ownBlock = some b ∧ w.heap.size ≤ b) → wpList Try.prog ops Q rest (a.put op.dst v1) w1) :
    wpList Try.prog ops Q (op :: rest) a w := by
  obtain ⟨i0, hi, hzz⟩ := Option.map_eq_some_iff.1 info_flz
  simp only [Prod.mk.injEq] at hzz
  obtain ⟨hz0, hz1, hz2⟩ := hzz
  have hlen : fs.length + m ≤ 140737488355328 := by omega
  refine wpList_append_own_at w hgd s x 27 ho base 38 i0 (.agg #[.int .u8 0, .int .u8 0, .int .u8 0, .int .u8 0, .int .u8 0, .int .u8 0, .int .u8 0, .int .u8 0, .int .u8 0, .int .u8 0, .int .u8 0, .int .u8 0, .int .u8 0, .int .u8 0, .int .u8 0, .int .u8 0, .int .u8 0, .int .u8 0, .int .u8 0, .int .u8 0, .int .u8 0, .int .u8 0, .int .u8 0, .int .u8 0]) 24 24 Try.underlying27 hi hz0 hz1 hz2 rfl (by omega) v fs.length (fs.flatMap u8s) hs HO ⟨b, o, none⟩ m c (gs.flatMap u8s) hx (by rw [flatF_length hg24, hm])
    (fun j u hu => by have := hr j u hu; rwa [show (⟨b, o, none⟩ : Addr).add j = ⟨b, o + j, none⟩ from Addr.add_mid _ _ _]) (fun u hu => by
      obtain ⟨f, _, hf⟩ := List.mem_flatMap.1 hu
      exact u8s_one f u hf) (by simp only [maxLen]; omega) hl hbase ?_
  intro v1 w1 hown hg _ hat
  refine h v1 w1 (by unfold OwnF; rw [List.length_append, hm, List.flatMap_append]; exact hown) (HB.grown hg hbase (fun k hk => OwnF.ge HO k hk)) hg ?_
  rcases hat with hat | hat
  · exact .inl hat
  · exact .inr ⟨_, hat, Nat.le_refl _⟩
end
end Go.Proofs.Ytjppoejkfpeicaa

/- Contracts: P6Flag, P6Set. -/
set_option linter.unusedVariables false
set_option linter.unusedSimpArgs false
namespace Go.Proofs.Ytjppoejkfpeicaa
open Go.RowKit

theorem one_range (W : World) (f : List Int) : (W.alloc (.cells (u8s f).toArray 38)).rangeAt W.heap.size 0 ([f].flatMap u8s) := by
  have := (Blk.new W (u8s f) 38).range
  simpa using this

theorem Src.keptB {w w' : World} {P B : Nat} {A : Option Addr} {xs : List Int} {c k : Nat} (h : Src w P A xs c k) (hb : Below B w w') (hP : P < B) (hA : ∀ b o, A = some ⟨b, o, none⟩ → 0 < xs.length → b < B) : Src w' P A xs c k := by
  obtain ⟨at', seed, h1, h2⟩ := h
  refine ⟨at', seed, ⟨(hb.block P hP).trans h1.blk, And.intro h1.sl.1 fun hp => ?_, h1.len, h1.bytes, h1.at0, h1.seed0, h1.low⟩, h2⟩
  obtain ⟨b, o, e, hr⟩ := h1.sl.2 hp
  exact ⟨b, o, e, fun j v hv => by rw [hb.cell (hA b o e hp)]; exact hr j v hv⟩

set_option maxRecDepth 100000 in
set_option maxHeartbeats 2000000 in
theorem P6Set_any (A : Option Addr) (xs : List Int) (c : Nat) (w : World) (hs : Sl .u8 w A xs) (hl : xs.length ≤ 4097) (hb : ∀ x ∈ xs, 0 ≤ x ∧ x ≤ 255) :
    Calls Try.prog 35 #[.slice A xs.length c] w fun e w' => (∃ v fs, e = .returned v ∧ OwnF w' w.heap.size v fs ∧ fs.length ≤ 8 ∧ ∀ f ∈ fs, Fine f) ∧ Below w.heap.size w w' := by
  have key := l00From_any A xs c w hs hl hb
  obtain ⟨P, hP⟩ : ∃ P, w.heap.size = P := ⟨_, rfl⟩
  have hA : ∀ b o, A = some ⟨b, o, none⟩ → 0 < xs.length → b < w.heap.size := fun b o e hp => by
    obtain ⟨b', o', e', hr⟩ := hs.2 hp
    rw [e] at e'
    obtain ⟨rfl, rfl⟩ : b = b' ∧ o = o' := by simpa using e'
    exact World.block_lt_of_cell? w _ (hr 0 (.int .u8 xs[0]) (by rw [List.getElem?_map, List.getElem?_eq_getElem hp]; rfl))
  have HA := As.mk hA
  clear hA
  obtain ⟨m, hm⟩ : ∃ m, xs.length = m := ⟨_, rfl⟩
  rw [hm] at key ⊢
  rw [hP] at key
  clear hm
  go_enter Try.func35, Try.ntmps35
  go_wp2_with (fail)
  refine key.mono ?_; rintro e w1 ⟨rfl, hS, hb1⟩
  have hPw := hS.lt
  have S0 := hS.kept (bl_new (Below.refl _ _) (.cells #[] 38))
  have O0 := OwnF.lit w1 w1.heap.size (Nat.le_refl _)
  have hb1' : Below w.heap.size w w1 := by rw [hP]; exact hb1
  have b0 : Below w.heap.size w (w1.alloc (.cells #[] 38)) := bl_new hb1' _
  clear hS key hb1 hb1'
  go_wp2_with (fail)
  refine (pick_src P A xs c 0 (by omega) 9 (by omega) _ S0).mono ?_; rintro e w2 ⟨⟨q, rfl, q0, q1⟩, S2, G2⟩
  have O2 := O0.grown G2 (.inr (by simp [Value.ownBlock]; omega))
  have b2 : Below w.heap.size w w2 := b0.grown G2 b0.size (fun k hk => by simp only [Option.some.injEq] at hk; omega)
  obtain ⟨qn, rfl⟩ : ∃ qn : Nat, q = (qn : Int) := ⟨q.toNat, by omega⟩
  obtain ⟨B, hB⟩ : ∃ B, w1.heap.size = B := ⟨_, rfl⟩
  have hBs : B ≤ w2.heap.size := by
    have h1 := G2.size
    simp at h1; omega
  rw [hB] at O2 hPw ⊢
  have hwB : w.heap.size ≤ B := by omega
  clear O0 S0 b0 G2 hB
  go_wp2_with (fail)
  go_loopw [4, 5] (fun v i wr => ∃ (j : Nat) (fs : List (List Int)), j ≤ qn ∧ i = .int .i64 j ∧ OwnF wr B v fs ∧ As (∀ f ∈ fs, Fine f) ∧ fs.length + j = qn ∧ Src wr P A xs c (1 + 20 * (qn - j)) ∧ Below w.heap.size w wr ∧ B ≤ wr.heap.size) (fun _ i _ => (intOf i).toNat)
  case atStart => exact ⟨qn, [], by omega, rfl, O2, ⟨fun f hf => by cases hf⟩, by simp, by rw [Nat.sub_self]; exact S2, b2, hBs⟩
  case round =>
    obtain ⟨j, fs, hj, rfl, hO, HF, hlen, hS, hb, hBw⟩ := hrel
    clear O2 S2 b2 hBs
    by_cases hj0 : 0 < j
    · have hj0' : (0 : Int) < (j : Int) := by omega
      have kd := l01Drawn_any P A xs c (1 + 20 * (qn - j)) (by omega) wr hS
      clear hS
      go_wp2_with (fail)
      refine kd.mono ?_; rintro e w3 ⟨⟨f, rfl, hf⟩, S3, G3⟩
      have O3 := hO.grown G3 (.inr (by intro e; have := hO.ge _ e; omega))
      have b3 : Below w.heap.size w w3 := hb.grown G3 hb.size (fun k hk => by simp only [Option.some.injEq] at hk; omega)
      have hB3 : B ≤ w3.heap.size := Nat.le_trans hBw G3.size
      have hf24 := hf.1
      have O4 := O3.alloc (.cells (u8s f).toArray 38)
      have b4 := bl_new b3 (.cells (u8s f).toArray 38)
      have S4 := As.mk (S3.kept (bl_new (Below.refl _ _) (.cells (u8s f).toArray 38)))
      have hr := one_range w3 f
      have hB4 : B ≤ (w3.alloc (.cells (u8s f).toArray 38)).heap.size := by simp; omega
      have b4' : Below B (w3.alloc (.cells (u8s f).toArray 38)) (w3.alloc (.cells (u8s f).toArray 38)) := Below.refl _ _
      have HF' := As.mk hf
      clear hf kd O3 b3 S3 hO hb
      unfold fl
      go_wp2_with (first | (refine build1_step rfl f hf24 _ rfl rfl ?_) | (at_builtin; refine appF (w0 := w3.alloc (.cells (u8s f).toArray 38)) B rfl (.tmp 15) (.tmp 18) rfl u4 fs [f] (by simpa using hf24) w3.heap.size 0 1 1 rfl rfl rfl O4 hr b4' hB4 (by omega) ?_))
      intro v5 w5 O5 b5 G5 hat
      have S5 := As.mk (S4.out.keptB b5 (by omega) (fun b o e hp => by have := HA.out b o e hp; omega))
      have b6 : Below w.heap.size w w5 := b4.trans (b5.mono hwB)
      have hB5 : B ≤ w5.heap.size := Nat.le_trans hB4 b5.size
      clear S4 O4 b4 hr hB4 b5 G5 hat
      go_wp2_with (fail)
      go_roundw
      case rel => exact ⟨j - 1, fs ++ [f], by omega, by go_num, O5, ⟨fun g hg => by
        rcases List.mem_append.1 hg with hg | hg
        · exact HF.out g hg
        · simp at hg; subst hg; exact HF'.out⟩, by simp; omega, S5.out.mono (by omega), b6, hB5⟩
      case measure => simp [intOf]; omega
    · obtain rfl : j = 0 := by omega
      go_wp2_with (fail)
      go_ret
      exact ⟨⟨_, fs, rfl, hO.lower hwB, by omega, HF.out⟩, hb⟩
end Go.Proofs.Ytjppoejkfpeicaa

/- Lists of flags in a region that draws its order: written out, appended. -/
set_option linter.unusedVariables false
set_option linter.unusedSimpArgs false
namespace Go.Proofs.Ytjppoejkfpeicaa
open Go.RowKit

section
variable {ops : Array Oper} {Q : Exit → Act → World → Prop} {S : World → Prop} {listed : Array Bool} {ts : List Value} {ds : List Deferred} {w : World} {fuel : Nat}
/-- One of the operations that may come up: an empty list of flags. -/
theorem cBuild0 (i d : Nat) {oi : Oper} (hi : ops[i]? = some oi) (hd : oi.dst = some d)
    (hw : Region.wanted oi (yielded ops ts.toArray) = true) (ho : oi.op = .buildSlice 27 0 #[]) {rs : List Nat}
    (h : S (w.alloc (.cells #[] 38)) ∧ wpAnyH Try.prog .any ops Q S fuel (listed.setIfInBounds i true) ⟨(ts.set d (.slice (some ⟨w.heap.size, 0, none⟩) 0 0)).toArray, ds⟩ (w.alloc (.cells #[] 38)))
    (hs : AllReadyH Try.prog .any ops Q S fuel listed ⟨ts.toArray, ds⟩ w rs) : AllReadyH Try.prog .any ops Q S fuel listed ⟨ts.toArray, ds⟩ w (i :: rs) := by
  have hb : (Instr.buildSlice 27 0 #[]).run Try.prog w = .ok (.slice (some ⟨w.heap.size, 0, none⟩) 0 0) (w.alloc (.cells #[] 38)) := by go_simp
  refine AllReadyH.cons hi (fun K hK => ?_) hs
  rw [if_pos hw]
  have he : (execOp (Act.mk ts.toArray ds).eval oi).run Try.prog w = .ok (.value (.slice (some ⟨w.heap.size, 0, none⟩) 0 0)) (w.alloc (.cells #[] 38)) := by
    unfold execOp
    rw [ho]
    simp only [List.map_toArray, List.map_nil, Sem.run_bind, Sem.run_pure, Result.andThen_ok, hb]
  unfold Oper.wp
  rw [he, Oper.upon_value]
  refine hK.out _ _ h.1 (fun _ => ?_)
  rw [hd]
  simpa [Act.put] using h.2
/-- .. a list of one flag. -/
theorem cBuild1 (i d : Nat) {oi : Oper} (hi : ops[i]? = some oi) (hd : oi.dst = some d)
    (hw : Region.wanted oi (yielded ops ts.toArray) = true) (f : List Int) (hf : f.length = 24) (x : Operand) (ho : oi.op = .buildSlice 27 1 #[(0, x)]) (ex : (Act.mk ts.toArray ds).eval x = .agg (u8s f).toArray) {rs : List Nat}
    (h : S (w.alloc (.cells (u8s f).toArray 38)) ∧ wpAnyH Try.prog .any ops Q S fuel (listed.setIfInBounds i true) ⟨(ts.set d (.slice (some ⟨w.heap.size, 0, none⟩) 1 1)).toArray, ds⟩ (w.alloc (.cells (u8s f).toArray 38)))
    (hs : AllReadyH Try.prog .any ops Q S fuel listed ⟨ts.toArray, ds⟩ w rs) : AllReadyH Try.prog .any ops Q S fuel listed ⟨ts.toArray, ds⟩ w (i :: rs) := by
  refine AllReadyH.cons hi (fun K hK => ?_) hs
  rw [if_pos hw]
  have hb := build1 f hf w
  have he : (execOp (Act.mk ts.toArray ds).eval oi).run Try.prog w = .ok (.value (.slice (some ⟨w.heap.size, 0, none⟩) 1 1)) (w.alloc (.cells (u8s f).toArray 38)) := by
    unfold execOp
    rw [ho]
    simp only [List.map_toArray, List.map_cons, List.map_nil, ex, Sem.run_bind, Sem.run_pure, Result.andThen_ok, hb]
  unfold Oper.wp
  rw [he, Oper.upon_value]
  refine hK.out _ _ h.1 (fun _ => ?_)
  rw [hd]
  simpa [Act.put] using h.2
/-- .. append(v, gs...) for lists of flags. -/
theorem kAppF {w0 : World} (i d : Nat) (base : Nat) {oi : Oper} (hi : ops[i]? = some oi) (hd : oi.dst = some d) (s x : Operand)
    (ho : oi.op = .call { callee := .builtin .append, args := #[s, x], argTypes := #[27, 27] })
    (hw : Region.wanted oi (yielded ops ts.toArray) = true)
    (v : Value) (fs gs : List (List Int)) (hg24 : ∀ f ∈ gs, f.length = 24) (b o c m : Nat) (hs : (Act.mk ts.toArray ds).eval s = v) (hx : (Act.mk ts.toArray ds).eval x = .slice (some ⟨b, o, none⟩) m c) (hm : gs.length = m)
    (HO : OwnF w base v fs) (hr : w.rangeAt b o (gs.flatMap u8s)) (HB : Below base w0 w) (hbase : base ≤ w.heap.size) (hl : (fs.length + m) * 24 ≤ 140737488355328) {rs : List Nat}
    (h : ∀ v1 w1, OwnF w1 base v1 (fs ++ gs) → Below base w0 w1 → w.grownBy w1 v.ownBlock → S w1 ∧ wpAnyH Try.prog .any ops Q S fuel (listed.setIfInBounds i true) ⟨(ts.set d v1).toArray, ds⟩ w1)
    (hrest : AllReadyH Try.prog .any ops Q S fuel listed ⟨ts.toArray, ds⟩ w rs) : AllReadyH Try.prog .any ops Q S fuel listed ⟨ts.toArray, ds⟩ w (i :: rs) := by
  obtain ⟨i0, hi0, hzz⟩ := Option.map_eq_some_iff.1 info_flz
  simp only [Prod.mk.injEq] at hzz
  obtain ⟨hz0, hz1, hz2⟩ := hzz
  refine AllReadyH.cons hi (fun K hK => ?_) hrest
  rw [if_pos hw]
  obtain ⟨v', w', hrun, h2, h3, h4, h5⟩ := run_append_own_at (P := Try.prog) w base 27 oi.type 38 i0 (.agg #[.int .u8 0, .int .u8 0, .int .u8 0, .int .u8 0, .int .u8 0, .int .u8 0, .int .u8 0, .int .u8 0, .int .u8 0, .int .u8 0, .int .u8 0, .int .u8 0, .int .u8 0, .int .u8 0, .int .u8 0, .int .u8 0, .int .u8 0, .int .u8 0, .int .u8 0, .int .u8 0, .int .u8 0, .int .u8 0, .int .u8 0, .int .u8 0]) 24 24 Try.underlying27 hi0 hz0 hz1 hz2 rfl (by omega) v fs.length (fs.flatMap u8s) HO ⟨b, o, none⟩ m c (gs.flatMap u8s) (by rw [flatF_length hg24, hm])
    (fun j u hu => by have := hr j u hu; rwa [show (⟨b, o, none⟩ : Addr).add j = ⟨b, o + j, none⟩ from Addr.add_mid _ _ _]) (fun u hu => by
      obtain ⟨f, _, hf⟩ := List.mem_flatMap.1 hu
      exact u8s_one f u hf) (by simp only [maxLen]; omega) hl hbase
  unfold Oper.wp execOp
  simp only [ho, resolve, invoke, builtin, Sem.run_bind, Sem.run_pure, Result.andThen_ok, List.map_toArray, List.map_cons, List.map_nil, hs, hx, hrun]
  have hO1 : OwnF w' base v' (fs ++ gs) := by unfold OwnF; rw [List.length_append, hm, List.flatMap_append]; exact h2
  obtain ⟨hS, hN⟩ := h v' w' hO1 (HB.grown h3 hbase (fun k hk => OwnF.ge HO k hk)) h3
  refine hK.out _ _ hS (fun _ => ?_)
  rw [hd]
  simpa [Act.put] using hN
end
end Go.Proofs.Ytjppoejkfpeicaa
