/- Contracts: the source of choices: next, pick, P6Pick. -/
import Derived.Test.YtjppoejkfpeicaaH1
import Derived.Test.YtjppoejkfpeicaaGw
set_option linter.unusedVariables false
namespace Go.Proofs.Ytjppoejkfpeicaa
open Go.RowKit

theorem grownBy_drewN' {w w' : World} {row : Option Nat} (hg : w.grownBy w' row) (n : Nat) : w.grownBy (w'.drewN n) row := ⟨hg.os, hg.tape, hg.output, hg.size, hg.block⟩
/-- A source: bytes, how far it has read, its number. -/
structure SrcAt (w : World) (P : Nat) (A : Option Addr) (xs : List Int) (c : Nat) (at' : Int) (seed : Int) : Prop where
  blk : Blk w P [.slice A xs.length c, .int .i64 at', .int .u64 seed] 100
  sl : Sl .u8 w A xs
  len : xs.length ≤ 4097
  bytes : ∀ x ∈ xs, 0 ≤ x ∧ x ≤ 255
  at0 : 0 ≤ at' ∧ at' ≤ 1000000000
  seed0 : 0 ≤ seed ∧ seed ≤ 18446744073709551615
  low : 0 < xs.length → ∀ b o, A = some ⟨b, o, none⟩ → b ≠ P
theorem Sl.ofGrown {k : IntKind} {w w' : World} {A : Option Addr} {xs : List Int} {P : Nat} (h : Sl k w A xs) (hg : w.grownBy w' (some P)) (hl : 0 < xs.length → ∀ b o, A = some ⟨b, o, none⟩ → b ≠ P) : Sl k w' A xs :=
  And.intro h.1 fun hp => by
    obtain ⟨b, o, e, hr⟩ := h.2 hp
    refine ⟨b, o, e, fun j v hv => ?_⟩
    exact hg.cell (hr j v hv) (by simp only [ne_eq, Option.some.injEq]; exact hl hp b o e)
theorem grow_set' {w w1 : World} {B : Nat} (h : w.grownBy w1 (some B)) (i : Nat) (v : Value) : w.grownBy (w1.setCell ⟨B, i, none⟩ v) (some B) :=
  ⟨h.os, h.tape, h.output, by simpa [World.setCell] using h.size, fun k hk hne => by rw [← h.block k hk hne]; exact heap_setCell_other w1 ⟨B, i, none⟩ k v (fun e => hne (by rw [e]))⟩
theorem u64_bd (z : Int) : 0 ≤ IntKind.u64.wrap z ∧ IntKind.u64.wrap z ≤ 18446744073709551615 := by simp [IntKind.wrap, IntKind.bits, IntKind.signed]; omega
theorem u8_conv {x : Int} (h : 0 ≤ x ∧ x ≤ 255) : IntKind.wrap .i64 x = x := by simp [IntKind.wrap, IntKind.bits, IntKind.signed]; omega
theorem and255 (q : Int) : ∃ r : Int, 0 ≤ r ∧ r ≤ 255 ∧ ∀ W, (binOp .and 98 (.int .u64 q) (.int .u64 255)).run Try.prog W = .ok (.int .u64 r) W := by
  have h : (BitVec.ofInt 64 q &&& BitVec.ofInt 64 255).toNat ≤ 255 := by
    rw [BitVec.toNat_and]; exact Nat.le_trans Nat.and_le_right (by decide)
  refine ⟨IntKind.u64.wrap (((BitVec.ofInt 64 q &&& BitVec.ofInt 64 255).toNat : Nat) : Int), (u64_bd _).1, ?_, fun W => rfl⟩
  generalize (BitVec.ofInt 64 q &&& BitVec.ofInt 64 255).toNat = z at *
  simp [IntKind.wrap, IntKind.bits, IntKind.signed]; omega
theorem shr40 (V : Int) : ∃ q : Int, ∀ W, (binOp .shr 98 (.int .u64 V) (.int .u64 40)).run Try.prog W = .ok (.int .u64 q) W := by
  refine ⟨V / 2 ^ (40 : Int).toNat, fun W => ?_⟩
  show (Op.shift .shr .u64 V .u64 40).run _ _ = _
  rw [shift_shr .u64 .u64 V 40 (by decide) (by decide)]
  rfl
section
variable {P : Program} {ops : Array Oper} {rest : List Oper} {op : Oper} {a : Act} {w : World} {Q : Exit → Act → World → Prop}
/-- An operation on two values, its answer told. -/
theorem take_bin (hgd : Region.wanted op (yielded ops a.tmps) = true) (bo : BinOp) (t t2 : TypeId) (x y : Operand) (ho : op.op = .binOp bo t x y t2) (vx vy v : Value) (hg : ∀ b1 b2, (eqGuard bo t b1 b2 vx vy).run P w = .ok () w) (hx : a.eval x = vx) (hy : a.eval y = vy)
    (hr : ∀ W, (binOp bo t vx vy).run P W = .ok v W) (h : wpList P ops Q rest (a.put op.dst v) w) : wpList P ops Q (op :: rest) a w :=
  BigFrame.wpList_want hgd fun _ hK => by
    have he : (execOp a.eval op).run P w = .ok (.value v) w := by
      unfold execOp
      rw [ho]
      simp only [hx, hy, Sem.run_bind, Sem.run_pure, Result.andThen_ok, hr, hg]
    unfold Oper.wp
    rw [he, Oper.upon_value]
    exact hK _ _ h
end
set_option maxRecDepth 100000 in
set_option maxHeartbeats 4000000 in
theorem next_any (P : Nat) (A : Option Addr) (xs : List Int) (c : Nat) (at' seed : Int) (w : World) (hS : SrcAt w P A xs c at' seed) (hat : at' < 999999999) :
    Calls Try.prog 87 #[.pointer (some ⟨P, 0, none⟩)] w fun e w' => (∃ x : Int, e = .returned (.int .i64 x) ∧ 0 ≤ x ∧ x ≤ 255) ∧ (∃ seed', SrcAt w' P A xs c (at' + 1) seed') ∧ w.grownBy w' (some P) := by
  obtain ⟨hB, hs, hl, hby, ha, hsd, hlow⟩ := hS
  have c0 := hB.at 0
  have c1 := hB.at 1
  have c2 := hB.at 2
  simp only [List.getElem?_cons_zero, List.getElem?_cons_succ] at c0 c1 c2
  have f1 := hB.frozen 1
  have f2 := hB.frozen 2
  obtain ⟨a, rfl⟩ : ∃ a : Nat, at' = (a : Int) := ⟨at'.toNat, by omega⟩
  have ha9 : (a : Int) ≤ 1000000000 := ha.2
  have hl9 : (xs.length : Int) ≤ 4097 := by omega
  by_cases hlt : a < xs.length
  · have hlt' : (a : Int) < (xs.length : Int) := by omega
    have hle' : (a : Int) + 1 ≤ (xs.length : Int) := by omega
    obtain ⟨b, o, rfl, hr⟩ := hs.2 (by omega)
    have cx : w.cell? ⟨b, o + a, none⟩ = some (.int .u8 (nth xs a)) := hr a _ (by show (List.map _ xs)[a]? = _; rw [List.getElem?_map, List.getElem?_eq_getElem hlt, nth_get xs a hlt]; rfl)
    have hx := hby _ (nth_mem xs a hlt)
    have hx0 := hx.1
    have hx1 := hx.2
    generalize nth xs a = x at *
    generalize hnl : xs.length = n at *
    have hnl := As.mk hnl
    have hl := As.mk (show xs.length ≤ 4097 by rw [hnl.out]; exact hl)
    clear hr
    go_enter Try.func87, Try.ntmps87
    go_wp2_with (fail)
    go_quiet (fail)
    go_wp2_with (fail)
    have hB1 : Blk (w.drewN nq) P [.slice (some ⟨b, o, none⟩) n c, .int .i64 (a : Int), .int .u64 seed] 100 := hB
    have cx1 : (w.drewN nq).cell? ⟨b, o + a, none⟩ = some (.int .u8 x) := cx
    have g1 : w.grownBy (w.drewN nq) (some P) := grownBy_drewN' (World.grownBy.refl _ _) nq
    clear hB cx c0 c1 c2 f1 f2
    generalize w.drewN nq = w1 at *
    have c0 := hB1.at 0
    have c1 := hB1.at 1
    have c2 := hB1.at 2
    simp only [List.getElem?_cons_zero, List.getElem?_cons_succ] at c0 c1 c2
    go_quiet (fail)
    have hB2 : Blk (w1.drewN nq) P [.slice (some ⟨b, o, none⟩) n c, .int .i64 (a : Int), .int .u64 seed] 100 := hB1
    have g2 := grownBy_drewN' g1 nq
    clear hB1 c0 c1 c2 cx1 g1
    generalize w1.drewN nq = w2 at *
    have c0 := hB2.at 0
    have c1 := hB2.at 1
    have c2 := hB2.at 2
    simp only [List.getElem?_cons_zero, List.getElem?_cons_succ] at c0 c1 c2
    have f1 := hB2.frozen 1
    have f2 := hB2.frozen 2
    go_wp2_with (fail)
    have hVb := u64_bd (IntKind.u64.wrap (IntKind.u64.wrap (seed * 6364136223846793005) + x) + 1442695040888963407)
    generalize IntKind.u64.wrap (IntKind.u64.wrap (IntKind.u64.wrap (seed * 6364136223846793005) + x) + 1442695040888963407) = V at hVb ⊢
    have hB3 := (hB2.set 1 (.int .i64 ((a : Int) + 1))).set 2 (.int .u64 V)
    have hB3 : Blk ((w2.setCell ⟨P, 1, none⟩ (.int .i64 ((a : Int) + 1))).setCell ⟨P, 2, none⟩ (.int .u64 V)) P [.slice (some ⟨b, o, none⟩) n c, .int .i64 ((a : Int) + 1), .int .u64 V] 100 := hB3
    have g3 := grow_set' (grow_set' g2 1 (.int .i64 ((a : Int) + 1))) 2 (.int .u64 V)
    clear hB2 c0 c1 c2 f1 f2 g2
    generalize (w2.setCell ⟨P, 1, none⟩ (.int .i64 ((a : Int) + 1))).setCell ⟨P, 2, none⟩ (.int .u64 V) = w3 at *
    have c0 := hB3.at 0
    have c1 := hB3.at 1
    have c2 := hB3.at 2
    simp only [List.getElem?_cons_zero, List.getElem?_cons_succ] at c0 c1 c2
    go_quiet (fail)
    have hB4 : Blk (w3.drewN nq) P [.slice (some ⟨b, o, none⟩) n c, .int .i64 ((a : Int) + 1), .int .u64 V] 100 := hB3
    have g4 := grownBy_drewN' g3 nq
    clear hB3 c0 c1 c2 g3
    generalize w3.drewN nq = w4 at *
    go_wp2_with (fail)
    go_ret
    refine ⟨⟨x, rfl, hx0, hx1⟩, ⟨V, ?_⟩, g4⟩
    exact ⟨by rw [hnl.out]; exact hB4, hs.ofGrown g4 (by rw [hnl.out]; exact hlow), hl.out, hby, ⟨by omega, by omega⟩, hVb, by rw [hnl.out]; exact hlow⟩
  · have hlt' : ¬ ((a : Int) < (xs.length : Int)) := by omega
    have hdec : decide ((a : Int) + 1 ≤ (xs.length : Int)) = false := decide_eq_false (by omega)
    generalize hnl : xs.length = n at *
    have hnl := As.mk hnl
    have hl := As.mk (show xs.length ≤ 4097 by rw [hnl.out]; exact hl)
    go_enter Try.func87, Try.ntmps87
    go_wp2_with (fail)
    go_quiet (fail)
    go_wp2_with (fail)
    have hB2 : Blk (w.drewN nq) P [.slice A n c, .int .i64 (a : Int), .int .u64 seed] 100 := hB
    have g2 : w.grownBy (w.drewN nq) (some P) := grownBy_drewN' (World.grownBy.refl _ _) nq
    clear hB c0 c1 c2 f1 f2
    generalize w.drewN nq = w2 at *
    have c0 := hB2.at 0
    have c1 := hB2.at 1
    have c2 := hB2.at 2
    simp only [List.getElem?_cons_zero, List.getElem?_cons_succ] at c0 c1 c2
    have f1 := hB2.frozen 1
    have f2 := hB2.frozen 2
    go_wp2_with (fail)
    have hVb := u64_bd (IntKind.u64.wrap (IntKind.u64.wrap (seed * 6364136223846793005)) + 1442695040888963407)
    generalize IntKind.u64.wrap (IntKind.u64.wrap (IntKind.u64.wrap (seed * 6364136223846793005)) + 1442695040888963407) = V at hVb ⊢
    have hB3 := (hB2.set 1 (.int .i64 ((a : Int) + 1))).set 2 (.int .u64 V)
    have hB3 : Blk ((w2.setCell ⟨P, 1, none⟩ (.int .i64 ((a : Int) + 1))).setCell ⟨P, 2, none⟩ (.int .u64 V)) P [.slice A n c, .int .i64 ((a : Int) + 1), .int .u64 V] 100 := hB3
    have g3 := grow_set' (grow_set' g2 1 (.int .i64 ((a : Int) + 1))) 2 (.int .u64 V)
    clear hB2 c0 c1 c2 f1 f2 g2
    generalize (w2.setCell ⟨P, 1, none⟩ (.int .i64 ((a : Int) + 1))).setCell ⟨P, 2, none⟩ (.int .u64 V) = w3 at *
    have c0 := hB3.at 0
    have c1 := hB3.at 1
    have c2 := hB3.at 2
    simp only [List.getElem?_cons_zero, List.getElem?_cons_succ] at c0 c1 c2
    go_quiet (fail)
    have hB4 : Blk (w3.drewN nq) P [.slice A n c, .int .i64 ((a : Int) + 1), .int .u64 V] 100 := hB3
    have g4 := grownBy_drewN' g3 nq
    clear hB3 c0 c1 c2 g3
    generalize w3.drewN nq = w4 at *
    have c2 := hB4.at 2
    simp only [List.getElem?_cons_zero, List.getElem?_cons_succ] at c2
    replace hVb := As.mk hVb
    replace hsd := As.mk hsd
    obtain ⟨q, hq⟩ := shr40 V
    obtain ⟨r, r0, r1, hr⟩ := and255 q
    generalize IntKind.u64.wrap (seed * 6364136223846793005) = Z
    generalize IntKind.u64.wrap Z = Z2
    go_wp2_with (first | (refine take_bin rfl .shr 98 _ _ _ rfl (.int .u64 V) (.int .u64 40) (.int .u64 q) (fun _ _ => rfl) rfl rfl hq ?_) | (refine take_bin rfl .and 98 _ _ _ rfl (.int .u64 q) (.int .u64 255) (.int .u64 r) (fun _ _ => rfl) rfl rfl hr ?_))
    go_ret
    refine ⟨⟨r, rfl, r0, r1⟩, ⟨V, ?_⟩, g4⟩
    exact ⟨by rw [hnl.out]; exact hB4, hs.ofGrown g4 (by rw [hnl.out]; exact hlow), hl.out, hby, ⟨by omega, by omega⟩, hVb.out, by rw [hnl.out]; exact hlow⟩

/-- A source at its start, or behind some choices. -/
def Src (w : World) (P : Nat) (A : Option Addr) (xs : List Int) (c : Nat) (k : Nat) : Prop := ∃ at' seed, SrcAt w P A xs c at' seed ∧ at' ≤ (k : Int)
theorem next_src (P : Nat) (A : Option Addr) (xs : List Int) (c k : Nat) (hk : k < 999999999) (w : World) (hS : Src w P A xs c k) :
    Calls Try.prog 87 #[.pointer (some ⟨P, 0, none⟩)] w fun e w' => (∃ x : Int, e = .returned (.int .i64 x) ∧ 0 ≤ x ∧ x ≤ 255) ∧ Src w' P A xs c (k + 1) ∧ w.grownBy w' (some P) := by
  obtain ⟨at', seed, h, hl⟩ := hS
  refine (next_any P A xs c at' seed w h (by omega)).mono ?_
  rintro e w' ⟨h1, ⟨s2, h2⟩, h3⟩
  exact ⟨h1, ⟨at' + 1, s2, h2, by omega⟩, h3⟩
set_option maxRecDepth 100000 in
set_option maxHeartbeats 1000000 in
theorem pick_src (P : Nat) (A : Option Addr) (xs : List Int) (c k : Nat) (hk : k < 999999999) (n : Int) (hn : 2 ≤ n ∧ n ≤ 200) (w : World) (hS : Src w P A xs c k) :
    Calls Try.prog 57 #[.pointer (some ⟨P, 0, none⟩), .int .i64 n] w fun e w' => (∃ x : Int, e = .returned (.int .i64 x) ∧ 0 ≤ x ∧ x < n) ∧ Src w' P A xs c (k + 1) ∧ w.grownBy w' (some P) := by
  have key := next_src P A xs c k hk w hS
  have h1 : ¬ (n ≤ 1) := by omega
  have h2 : ¬ (200 < n) := by omega
  have h0 : ¬ (n = 0) := by omega
  have hn1 := hn.1
  have hn2 := hn.2
  go_enter Try.func57, Try.ntmps57
  go_wp2_with (fail)
  refine key.mono ?_; rintro e w1 ⟨⟨x, rfl, x0, x1⟩, hS1, hg⟩
  have hm : Int.tmod x n = x % n := by rw [Int.tmod_eq_emod_of_nonneg x0]
  have m0 := Int.emod_nonneg x (by omega : n ≠ 0)
  have m1 := Int.emod_lt_of_pos x (by omega : 0 < n)
  generalize x % n = y at *
  go_wp2_with (fail)
  go_ret
  exact ⟨⟨y, rfl, m0, m1⟩, hS1, hg⟩
set_option maxRecDepth 100000 in
set_option maxHeartbeats 1000000 in
theorem l00From_any (A : Option Addr) (xs : List Int) (c : Nat) (w : World) (hs : Sl .u8 w A xs) (hl : xs.length ≤ 4097) (hb : ∀ x ∈ xs, 0 ≤ x ∧ x ≤ 255) :
    Calls Try.prog 56 #[.slice A xs.length c] w fun e w' => e = .returned (.pointer (some ⟨w.heap.size, 0, none⟩)) ∧ Src w' w.heap.size A xs c 0 ∧ Below w.heap.size w w' := by
  have bb := bl_new (Below.refl _ w) (.cells #[.slice A xs.length c, .int .i64 0, .int .u64 0] 100)
  have B0 : Blk (w.alloc (.cells #[.slice A xs.length c, .int .i64 0, .int .u64 0] 100)) w.heap.size [.slice A xs.length c, .int .i64 0, .int .u64 0] 100 := Blk.mk w [_, _, _] _ rfl
  have hS : Src (w.alloc (.cells #[.slice A xs.length c, .int .i64 0, .int .u64 0] 100)) w.heap.size A xs c 0 := ⟨0, 0, ⟨B0, hs.kept bb, hl, hb, by omega, by omega, fun hp b o e => by
      obtain ⟨b', o', e', hr⟩ := hs.2 hp
      rw [e] at e'
      simp only [Option.some.injEq, Addr.mk.injEq] at e'
      have hlt := World.block_lt_of_cell? w _ (hr 0 (.int .u8 xs[0]) (by rw [List.getElem?_map, List.getElem?_eq_getElem hp]; rfl))
      have : b = b' := e'.1
      simp only at hlt; omega⟩, by omega⟩
  generalize xs.length = n at *
  go_enter Try.func56, Try.ntmps56
  go_wp2_with (fail)
  go_ret
  exact ⟨rfl, hS, bb⟩
set_option maxRecDepth 100000 in
set_option maxHeartbeats 1000000 in
theorem P6Pick_any (n : Int) (hn : 2 ≤ n ∧ n ≤ 200) (A : Option Addr) (xs : List Int) (c : Nat) (w : World) (hs : Sl .u8 w A xs) (hl : xs.length ≤ 4097) (hb : ∀ x ∈ xs, 0 ≤ x ∧ x ≤ 255) :
    Calls Try.prog 19 #[.slice A xs.length c, .int .i64 n] w fun e w' => (∃ x : Int, e = .returned (.int .i64 x) ∧ 0 ≤ x ∧ x < n) ∧ Below w.heap.size w w' := by
  have key := l00From_any A xs c w hs hl hb
  have key2 := fun W h => pick_src w.heap.size A xs c 0 (by omega) n hn W h
  generalize xs.length = m at *
  go_enter Try.func19, Try.ntmps19
  go_wp2_with (fail)
  refine key.mono ?_; rintro e w1 ⟨rfl, hS, hb1⟩
  go_wp2_with (fail)
  refine (key2 w1 hS).mono ?_; rintro e w2 ⟨⟨x, rfl, x0, x1⟩, _, hg⟩
  have hb2 : Below w.heap.size w w2 := hb1.grown hg hb1.size (fun k hk => by simp only [Option.some.injEq] at hk; omega)
  go_wp2_with (fail)
  go_ret
  exact ⟨⟨x, rfl, x0, x1⟩, hb2⟩
end Go.Proofs.Ytjppoejkfpeicaa
