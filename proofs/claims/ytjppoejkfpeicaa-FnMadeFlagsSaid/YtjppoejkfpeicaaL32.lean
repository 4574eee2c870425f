/- Walk: the law of FnMadeFlags. (Printed by mf.py.) -/
import Derived.Test.YtjppoejkfpeicaaMf
import Derived.Test.YtjppoejkfpeicaaGw
set_option linter.unusedVariables false
namespace Go.Proofs.Ytjppoejkfpeicaa
open Go.RowKit

section
variable {P : Program} {ops : Array Oper} {rest : List Oper} {op : Oper} {a : Act} {w : World} {Q : Exit → Act → World → Prop}
/-- A whole array into a block; the walk stops behind it. -/
theorem store_stop (hgd : Region.wanted op (yielded ops a.tmps) = true) (ty : TypeId) (x y : Operand) (ho : op.op = .store ty x y) (b : Nat) (hx : a.eval x = .pointer (some ⟨b, 0, none⟩)) {ds : List Value} (hy : a.eval y = .agg ds.toArray)
    {cs : List Value} {t : TypeId} (hB : Blk w b cs t) {n : Nat} (hi : (P.info? ty).map (·.size) = some n) (hn : ds.length = n) (hc : cs.length = n) (h1 : ∀ v ∈ ds, v.oneCell' = true)
    (h : As (wpList P ops Q rest (a.put op.dst undef) (w.setRow b ds.toArray))) : wpList P ops Q (op :: rest) a w :=
  store_blk hgd ty x y ho b hx hy hB hi hn hc h1 h.out
/-- One operation whose value is told. -/
theorem stepV (v : Value) (hgd : Region.wanted op (yielded ops a.tmps) = true) (he : (execOp a.eval op).run P w = .ok (.value v) w) (h : wpList P ops Q rest (a.put op.dst v) w) : wpList P ops Q (op :: rest) a w :=
  BigFrame.wpList_want hgd fun _ hK => by
    unfold Oper.wp
    rw [he, Oper.upon_value]
    exact hK _ _ h
/-- Two flags compared. -/
theorem stepB (bo : BinOp) (t t2 : TypeId) (x y : Operand) (vx vy : Value) (r : Bool) (hgd : Region.wanted op (yielded ops a.tmps) = true) (ho : op.op = .binOp bo t x y t2) (hx : a.eval x = vx) (hy : a.eval y = vy)
    (hg : ∀ w, (eqGuard bo t x y vx vy).run P w = .ok () w) (hr : ∀ W, (binOp bo t vx vy).run P W = .ok (.bool r) W) (h : wpList P ops Q rest (a.put op.dst (.bool r)) w) : wpList P ops Q (op :: rest) a w := by
  refine stepV (.bool r) hgd ?_ h
  unfold execOp
  rw [ho]
  simp only [hx, hy, Sem.run_bind, Sem.run_pure, Result.andThen_ok, hr, hg]
end
theorem f6_ok (A : Option Addr) (n c : Nat) (h : n ≤ 4096) (w : World) : Calls Try.prog 18 #[.slice A n c] w fun e w' => e = .returned (.bool false) ∧ w = w' := by
  have h' : ¬ ((4096 : Int) < (n : Int)) := by omega
  have h2 : (n : Int) ≤ 4096 := by omega
  go_enter Try.func18, Try.ntmps18
  go_wp2
  go_ret
  exact ⟨rfl, rfl⟩
theorem f6_big (A : Option Addr) (n c : Nat) (h : ¬ n ≤ 4096) (w : World) : Calls Try.prog 18 #[.slice A n c] w fun e w' => e = .returned (.bool true) ∧ w = w' := by
  have h' : (4096 : Int) < (n : Int) := by omega
  go_enter Try.func18, Try.ntmps18
  go_wp2
  go_ret
  exact ⟨rfl, rfl⟩
set_option maxRecDepth 100000 in
set_option maxHeartbeats 8000000 in
theorem walk_FnMadeFlags (w : World) (A0 : Option Addr) (x0 : List Int) (c0 : Nat) (s0 : Sl .u8 w A0 x0) (r0 : ∀ n ∈ x0, 0 ≤ n ∧ n ≤ 255) (A1 : Option Addr) (x1 : List Int) (c1 : Nat) (s1 : Sl .u8 w A1 x1) (r1 : ∀ n ∈ x1, 0 ≤ n ∧ n ≤ 255) :
    Calls Try.prog 5 #[.slice A0 x0.length c0, .slice A1 x1.length c1] w fun e w' => e = .returned (.bool true) ∧ Below w.heap.size w w' := by
  by_cases h0 : x0.length ≤ 4096
  case neg =>
    have k := fun W => f6_big A0 x0.length c0 h0 W
    generalize x0.length = n0 at *
    generalize x1.length = n1 at *
    go_enter Try.func5, Try.ntmps5
    go_wp2_with (refine (k _).mono ?_; rintro e w' ⟨rfl, rfl⟩)
    go_ret
    exact ⟨rfl, Below.refl _ _⟩
  by_cases h1 : x1.length ≤ 4096
  case neg =>
    have k := fun W => f6_ok A0 x0.length c0 h0 W
    have k1 := fun W => f6_big A1 x1.length c1 h1 W
    generalize x0.length = n0 at *
    generalize x1.length = n1 at *
    go_enter Try.func5, Try.ntmps5
    go_wp2_with (first | (refine (k _).mono ?_; rintro e w' ⟨rfl, rfl⟩) | (refine (k1 _).mono ?_; rintro e w' ⟨rfl, rfl⟩))
    go_ret
    exact ⟨rfl, Below.refl _ _⟩
  have k := fun W => f6_ok A0 x0.length c0 h0 W
  have k1 := fun W => f6_ok A1 x1.length c1 h1 W
  have p0 := fun W h => P6Pick_any 6 (by omega) A0 x0 c0 W h (by omega) r0
  have p1 := fun W h => P6Pick_any 6 (by omega) A1 x1 c1 W h (by omega) r1
  generalize x0.length = n0 at *
  generalize x1.length = n1 at *
  go_enter Try.func5, Try.ntmps5
  go_wp2_with (first | (refine (k _).mono ?_; rintro e w' ⟨rfl, rfl⟩) | (refine (k1 _).mono ?_; rintro e w' ⟨rfl, rfl⟩))
  refine (p0 w s0).mono ?_; rintro e w1 ⟨⟨a, rfl, a0, a1⟩, hb1⟩
  go_wp2_with (fail)
  refine (p1 w1 (s1.kept hb1)).mono ?_; rintro e w2 ⟨⟨b, rfl, b0, b1⟩, hb2⟩
  have q2 := bl_call hb1 hb2
  have hf := made_facts (a := a) (b := b) ⟨a0, by omega⟩ ⟨b0, by omega⟩
  obtain ⟨fP, fX, fB, fC, lD, fS, hso, hac, hca, hin, hna, hnb, hnl⟩ := hf
  have kP := fun W => PlainFlag_any a W
  have kX := fun W => CrossOf_any a b W
  have kB := fun W => BorderOf_any a b W
  have kC := fun W => ChequersOf_any a b W
  have kD := fun W => ChequersOf_any b a W
  have kS := fun W (A : Option Addr) c h => StripesOf_any [a, b] true A c W h (by simp)
  have tS := fun W (A : Option Addr) c h => sStripesOf_any [a, b] true A c W h (by simp)
  have tP := fun W => sPlainFlag_any a W
  have tX := fun W => sCrossOf_any a b W
  have tB := fun W => sBorderOf_any a b W
  have tC := fun W => sChequersOf_any a b W
  have kn := fun W => ColourName_any a W
  have tn := fun W => sColourName_any a W
  rw [hin] at kP tP
  rw [hac] at kX kB kC tX tB tC
  rw [hca] at kD
  rw [hso] at kS tS
  simp only [okF, codeR, if_true] at kP kX kB kC kD kS tS tP tX tB tC
  clear hin hac hca hso k k1 p0 p1 s0 s1 r0 r1 hb1 hb2
  have kM := fun xs (h : Still xs) W => MirrorFlag_any xs h.len h.bytes W
  have kT := fun xs (h : Still xs) W => TurnFlag_any xs h.len W
  have kCm := fun W => MirrorFlag_any (madeL 2 a b) fC.1 fC.2.1 W
  have kCt := fun W => TurnFlag_any (madeL 2 a b) fC.1 W
  have kn6 := fun W => CountColours_any (stripeL [a, b] true) fS.1 fS.2.1 W
  rw [fC.2.2.1, fC.2.2.2.1] at kCm
  rw [fC.2.2.1, fC.2.2.2.2] at kCt
  rw [fS.2.2] at kn6
  simp only [okF, codeV, ok6, if_true] at kCm kCt kn6
  have lC := fC.1
  have lS := fS.1
  have lP := fP.len
  have lX := fX.len
  have lB := fB.len
  clear fC fS
  generalize countL (stripeL [a, b] true) 24 = N at *
  generalize stripeL [a, b] true = S at *
  generalize plainL a = FP at *
  generalize madeL 0 a b = FX at *
  generalize madeL 1 a b = FB at *
  generalize madeL 2 a b = FC at *
  generalize madeL 2 b a = FD at *
  have a5 : a ≤ 5 := by omega
  have b5 : b ≤ 5 := by omega
  unfold fl at kP kX kB kC kD kS tS tP tX tB tC kM kT kCm kCt kn6
  go_wp2_with (fail)
  refine (kP _).mono ?_; rintro e u1 ⟨rfl, hb⟩
  have X1 : Blk (u1.alloc (.cells #[.int .u8 0, .int .u8 0, .int .u8 0, .int .u8 0, .int .u8 0, .int .u8 0, .int .u8 0, .int .u8 0, .int .u8 0, .int .u8 0, .int .u8 0, .int .u8 0, .int .u8 0, .int .u8 0, .int .u8 0, .int .u8 0, .int .u8 0, .int .u8 0, .int .u8 0, .int .u8 0, .int .u8 0, .int .u8 0, .int .u8 0, .int .u8 0] 38)) u1.heap.size (u8s zero24) 38 := Blk.mk _ (u8s zero24) _ rfl
  have D1 := X1.setRow (u8s FP)
  have hq : Below u1.heap.size u1 ((u1.alloc (.cells #[.int .u8 0, .int .u8 0, .int .u8 0, .int .u8 0, .int .u8 0, .int .u8 0, .int .u8 0, .int .u8 0, .int .u8 0, .int .u8 0, .int .u8 0, .int .u8 0, .int .u8 0, .int .u8 0, .int .u8 0, .int .u8 0, .int .u8 0, .int .u8 0, .int .u8 0, .int .u8 0, .int .u8 0, .int .u8 0, .int .u8 0, .int .u8 0] 38)).setRow u1.heap.size (u8s FP).toArray) := bl_setRow (bl_new (Below.refl _ _) _) (Nat.le_refl _) _
  replace q2 := bl_call (bl_call q2 hb) hq
  clear hb hq
  go_wp2_with (refine store_blk rfl 38 _ _ rfl _ rfl rfl X1 info_fl (by rw [u8s_length]; exact lP) (by rw [u8s_length]; exact zero24_length) (u8s_one _) ?_)
  generalize (u1.alloc (.cells #[.int .u8 0, .int .u8 0, .int .u8 0, .int .u8 0, .int .u8 0, .int .u8 0, .int .u8 0, .int .u8 0, .int .u8 0, .int .u8 0, .int .u8 0, .int .u8 0, .int .u8 0, .int .u8 0, .int .u8 0, .int .u8 0, .int .u8 0, .int .u8 0, .int .u8 0, .int .u8 0, .int .u8 0, .int .u8 0, .int .u8 0, .int .u8 0] 38)).setRow u1.heap.size (u8s FP).toArray = v1 at *
  generalize u1.heap.size = L1 at *
  clear X1
  refine (kX _).mono ?_; rintro e u2 ⟨rfl, hb⟩
  have X2 : Blk (u2.alloc (.cells #[.int .u8 0, .int .u8 0, .int .u8 0, .int .u8 0, .int .u8 0, .int .u8 0, .int .u8 0, .int .u8 0, .int .u8 0, .int .u8 0, .int .u8 0, .int .u8 0, .int .u8 0, .int .u8 0, .int .u8 0, .int .u8 0, .int .u8 0, .int .u8 0, .int .u8 0, .int .u8 0, .int .u8 0, .int .u8 0, .int .u8 0, .int .u8 0] 38)) u2.heap.size (u8s zero24) 38 := Blk.mk _ (u8s zero24) _ rfl
  have D2 := X2.setRow (u8s FX)
  have hq : Below u2.heap.size u2 ((u2.alloc (.cells #[.int .u8 0, .int .u8 0, .int .u8 0, .int .u8 0, .int .u8 0, .int .u8 0, .int .u8 0, .int .u8 0, .int .u8 0, .int .u8 0, .int .u8 0, .int .u8 0, .int .u8 0, .int .u8 0, .int .u8 0, .int .u8 0, .int .u8 0, .int .u8 0, .int .u8 0, .int .u8 0, .int .u8 0, .int .u8 0, .int .u8 0, .int .u8 0] 38)).setRow u2.heap.size (u8s FX).toArray) := bl_setRow (bl_new (Below.refl _ _) _) (Nat.le_refl _) _
  replace q2 := bl_call (bl_call q2 hb) hq
  replace D1 := D1.kept hb
  replace D1 := D1.kept hq
  clear hb hq
  go_wp2_with (refine store_blk rfl 38 _ _ rfl _ rfl rfl X2 info_fl (by rw [u8s_length]; exact lX) (by rw [u8s_length]; exact zero24_length) (u8s_one _) ?_)
  generalize (u2.alloc (.cells #[.int .u8 0, .int .u8 0, .int .u8 0, .int .u8 0, .int .u8 0, .int .u8 0, .int .u8 0, .int .u8 0, .int .u8 0, .int .u8 0, .int .u8 0, .int .u8 0, .int .u8 0, .int .u8 0, .int .u8 0, .int .u8 0, .int .u8 0, .int .u8 0, .int .u8 0, .int .u8 0, .int .u8 0, .int .u8 0, .int .u8 0, .int .u8 0] 38)).setRow u2.heap.size (u8s FX).toArray = v2 at *
  generalize u2.heap.size = L2 at *
  clear X2
  refine (kB _).mono ?_; rintro e u3 ⟨rfl, hb⟩
  have X3 : Blk (u3.alloc (.cells #[.int .u8 0, .int .u8 0, .int .u8 0, .int .u8 0, .int .u8 0, .int .u8 0, .int .u8 0, .int .u8 0, .int .u8 0, .int .u8 0, .int .u8 0, .int .u8 0, .int .u8 0, .int .u8 0, .int .u8 0, .int .u8 0, .int .u8 0, .int .u8 0, .int .u8 0, .int .u8 0, .int .u8 0, .int .u8 0, .int .u8 0, .int .u8 0] 38)) u3.heap.size (u8s zero24) 38 := Blk.mk _ (u8s zero24) _ rfl
  have D3 := X3.setRow (u8s FB)
  have hq : Below u3.heap.size u3 ((u3.alloc (.cells #[.int .u8 0, .int .u8 0, .int .u8 0, .int .u8 0, .int .u8 0, .int .u8 0, .int .u8 0, .int .u8 0, .int .u8 0, .int .u8 0, .int .u8 0, .int .u8 0, .int .u8 0, .int .u8 0, .int .u8 0, .int .u8 0, .int .u8 0, .int .u8 0, .int .u8 0, .int .u8 0, .int .u8 0, .int .u8 0, .int .u8 0, .int .u8 0] 38)).setRow u3.heap.size (u8s FB).toArray) := bl_setRow (bl_new (Below.refl _ _) _) (Nat.le_refl _) _
  replace q2 := bl_call (bl_call q2 hb) hq
  replace D1 := D1.kept hb
  replace D2 := D2.kept hb
  replace D1 := D1.kept hq
  replace D2 := D2.kept hq
  clear hb hq
  go_wp2_with (refine store_blk rfl 38 _ _ rfl _ rfl rfl X3 info_fl (by rw [u8s_length]; exact lB) (by rw [u8s_length]; exact zero24_length) (u8s_one _) ?_)
  generalize (u3.alloc (.cells #[.int .u8 0, .int .u8 0, .int .u8 0, .int .u8 0, .int .u8 0, .int .u8 0, .int .u8 0, .int .u8 0, .int .u8 0, .int .u8 0, .int .u8 0, .int .u8 0, .int .u8 0, .int .u8 0, .int .u8 0, .int .u8 0, .int .u8 0, .int .u8 0, .int .u8 0, .int .u8 0, .int .u8 0, .int .u8 0, .int .u8 0, .int .u8 0] 38)).setRow u3.heap.size (u8s FB).toArray = v3 at *
  generalize u3.heap.size = L3 at *
  clear X3
  refine (kC _).mono ?_; rintro e u4 ⟨rfl, hb⟩
  have X4 : Blk (u4.alloc (.cells #[.int .u8 0, .int .u8 0, .int .u8 0, .int .u8 0, .int .u8 0, .int .u8 0, .int .u8 0, .int .u8 0, .int .u8 0, .int .u8 0, .int .u8 0, .int .u8 0, .int .u8 0, .int .u8 0, .int .u8 0, .int .u8 0, .int .u8 0, .int .u8 0, .int .u8 0, .int .u8 0, .int .u8 0, .int .u8 0, .int .u8 0, .int .u8 0] 38)) u4.heap.size (u8s zero24) 38 := Blk.mk _ (u8s zero24) _ rfl
  have D4 := X4.setRow (u8s FC)
  have hq : Below u4.heap.size u4 ((u4.alloc (.cells #[.int .u8 0, .int .u8 0, .int .u8 0, .int .u8 0, .int .u8 0, .int .u8 0, .int .u8 0, .int .u8 0, .int .u8 0, .int .u8 0, .int .u8 0, .int .u8 0, .int .u8 0, .int .u8 0, .int .u8 0, .int .u8 0, .int .u8 0, .int .u8 0, .int .u8 0, .int .u8 0, .int .u8 0, .int .u8 0, .int .u8 0, .int .u8 0] 38)).setRow u4.heap.size (u8s FC).toArray) := bl_setRow (bl_new (Below.refl _ _) _) (Nat.le_refl _) _
  replace q2 := bl_call (bl_call q2 hb) hq
  replace D1 := D1.kept hb
  replace D2 := D2.kept hb
  replace D3 := D3.kept hb
  replace D1 := D1.kept hq
  replace D2 := D2.kept hq
  replace D3 := D3.kept hq
  clear hb hq
  go_wp2_with (refine store_blk rfl 38 _ _ rfl _ rfl rfl X4 info_fl (by rw [u8s_length]; exact lC) (by rw [u8s_length]; exact zero24_length) (u8s_one _) ?_)
  generalize (u4.alloc (.cells #[.int .u8 0, .int .u8 0, .int .u8 0, .int .u8 0, .int .u8 0, .int .u8 0, .int .u8 0, .int .u8 0, .int .u8 0, .int .u8 0, .int .u8 0, .int .u8 0, .int .u8 0, .int .u8 0, .int .u8 0, .int .u8 0, .int .u8 0, .int .u8 0, .int .u8 0, .int .u8 0, .int .u8 0, .int .u8 0, .int .u8 0, .int .u8 0] 38)).setRow u4.heap.size (u8s FC).toArray = v4 at *
  generalize u4.heap.size = L4 at *
  clear X4
  refine (kD _).mono ?_; rintro e u5 ⟨rfl, hb⟩
  have X5 : Blk (u5.alloc (.cells #[.int .u8 0, .int .u8 0, .int .u8 0, .int .u8 0, .int .u8 0, .int .u8 0, .int .u8 0, .int .u8 0, .int .u8 0, .int .u8 0, .int .u8 0, .int .u8 0, .int .u8 0, .int .u8 0, .int .u8 0, .int .u8 0, .int .u8 0, .int .u8 0, .int .u8 0, .int .u8 0, .int .u8 0, .int .u8 0, .int .u8 0, .int .u8 0] 38)) u5.heap.size (u8s zero24) 38 := Blk.mk _ (u8s zero24) _ rfl
  have D5 := X5.setRow (u8s FD)
  have hq : Below u5.heap.size u5 ((u5.alloc (.cells #[.int .u8 0, .int .u8 0, .int .u8 0, .int .u8 0, .int .u8 0, .int .u8 0, .int .u8 0, .int .u8 0, .int .u8 0, .int .u8 0, .int .u8 0, .int .u8 0, .int .u8 0, .int .u8 0, .int .u8 0, .int .u8 0, .int .u8 0, .int .u8 0, .int .u8 0, .int .u8 0, .int .u8 0, .int .u8 0, .int .u8 0, .int .u8 0] 38)).setRow u5.heap.size (u8s FD).toArray) := bl_setRow (bl_new (Below.refl _ _) _) (Nat.le_refl _) _
  replace q2 := bl_call (bl_call q2 hb) hq
  replace D1 := D1.kept hb
  replace D2 := D2.kept hb
  replace D3 := D3.kept hb
  replace D4 := D4.kept hb
  replace D1 := D1.kept hq
  replace D2 := D2.kept hq
  replace D3 := D3.kept hq
  replace D4 := D4.kept hq
  clear hb hq
  have hL5 : ((u5.alloc (.cells #[.int .u8 0, .int .u8 0, .int .u8 0, .int .u8 0, .int .u8 0, .int .u8 0, .int .u8 0, .int .u8 0, .int .u8 0, .int .u8 0, .int .u8 0, .int .u8 0, .int .u8 0, .int .u8 0, .int .u8 0, .int .u8 0, .int .u8 0, .int .u8 0, .int .u8 0, .int .u8 0, .int .u8 0, .int .u8 0, .int .u8 0, .int .u8 0] 38)).setRow u5.heap.size (u8s FD).toArray).heap.size = u5.heap.size + 1 := by simp
  replace hL5 := As.mk hL5
  go_wp2_with (refine store_blk rfl 38 _ _ rfl _ rfl rfl X5 info_fl (by rw [u8s_length]; exact lD) (by rw [u8s_length]; exact zero24_length) (u8s_one _) ?_)
  generalize (u5.alloc (.cells #[.int .u8 0, .int .u8 0, .int .u8 0, .int .u8 0, .int .u8 0, .int .u8 0, .int .u8 0, .int .u8 0, .int .u8 0, .int .u8 0, .int .u8 0, .int .u8 0, .int .u8 0, .int .u8 0, .int .u8 0, .int .u8 0, .int .u8 0, .int .u8 0, .int .u8 0, .int .u8 0, .int .u8 0, .int .u8 0, .int .u8 0, .int .u8 0] 38)).setRow u5.heap.size (u8s FD).toArray = v5 at *
  generalize u5.heap.size = L5 at *
  clear X5
  have hz6 := bl_new (Below.refl _ v5) (.cells #[.int .i64 a, .int .i64 b] 2)
  have sl6 : Sl .i64 (v5.alloc (.cells #[.int .i64 a, .int .i64 b] 2)) (some ⟨L5 + 1, 0, none⟩) [a, b] := ⟨by simp, fun _ => ⟨_, 0, rfl, (Blk.mk v5 (i64s [a, b]) 2 hL5.out.symm).range⟩⟩
  refine (kS _ (some ⟨L5 + 1, 0, none⟩) 2 sl6).mono ?_; rintro e u6 ⟨rfl, hb⟩
  replace hb := bl_call hz6 hb
  clear hz6 sl6
  have X6 : Blk (u6.alloc (.cells #[.int .u8 0, .int .u8 0, .int .u8 0, .int .u8 0, .int .u8 0, .int .u8 0, .int .u8 0, .int .u8 0, .int .u8 0, .int .u8 0, .int .u8 0, .int .u8 0, .int .u8 0, .int .u8 0, .int .u8 0, .int .u8 0, .int .u8 0, .int .u8 0, .int .u8 0, .int .u8 0, .int .u8 0, .int .u8 0, .int .u8 0, .int .u8 0] 38)) u6.heap.size (u8s zero24) 38 := Blk.mk _ (u8s zero24) _ rfl
  have D6 := X6.setRow (u8s S)
  have hq : Below u6.heap.size u6 ((u6.alloc (.cells #[.int .u8 0, .int .u8 0, .int .u8 0, .int .u8 0, .int .u8 0, .int .u8 0, .int .u8 0, .int .u8 0, .int .u8 0, .int .u8 0, .int .u8 0, .int .u8 0, .int .u8 0, .int .u8 0, .int .u8 0, .int .u8 0, .int .u8 0, .int .u8 0, .int .u8 0, .int .u8 0, .int .u8 0, .int .u8 0, .int .u8 0, .int .u8 0] 38)).setRow u6.heap.size (u8s S).toArray) := bl_setRow (bl_new (Below.refl _ _) _) (Nat.le_refl _) _
  replace q2 := bl_call (bl_call q2 hb) hq
  replace D1 := D1.kept hb
  replace D2 := D2.kept hb
  replace D3 := D3.kept hb
  replace D4 := D4.kept hb
  replace D5 := D5.kept hb
  replace D1 := D1.kept hq
  replace D2 := D2.kept hq
  replace D3 := D3.kept hq
  replace D4 := D4.kept hq
  replace D5 := D5.kept hq
  clear hb hq
  have hL6 : ((u6.alloc (.cells #[.int .u8 0, .int .u8 0, .int .u8 0, .int .u8 0, .int .u8 0, .int .u8 0, .int .u8 0, .int .u8 0, .int .u8 0, .int .u8 0, .int .u8 0, .int .u8 0, .int .u8 0, .int .u8 0, .int .u8 0, .int .u8 0, .int .u8 0, .int .u8 0, .int .u8 0, .int .u8 0, .int .u8 0, .int .u8 0, .int .u8 0, .int .u8 0] 38)).setRow u6.heap.size (u8s S).toArray).heap.size = u6.heap.size + 1 := by simp
  replace hL6 := As.mk hL6
  go_wp2_with (refine store_blk rfl 38 _ _ rfl _ rfl rfl X6 info_fl (by rw [u8s_length]; exact lS) (by rw [u8s_length]; exact zero24_length) (u8s_one _) ?_)
  generalize (u6.alloc (.cells #[.int .u8 0, .int .u8 0, .int .u8 0, .int .u8 0, .int .u8 0, .int .u8 0, .int .u8 0, .int .u8 0, .int .u8 0, .int .u8 0, .int .u8 0, .int .u8 0, .int .u8 0, .int .u8 0, .int .u8 0, .int .u8 0, .int .u8 0, .int .u8 0, .int .u8 0, .int .u8 0, .int .u8 0, .int .u8 0, .int .u8 0, .int .u8 0] 38)).setRow u6.heap.size (u8s S).toArray = v6 at *
  generalize u6.heap.size = L6 at *
  clear X6
  have hz7 := bl_new (Below.refl _ v6) (.cells #[.int .i64 a, .int .i64 b] 2)
  have sl7 : Sl .i64 (v6.alloc (.cells #[.int .i64 a, .int .i64 b] 2)) (some ⟨L6 + 1, 0, none⟩) [a, b] := ⟨by simp, fun _ => ⟨_, 0, rfl, (Blk.mk v6 (i64s [a, b]) 2 hL6.out.symm).range⟩⟩
  refine (tS _ (some ⟨L6 + 1, 0, none⟩) 2 sl7).mono ?_; rintro e u7 ⟨rfl, hb⟩
  replace hb := bl_call hz7 hb
  clear hz7 sl7
  have X7 : Blk (u7.alloc (.cells #[.int .u8 0, .int .u8 0, .int .u8 0, .int .u8 0, .int .u8 0, .int .u8 0, .int .u8 0, .int .u8 0, .int .u8 0, .int .u8 0, .int .u8 0, .int .u8 0, .int .u8 0, .int .u8 0, .int .u8 0, .int .u8 0, .int .u8 0, .int .u8 0, .int .u8 0, .int .u8 0, .int .u8 0, .int .u8 0, .int .u8 0, .int .u8 0] 38)) u7.heap.size (u8s zero24) 38 := Blk.mk _ (u8s zero24) _ rfl
  have D7 := X7.setRow (u8s S)
  have hq : Below u7.heap.size u7 ((u7.alloc (.cells #[.int .u8 0, .int .u8 0, .int .u8 0, .int .u8 0, .int .u8 0, .int .u8 0, .int .u8 0, .int .u8 0, .int .u8 0, .int .u8 0, .int .u8 0, .int .u8 0, .int .u8 0, .int .u8 0, .int .u8 0, .int .u8 0, .int .u8 0, .int .u8 0, .int .u8 0, .int .u8 0, .int .u8 0, .int .u8 0, .int .u8 0, .int .u8 0] 38)).setRow u7.heap.size (u8s S).toArray) := bl_setRow (bl_new (Below.refl _ _) _) (Nat.le_refl _) _
  replace q2 := bl_call (bl_call q2 hb) hq
  replace D1 := D1.kept hb
  replace D2 := D2.kept hb
  replace D3 := D3.kept hb
  replace D4 := D4.kept hb
  replace D5 := D5.kept hb
  replace D6 := D6.kept hb
  replace D1 := D1.kept hq
  replace D2 := D2.kept hq
  replace D3 := D3.kept hq
  replace D4 := D4.kept hq
  replace D5 := D5.kept hq
  replace D6 := D6.kept hq
  clear hb hq
  go_wp2_with (refine store_blk rfl 38 _ _ rfl _ rfl rfl X7 info_fl (by rw [u8s_length]; exact lS) (by rw [u8s_length]; exact zero24_length) (u8s_one _) ?_)
  generalize (u7.alloc (.cells #[.int .u8 0, .int .u8 0, .int .u8 0, .int .u8 0, .int .u8 0, .int .u8 0, .int .u8 0, .int .u8 0, .int .u8 0, .int .u8 0, .int .u8 0, .int .u8 0, .int .u8 0, .int .u8 0, .int .u8 0, .int .u8 0, .int .u8 0, .int .u8 0, .int .u8 0, .int .u8 0, .int .u8 0, .int .u8 0, .int .u8 0, .int .u8 0] 38)).setRow u7.heap.size (u8s S).toArray = v7 at *
  generalize u7.heap.size = L7 at *
  clear X7
  refine (tP _).mono ?_; rintro e u8 ⟨rfl, hb⟩
  have X8 : Blk (u8.alloc (.cells #[.int .u8 0, .int .u8 0, .int .u8 0, .int .u8 0, .int .u8 0, .int .u8 0, .int .u8 0, .int .u8 0, .int .u8 0, .int .u8 0, .int .u8 0, .int .u8 0, .int .u8 0, .int .u8 0, .int .u8 0, .int .u8 0, .int .u8 0, .int .u8 0, .int .u8 0, .int .u8 0, .int .u8 0, .int .u8 0, .int .u8 0, .int .u8 0] 38)) u8.heap.size (u8s zero24) 38 := Blk.mk _ (u8s zero24) _ rfl
  have D8 := X8.setRow (u8s FP)
  have hq : Below u8.heap.size u8 ((u8.alloc (.cells #[.int .u8 0, .int .u8 0, .int .u8 0, .int .u8 0, .int .u8 0, .int .u8 0, .int .u8 0, .int .u8 0, .int .u8 0, .int .u8 0, .int .u8 0, .int .u8 0, .int .u8 0, .int .u8 0, .int .u8 0, .int .u8 0, .int .u8 0, .int .u8 0, .int .u8 0, .int .u8 0, .int .u8 0, .int .u8 0, .int .u8 0, .int .u8 0] 38)).setRow u8.heap.size (u8s FP).toArray) := bl_setRow (bl_new (Below.refl _ _) _) (Nat.le_refl _) _
  replace q2 := bl_call (bl_call q2 hb) hq
  replace D1 := D1.kept hb
  replace D2 := D2.kept hb
  replace D3 := D3.kept hb
  replace D4 := D4.kept hb
  replace D5 := D5.kept hb
  replace D6 := D6.kept hb
  replace D7 := D7.kept hb
  replace D1 := D1.kept hq
  replace D2 := D2.kept hq
  replace D3 := D3.kept hq
  replace D4 := D4.kept hq
  replace D5 := D5.kept hq
  replace D6 := D6.kept hq
  replace D7 := D7.kept hq
  clear hb hq
  go_wp2_with (refine store_blk rfl 38 _ _ rfl _ rfl rfl X8 info_fl (by rw [u8s_length]; exact lP) (by rw [u8s_length]; exact zero24_length) (u8s_one _) ?_)
  generalize (u8.alloc (.cells #[.int .u8 0, .int .u8 0, .int .u8 0, .int .u8 0, .int .u8 0, .int .u8 0, .int .u8 0, .int .u8 0, .int .u8 0, .int .u8 0, .int .u8 0, .int .u8 0, .int .u8 0, .int .u8 0, .int .u8 0, .int .u8 0, .int .u8 0, .int .u8 0, .int .u8 0, .int .u8 0, .int .u8 0, .int .u8 0, .int .u8 0, .int .u8 0] 38)).setRow u8.heap.size (u8s FP).toArray = v8 at *
  generalize u8.heap.size = L8 at *
  clear X8
  refine (tX _).mono ?_; rintro e u9 ⟨rfl, hb⟩
  have X9 : Blk (u9.alloc (.cells #[.int .u8 0, .int .u8 0, .int .u8 0, .int .u8 0, .int .u8 0, .int .u8 0, .int .u8 0, .int .u8 0, .int .u8 0, .int .u8 0, .int .u8 0, .int .u8 0, .int .u8 0, .int .u8 0, .int .u8 0, .int .u8 0, .int .u8 0, .int .u8 0, .int .u8 0, .int .u8 0, .int .u8 0, .int .u8 0, .int .u8 0, .int .u8 0] 38)) u9.heap.size (u8s zero24) 38 := Blk.mk _ (u8s zero24) _ rfl
  have D9 := X9.setRow (u8s FX)
  have hq : Below u9.heap.size u9 ((u9.alloc (.cells #[.int .u8 0, .int .u8 0, .int .u8 0, .int .u8 0, .int .u8 0, .int .u8 0, .int .u8 0, .int .u8 0, .int .u8 0, .int .u8 0, .int .u8 0, .int .u8 0, .int .u8 0, .int .u8 0, .int .u8 0, .int .u8 0, .int .u8 0, .int .u8 0, .int .u8 0, .int .u8 0, .int .u8 0, .int .u8 0, .int .u8 0, .int .u8 0] 38)).setRow u9.heap.size (u8s FX).toArray) := bl_setRow (bl_new (Below.refl _ _) _) (Nat.le_refl _) _
  replace q2 := bl_call (bl_call q2 hb) hq
  replace D1 := D1.kept hb
  replace D2 := D2.kept hb
  replace D3 := D3.kept hb
  replace D4 := D4.kept hb
  replace D5 := D5.kept hb
  replace D6 := D6.kept hb
  replace D7 := D7.kept hb
  replace D8 := D8.kept hb
  replace D1 := D1.kept hq
  replace D2 := D2.kept hq
  replace D3 := D3.kept hq
  replace D4 := D4.kept hq
  replace D5 := D5.kept hq
  replace D6 := D6.kept hq
  replace D7 := D7.kept hq
  replace D8 := D8.kept hq
  clear hb hq
  go_wp2_with (refine store_blk rfl 38 _ _ rfl _ rfl rfl X9 info_fl (by rw [u8s_length]; exact lX) (by rw [u8s_length]; exact zero24_length) (u8s_one _) ?_)
  generalize (u9.alloc (.cells #[.int .u8 0, .int .u8 0, .int .u8 0, .int .u8 0, .int .u8 0, .int .u8 0, .int .u8 0, .int .u8 0, .int .u8 0, .int .u8 0, .int .u8 0, .int .u8 0, .int .u8 0, .int .u8 0, .int .u8 0, .int .u8 0, .int .u8 0, .int .u8 0, .int .u8 0, .int .u8 0, .int .u8 0, .int .u8 0, .int .u8 0, .int .u8 0] 38)).setRow u9.heap.size (u8s FX).toArray = v9 at *
  generalize u9.heap.size = L9 at *
  clear X9
  refine (tB _).mono ?_; rintro e u10 ⟨rfl, hb⟩
  have X10 : Blk (u10.alloc (.cells #[.int .u8 0, .int .u8 0, .int .u8 0, .int .u8 0, .int .u8 0, .int .u8 0, .int .u8 0, .int .u8 0, .int .u8 0, .int .u8 0, .int .u8 0, .int .u8 0, .int .u8 0, .int .u8 0, .int .u8 0, .int .u8 0, .int .u8 0, .int .u8 0, .int .u8 0, .int .u8 0, .int .u8 0, .int .u8 0, .int .u8 0, .int .u8 0] 38)) u10.heap.size (u8s zero24) 38 := Blk.mk _ (u8s zero24) _ rfl
  have D10 := X10.setRow (u8s FB)
  have hq : Below u10.heap.size u10 ((u10.alloc (.cells #[.int .u8 0, .int .u8 0, .int .u8 0, .int .u8 0, .int .u8 0, .int .u8 0, .int .u8 0, .int .u8 0, .int .u8 0, .int .u8 0, .int .u8 0, .int .u8 0, .int .u8 0, .int .u8 0, .int .u8 0, .int .u8 0, .int .u8 0, .int .u8 0, .int .u8 0, .int .u8 0, .int .u8 0, .int .u8 0, .int .u8 0, .int .u8 0] 38)).setRow u10.heap.size (u8s FB).toArray) := bl_setRow (bl_new (Below.refl _ _) _) (Nat.le_refl _) _
  replace q2 := bl_call (bl_call q2 hb) hq
  replace D1 := D1.kept hb
  replace D2 := D2.kept hb
  replace D3 := D3.kept hb
  replace D4 := D4.kept hb
  replace D5 := D5.kept hb
  replace D6 := D6.kept hb
  replace D7 := D7.kept hb
  replace D8 := D8.kept hb
  replace D9 := D9.kept hb
  replace D1 := D1.kept hq
  replace D2 := D2.kept hq
  replace D3 := D3.kept hq
  replace D4 := D4.kept hq
  replace D5 := D5.kept hq
  replace D6 := D6.kept hq
  replace D7 := D7.kept hq
  replace D8 := D8.kept hq
  replace D9 := D9.kept hq
  clear hb hq
  go_wp2_with (refine store_blk rfl 38 _ _ rfl _ rfl rfl X10 info_fl (by rw [u8s_length]; exact lB) (by rw [u8s_length]; exact zero24_length) (u8s_one _) ?_)
  generalize (u10.alloc (.cells #[.int .u8 0, .int .u8 0, .int .u8 0, .int .u8 0, .int .u8 0, .int .u8 0, .int .u8 0, .int .u8 0, .int .u8 0, .int .u8 0, .int .u8 0, .int .u8 0, .int .u8 0, .int .u8 0, .int .u8 0, .int .u8 0, .int .u8 0, .int .u8 0, .int .u8 0, .int .u8 0, .int .u8 0, .int .u8 0, .int .u8 0, .int .u8 0] 38)).setRow u10.heap.size (u8s FB).toArray = v10 at *
  generalize u10.heap.size = L10 at *
  clear X10
  refine (tC _).mono ?_; rintro e u11 ⟨rfl, hb⟩
  have X11 : Blk (u11.alloc (.cells #[.int .u8 0, .int .u8 0, .int .u8 0, .int .u8 0, .int .u8 0, .int .u8 0, .int .u8 0, .int .u8 0, .int .u8 0, .int .u8 0, .int .u8 0, .int .u8 0, .int .u8 0, .int .u8 0, .int .u8 0, .int .u8 0, .int .u8 0, .int .u8 0, .int .u8 0, .int .u8 0, .int .u8 0, .int .u8 0, .int .u8 0, .int .u8 0] 38)) u11.heap.size (u8s zero24) 38 := Blk.mk _ (u8s zero24) _ rfl
  have D11 := X11.setRow (u8s FC)
  have hq : Below u11.heap.size u11 ((u11.alloc (.cells #[.int .u8 0, .int .u8 0, .int .u8 0, .int .u8 0, .int .u8 0, .int .u8 0, .int .u8 0, .int .u8 0, .int .u8 0, .int .u8 0, .int .u8 0, .int .u8 0, .int .u8 0, .int .u8 0, .int .u8 0, .int .u8 0, .int .u8 0, .int .u8 0, .int .u8 0, .int .u8 0, .int .u8 0, .int .u8 0, .int .u8 0, .int .u8 0] 38)).setRow u11.heap.size (u8s FC).toArray) := bl_setRow (bl_new (Below.refl _ _) _) (Nat.le_refl _) _
  replace q2 := bl_call (bl_call q2 hb) hq
  replace D1 := D1.kept hb
  replace D2 := D2.kept hb
  replace D3 := D3.kept hb
  replace D4 := D4.kept hb
  replace D5 := D5.kept hb
  replace D6 := D6.kept hb
  replace D7 := D7.kept hb
  replace D8 := D8.kept hb
  replace D9 := D9.kept hb
  replace D10 := D10.kept hb
  replace D1 := D1.kept hq
  replace D2 := D2.kept hq
  replace D3 := D3.kept hq
  replace D4 := D4.kept hq
  replace D5 := D5.kept hq
  replace D6 := D6.kept hq
  replace D7 := D7.kept hq
  replace D8 := D8.kept hq
  replace D9 := D9.kept hq
  replace D10 := D10.kept hq
  clear hb hq
  have nP := fun W => neq_fl FP FP lP lP W
  have nX := fun W => neq_fl FX FX lX lX W
  have nB := fun W => neq_fl FB FB lB lB W
  have nC := fun W => neq_fl FC FC lC lC W
  have nS := fun W => neq_fl S S lS lS W
  rw [decide_eq_true rfl, Bool.not_true] at nP nX nB nC nS
  go_wp2_with (refine store_stop rfl 38 _ _ rfl _ rfl rfl X11 info_fl (by rw [u8s_length]; exact lC) (by rw [u8s_length]; exact zero24_length) (u8s_one _) ?_)
  refine As.mk ?_
  generalize (u11.alloc (.cells #[.int .u8 0, .int .u8 0, .int .u8 0, .int .u8 0, .int .u8 0, .int .u8 0, .int .u8 0, .int .u8 0, .int .u8 0, .int .u8 0, .int .u8 0, .int .u8 0, .int .u8 0, .int .u8 0, .int .u8 0, .int .u8 0, .int .u8 0, .int .u8 0, .int .u8 0, .int .u8 0, .int .u8 0, .int .u8 0, .int .u8 0, .int .u8 0] 38)).setRow u11.heap.size (u8s FC).toArray = v11 at *
  generalize u11.heap.size = L11 at *
  clear X11
  refine stepV (.int .i64 0) (by kernel_rfl) (by rfl) ?_
  refine wpList_nil ?_
  rename_i K hK
  refine hK _ _ ?_
  clear hK
  simp only [List.append]
  have hgd := guard_fl
  go_wp2_with (first | (refine load_blk (by kernel_rfl) 38 _ rfl _ rfl D1 Try.underlying38 rfl info_fl (by rw [u8s_length]; exact lP) ?_) | (refine load_blk (by kernel_rfl) 38 _ rfl _ rfl D2 Try.underlying38 rfl info_fl (by rw [u8s_length]; exact lX) ?_) | (refine load_blk (by kernel_rfl) 38 _ rfl _ rfl D3 Try.underlying38 rfl info_fl (by rw [u8s_length]; exact lB) ?_) | (refine load_blk (by kernel_rfl) 38 _ rfl _ rfl D4 Try.underlying38 rfl info_fl (by rw [u8s_length]; exact lC) ?_) | (refine load_blk (by kernel_rfl) 38 _ rfl _ rfl D5 Try.underlying38 rfl info_fl (by rw [u8s_length]; exact lD) ?_) | (refine load_blk (by kernel_rfl) 38 _ rfl _ rfl D6 Try.underlying38 rfl info_fl (by rw [u8s_length]; exact lS) ?_) | (refine load_blk (by kernel_rfl) 38 _ rfl _ rfl D7 Try.underlying38 rfl info_fl (by rw [u8s_length]; exact lS) ?_) | (refine load_blk (by kernel_rfl) 38 _ rfl _ rfl D8 Try.underlying38 rfl info_fl (by rw [u8s_length]; exact lP) ?_) | (refine load_blk (by kernel_rfl) 38 _ rfl _ rfl D9 Try.underlying38 rfl info_fl (by rw [u8s_length]; exact lX) ?_) | (refine load_blk (by kernel_rfl) 38 _ rfl _ rfl D10 Try.underlying38 rfl info_fl (by rw [u8s_length]; exact lB) ?_) | (refine load_blk (by kernel_rfl) 38 _ rfl _ rfl D11 Try.underlying38 rfl info_fl (by rw [u8s_length]; exact lC) ?_) | (refine build_step rfl FP FX FB lP lX lB _ _ _ rfl rfl rfl rfl ?_))
  have hq := bl_new (Below.refl _ v11) (.cells (u8s FP ++ (u8s FX ++ u8s FB)).toArray 38)
  have LB : Blk (v11.alloc (.cells (u8s FP ++ (u8s FX ++ u8s FB)).toArray 38)) v11.heap.size (u8s FP ++ (u8s FX ++ u8s FB)) 38 := Blk.mk _ _ _ rfl
  replace q2 := bl_call q2 hq
  replace D5 := D5.kept hq
  replace D7 := D7.kept hq
  replace D11 := D11.kept hq
  clear D1 D2 D3 D4 D6 D8 D9 D10 hq nP nX nB nC nS
  generalize v11.alloc (.cells (u8s FP ++ (u8s FX ++ u8s FB)).toArray 38) = W0 at *
  generalize v11.heap.size = LL at *
  have hEl : ∀ k : Nat, k < 3 → ∃ E : List Int, Still E ∧ ∀ W, Blk W LL (u8s FP ++ (u8s FX ++ u8s FB)) 38 → W.rangeAt LL (k * 24) (u8s E) := by
    intro k hk
    have h1 := u8s_length FP
    have h2 := u8s_length FX
    rw [lP] at h1
    rw [lX] at h2
    have hcut : ∀ (pre mid suf : List Value) W, Blk W LL (pre ++ (mid ++ suf)) 38 → W.rangeAt LL pre.length mid := fun pre mid suf W hB j v hv => by
      rw [hB.at, List.getElem?_append_right (by omega), Nat.add_sub_cancel_left, List.getElem?_append_left (List.getElem?_eq_some_iff.1 hv).1]
      exact hv
    rcases (show k = 0 ∨ k = 1 ∨ k = 2 by omega) with rfl | rfl | rfl
    · exact ⟨FP, fP, fun W hB => by have := hcut [] (u8s FP) (u8s FX ++ u8s FB) W hB; simpa using this⟩
    · exact ⟨FX, fX, fun W hB => by have := hcut (u8s FP) (u8s FX) (u8s FB) W hB; rw [h1] at this; exact this⟩
    · exact ⟨FB, fB, fun W hB => by
        have hB' : Blk W LL ((u8s FP ++ u8s FX) ++ (u8s FB ++ [])) 38 := by rw [List.append_nil, List.append_assoc]; exact hB
        have := hcut (u8s FP ++ u8s FX) (u8s FB) [] W hB'
        rw [List.length_append, h1, h2] at this; exact this⟩
  go_loopw [30] (fun i wr => ∃ k : Nat, k ≤ 3 ∧ i = .int .i64 k ∧ Below W0.heap.size W0 wr) (fun i _ => 4 - (intOf i).toNat)
  case atStart => exact ⟨0, by omega, rfl, Below.refl _ _⟩
  case round =>
    obtain ⟨k, hk, rfl, hbr⟩ := hrel
    have hk' : (k : Int) ≤ 3 := by omega
    by_cases hlt : k < 3
    · have hlt' : (k : Int) < 3 := by omega
      obtain ⟨E, sE, hE⟩ := hEl k hlt
      have R0 := hE wr (LB.kept hbr)
      have lE := sE.len
      have kMe := fun W => kM E sE W
      have kTe := fun W => kT E sE W
      rw [sE.ok, sE.mir] at kMe
      rw [sE.ok, sE.turn] at kTe
      simp only [okF, codeV, if_true] at kMe kTe
      have hiE : (Try.prog.info? 38).map (·.size) = some (u8s E).length := by rw [u8s_length, lE]; exact info_fl
      have nE : ∀ W, (binOp .neq 38 (.agg (u8s E).toArray) (.agg (u8s E).toArray)).run Try.prog W = .ok (.bool false) W := fun W => by
        have := neq_fl E E lE lE W
        rw [decide_eq_true rfl, Bool.not_true] at this; exact this
      go_wp2_with (refine wpList_load_mid rfl 38 _ rfl _ _ rfl _ _ R0 Try.underlying38 rfl hiE ?_)
      refine (kMe _).mono ?_; rintro e m1 ⟨rfl, hb⟩
      have Y1 : Blk (m1.alloc (.cells #[.int .u8 0, .int .u8 0, .int .u8 0, .int .u8 0, .int .u8 0, .int .u8 0, .int .u8 0, .int .u8 0, .int .u8 0, .int .u8 0, .int .u8 0, .int .u8 0, .int .u8 0, .int .u8 0, .int .u8 0, .int .u8 0, .int .u8 0, .int .u8 0, .int .u8 0, .int .u8 0, .int .u8 0, .int .u8 0, .int .u8 0, .int .u8 0] 38)) m1.heap.size (u8s zero24) 38 := Blk.mk _ (u8s zero24) _ rfl
      have M1 := Y1.setRow (u8s E)
      have hq1 : Below m1.heap.size m1 ((m1.alloc (.cells #[.int .u8 0, .int .u8 0, .int .u8 0, .int .u8 0, .int .u8 0, .int .u8 0, .int .u8 0, .int .u8 0, .int .u8 0, .int .u8 0, .int .u8 0, .int .u8 0, .int .u8 0, .int .u8 0, .int .u8 0, .int .u8 0, .int .u8 0, .int .u8 0, .int .u8 0, .int .u8 0, .int .u8 0, .int .u8 0, .int .u8 0, .int .u8 0] 38)).setRow m1.heap.size (u8s E).toArray) := bl_setRow (bl_new (Below.refl _ _) _) (Nat.le_refl _) _
      replace hbr := bl_call (bl_call hbr hb) hq1
      have R1 := hE _ (LB.kept hbr)
      clear hb hq1 R0
      go_wp2_with (first | (refine store_blk rfl 38 _ _ rfl _ rfl rfl Y1 info_fl (by rw [u8s_length]; exact lE) (by rw [u8s_length]; exact zero24_length) (u8s_one _) ?_) | (refine wpList_load_mid rfl 38 _ rfl _ _ rfl _ _ R1 Try.underlying38 rfl hiE ?_))
      clear Y1 R1
      generalize (m1.alloc (.cells #[.int .u8 0, .int .u8 0, .int .u8 0, .int .u8 0, .int .u8 0, .int .u8 0, .int .u8 0, .int .u8 0, .int .u8 0, .int .u8 0, .int .u8 0, .int .u8 0, .int .u8 0, .int .u8 0, .int .u8 0, .int .u8 0, .int .u8 0, .int .u8 0, .int .u8 0, .int .u8 0, .int .u8 0, .int .u8 0, .int .u8 0, .int .u8 0] 38)).setRow m1.heap.size (u8s E).toArray = n1 at *
      generalize m1.heap.size = P1 at *
      refine (kTe _).mono ?_; rintro e m2 ⟨rfl, hb⟩
      have Y2 : Blk (m2.alloc (.cells #[.int .u8 0, .int .u8 0, .int .u8 0, .int .u8 0, .int .u8 0, .int .u8 0, .int .u8 0, .int .u8 0, .int .u8 0, .int .u8 0, .int .u8 0, .int .u8 0, .int .u8 0, .int .u8 0, .int .u8 0, .int .u8 0, .int .u8 0, .int .u8 0, .int .u8 0, .int .u8 0, .int .u8 0, .int .u8 0, .int .u8 0, .int .u8 0] 38)) m2.heap.size (u8s zero24) 38 := Blk.mk _ (u8s zero24) _ rfl
      have M2 := Y2.setRow (u8s E)
      have hq1 : Below m2.heap.size m2 ((m2.alloc (.cells #[.int .u8 0, .int .u8 0, .int .u8 0, .int .u8 0, .int .u8 0, .int .u8 0, .int .u8 0, .int .u8 0, .int .u8 0, .int .u8 0, .int .u8 0, .int .u8 0, .int .u8 0, .int .u8 0, .int .u8 0, .int .u8 0, .int .u8 0, .int .u8 0, .int .u8 0, .int .u8 0, .int .u8 0, .int .u8 0, .int .u8 0, .int .u8 0] 38)).setRow m2.heap.size (u8s E).toArray) := bl_setRow (bl_new (Below.refl _ _) _) (Nat.le_refl _) _
      replace hbr := bl_call (bl_call hbr hb) hq1
      replace M1 := (M1.kept hb).kept hq1
      clear hb hq1
      go_wp2_with (refine store_blk rfl 38 _ _ rfl _ rfl rfl Y2 info_fl (by rw [u8s_length]; exact lE) (by rw [u8s_length]; exact zero24_length) (u8s_one _) ?_)
      clear Y2
      generalize (m2.alloc (.cells #[.int .u8 0, .int .u8 0, .int .u8 0, .int .u8 0, .int .u8 0, .int .u8 0, .int .u8 0, .int .u8 0, .int .u8 0, .int .u8 0, .int .u8 0, .int .u8 0, .int .u8 0, .int .u8 0, .int .u8 0, .int .u8 0, .int .u8 0, .int .u8 0, .int .u8 0, .int .u8 0, .int .u8 0, .int .u8 0, .int .u8 0, .int .u8 0] 38)).setRow m2.heap.size (u8s E).toArray = n2 at *
      generalize m2.heap.size = P2 at *
      have M1d : Blk n2.drew P1 (u8s E) 38 := M1
      have M2d : Blk n2.drew P2 (u8s E) 38 := M2
      have Ld : Blk n2.drew LL (u8s FP ++ (u8s FX ++ u8s FB)) 38 := LB.kept hbr.drew
      have hbd : Below W0.heap.size W0 n2.drew := hbr.drew
      clear M1 M2 hbr
      refine wp_region_held_drew (S := (Below n2.drew.heap.size n2.drew)) (by kernel_rfl) (Below.refl n2.drew.heap.size n2.drew) (fun hHeld => ?_)
      (refine hTake 0 216 (v := .int .i64 0) rfl rfl (by kernel_rfl) (by kernel_rfl) (by kernel_rfl) (fun _ _ _ h => h) (Or.inl ⟨by rfl, fun W h => by go_simp⟩) hHeld ?_; simp only [List.set_cons_zero, List.set_cons_succ])
      (refine hTake 1 217 (v := .bool false) rfl rfl (by kernel_rfl) (by kernel_rfl) (by kernel_rfl) (fun _ _ _ h => h) (Or.inl ⟨by rfl, fun W h => by go_simp⟩) hHeld ?_; simp only [List.set_cons_zero, List.set_cons_succ])
      (refine hTake 2 218 (v := .bool false) rfl rfl (by kernel_rfl) (by kernel_rfl) (by kernel_rfl) (fun _ _ _ h => h) (Or.inl ⟨by rfl, fun W h => by go_simp⟩) hHeld ?_; simp only [List.set_cons_zero, List.set_cons_succ])
      (refine hTake 3 219 rfl rfl (by kernel_rfl) (by kernel_rfl) (by kernel_rfl) (fun _ _ _ h => h) (yieldsIf_load_mid (by rfl) _ _ rfl _ _ rfl (u8s E) _ (fun W h => (M1d.kept h).range) Try.underlying38 rfl hiE) hHeld ?_; simp only [List.set_cons_zero, List.set_cons_succ])
      (refine hTake 4 220 (v := .slice (some ⟨LL, 0, none⟩) 3 3) rfl rfl (by kernel_rfl) (by kernel_rfl) (by kernel_rfl) (fun _ _ _ h => h) (Or.inl ⟨by rfl, fun W h => by go_simp⟩) hHeld ?_; simp only [List.set_cons_zero, List.set_cons_succ])
      (refine hTake 5 221 (v := .int .i64 k) rfl rfl (by kernel_rfl) (by kernel_rfl) (by kernel_rfl) (fun _ _ _ h => h) (Or.inl ⟨by rfl, fun W h => by go_simp⟩) hHeld ?_; simp only [List.set_cons_zero, List.set_cons_succ])
      (refine hTake 6 222 (v := .pointer (some ⟨LL, k * 24, none⟩)) rfl rfl (by kernel_rfl) (by kernel_rfl) (by kernel_rfl) (fun _ _ _ h => h) (Or.inl ⟨by rfl, fun W h => by go_simp⟩) hHeld ?_; simp only [List.set_cons_zero, List.set_cons_succ])
      (refine hTake 7 223 rfl rfl (by kernel_rfl) (by kernel_rfl) (by kernel_rfl) (fun _ _ _ h => h) (yieldsIf_load_mid (by rfl) _ _ rfl _ _ rfl (u8s E) _ (fun W h => hE _ (Ld.kept h)) Try.underlying38 rfl hiE) hHeld ?_; simp only [List.set_cons_zero, List.set_cons_succ])
      (refine hTake 8 224 (v := .bool false) rfl rfl (by kernel_rfl) (by kernel_rfl) (by kernel_rfl) (fun _ _ _ h => h) (Or.inl ⟨by rfl, fun W h => by (have h1 := nE; go_simp)⟩) hHeld ?_; simp only [List.set_cons_zero, List.set_cons_succ])
      (refine hTake 9 225 (v := .bool false) rfl rfl (by kernel_rfl) (by kernel_rfl) (by kernel_rfl) (fun _ _ _ h => h) (Or.inl ⟨by rfl, fun W h => by go_simp⟩) hHeld ?_; simp only [List.set_cons_zero, List.set_cons_succ])
      (refine hTake 10 226 (v := .bool false) rfl rfl (by kernel_rfl) (by kernel_rfl) (by kernel_rfl) (fun _ _ _ h => h) (Or.inl ⟨by rfl, fun W h => by go_simp⟩) hHeld ?_; simp only [List.set_cons_zero, List.set_cons_succ])
      (refine hTake 11 227 (v := .int .i64 0) rfl rfl (by kernel_rfl) (by kernel_rfl) (by kernel_rfl) (fun _ _ _ h => h) (Or.inl ⟨by rfl, fun W h => by go_simp⟩) hHeld ?_; simp only [List.set_cons_zero, List.set_cons_succ])
      (refine hTake 12 228 (v := .bool false) rfl rfl (by kernel_rfl) (by kernel_rfl) (by kernel_rfl) (fun _ _ _ h => h) (Or.inl ⟨by rfl, fun W h => by go_simp⟩) hHeld ?_; simp only [List.set_cons_zero, List.set_cons_succ])
      (refine hTake 13 229 (v := .bool false) rfl rfl (by kernel_rfl) (by kernel_rfl) (by kernel_rfl) (fun _ _ _ h => h) (Or.inl ⟨by rfl, fun W h => by go_simp⟩) hHeld ?_; simp only [List.set_cons_zero, List.set_cons_succ])
      (refine hTake 14 230 (v := .bool false) rfl rfl (by kernel_rfl) (by kernel_rfl) (by kernel_rfl) (fun _ _ _ h => h) (Or.inl ⟨by rfl, fun W h => by go_simp⟩) hHeld ?_; simp only [List.set_cons_zero, List.set_cons_succ])
      (refine hTake 15 231 rfl rfl (by kernel_rfl) (by kernel_rfl) (by kernel_rfl) (fun _ _ _ h => h) (yieldsIf_load_mid (by rfl) _ _ rfl _ _ rfl (u8s E) _ (fun W h => (M2d.kept h).range) Try.underlying38 rfl hiE) hHeld ?_; simp only [List.set_cons_zero, List.set_cons_succ])
      (refine hTake 16 232 (v := .slice (some ⟨LL, 0, none⟩) 3 3) rfl rfl (by kernel_rfl) (by kernel_rfl) (by kernel_rfl) (fun _ _ _ h => h) (Or.inl ⟨by rfl, fun W h => by go_simp⟩) hHeld ?_; simp only [List.set_cons_zero, List.set_cons_succ])
      (refine hTake 17 233 (v := .int .i64 k) rfl rfl (by kernel_rfl) (by kernel_rfl) (by kernel_rfl) (fun _ _ _ h => h) (Or.inl ⟨by rfl, fun W h => by go_simp⟩) hHeld ?_; simp only [List.set_cons_zero, List.set_cons_succ])
      (refine hTake 18 234 (v := .pointer (some ⟨LL, k * 24, none⟩)) rfl rfl (by kernel_rfl) (by kernel_rfl) (by kernel_rfl) (fun _ _ _ h => h) (Or.inl ⟨by rfl, fun W h => by go_simp⟩) hHeld ?_; simp only [List.set_cons_zero, List.set_cons_succ])
      (refine hTake 19 235 rfl rfl (by kernel_rfl) (by kernel_rfl) (by kernel_rfl) (fun _ _ _ h => h) (yieldsIf_load_mid (by rfl) _ _ rfl _ _ rfl (u8s E) _ (fun W h => hE _ (Ld.kept h)) Try.underlying38 rfl hiE) hHeld ?_; simp only [List.set_cons_zero, List.set_cons_succ])
      (refine hTake 20 236 (v := .bool false) rfl rfl (by kernel_rfl) (by kernel_rfl) (by kernel_rfl) (fun _ _ _ h => h) (Or.inl ⟨by rfl, fun W h => by (have h1 := nE; go_simp)⟩) hHeld ?_; simp only [List.set_cons_zero, List.set_cons_succ])
      (refine hTake 21 237 (v := .bool false) rfl rfl (by kernel_rfl) (by kernel_rfl) (by kernel_rfl) (fun _ _ _ h => h) (Or.inl ⟨by rfl, fun W h => by go_simp⟩) hHeld ?_; simp only [List.set_cons_zero, List.set_cons_succ])
      refine wpAnyH_done (by kernel_rfl) ?_ _
      clear M1d M2d Ld
      generalize n2.drew = n3 at *
      go_wp2_with (fail)
      go_roundw
      case rel => exact ⟨k + 1, by omega, by go_num, hbd⟩
      case measure => simp [intOf]; omega
    · obtain rfl : k = 3 := by omega
      have E5 := D5.kept hbr
      have E7 := D7.kept hbr
      have E11 := D11.kept hbr
      replace q2 := bl_call q2 hbr
      clear D5 D7 D11 LB hEl kM kT hbr fP fX fB
      obtain ⟨an, rfl⟩ : ∃ an : Nat, a = (an : Int) := ⟨a.toNat, by omega⟩
      obtain ⟨bn, rfl⟩ : ∃ bn : Nat, b = (bn : Int) := ⟨b.toNat, by omega⟩
      rw [Int.toNat_natCast] at hna hnb
      go_wp2_with (refine load_blk rfl 38 _ rfl _ rfl E11 Try.underlying38 rfl info_fl (by rw [u8s_length]; exact lC) ?_)
      refine (kCm _).mono ?_; rintro e y1 ⟨rfl, hb⟩
      have YE35 : Blk (y1.alloc (.cells #[.int .u8 0, .int .u8 0, .int .u8 0, .int .u8 0, .int .u8 0, .int .u8 0, .int .u8 0, .int .u8 0, .int .u8 0, .int .u8 0, .int .u8 0, .int .u8 0, .int .u8 0, .int .u8 0, .int .u8 0, .int .u8 0, .int .u8 0, .int .u8 0, .int .u8 0, .int .u8 0, .int .u8 0, .int .u8 0, .int .u8 0, .int .u8 0] 38)) y1.heap.size (u8s zero24) 38 := Blk.mk _ (u8s zero24) _ rfl
      have E35 := YE35.setRow (u8s FD)
      have hq1 : Below y1.heap.size y1 ((y1.alloc (.cells #[.int .u8 0, .int .u8 0, .int .u8 0, .int .u8 0, .int .u8 0, .int .u8 0, .int .u8 0, .int .u8 0, .int .u8 0, .int .u8 0, .int .u8 0, .int .u8 0, .int .u8 0, .int .u8 0, .int .u8 0, .int .u8 0, .int .u8 0, .int .u8 0, .int .u8 0, .int .u8 0, .int .u8 0, .int .u8 0, .int .u8 0, .int .u8 0] 38)).setRow y1.heap.size (u8s FD).toArray) := bl_setRow (bl_new (Below.refl _ _) _) (Nat.le_refl _) _
      replace q2 := bl_call (bl_call q2 hb) hq1
      replace E5 := (E5.kept hb).kept hq1
      replace E7 := (E7.kept hb).kept hq1
      replace E11 := (E11.kept hb).kept hq1
      clear hb hq1
      go_wp2_with (first | (refine store_blk rfl 38 _ _ rfl _ rfl rfl YE35 info_fl (by rw [u8s_length]; exact lD) (by rw [u8s_length]; exact zero24_length) (u8s_one _) ?_) | (refine load_blk rfl 38 _ rfl _ rfl E11 Try.underlying38 rfl info_fl (by rw [u8s_length]; exact lC) ?_))
      clear YE35
      generalize (y1.alloc (.cells #[.int .u8 0, .int .u8 0, .int .u8 0, .int .u8 0, .int .u8 0, .int .u8 0, .int .u8 0, .int .u8 0, .int .u8 0, .int .u8 0, .int .u8 0, .int .u8 0, .int .u8 0, .int .u8 0, .int .u8 0, .int .u8 0, .int .u8 0, .int .u8 0, .int .u8 0, .int .u8 0, .int .u8 0, .int .u8 0, .int .u8 0, .int .u8 0] 38)).setRow y1.heap.size (u8s FD).toArray = y1' at *
      generalize y1.heap.size = Py1 at *
      refine (kCt _).mono ?_; rintro e y2 ⟨rfl, hb⟩
      have YE37 : Blk (y2.alloc (.cells #[.int .u8 0, .int .u8 0, .int .u8 0, .int .u8 0, .int .u8 0, .int .u8 0, .int .u8 0, .int .u8 0, .int .u8 0, .int .u8 0, .int .u8 0, .int .u8 0, .int .u8 0, .int .u8 0, .int .u8 0, .int .u8 0, .int .u8 0, .int .u8 0, .int .u8 0, .int .u8 0, .int .u8 0, .int .u8 0, .int .u8 0, .int .u8 0] 38)) y2.heap.size (u8s zero24) 38 := Blk.mk _ (u8s zero24) _ rfl
      have E37 := YE37.setRow (u8s FC)
      have hq1 : Below y2.heap.size y2 ((y2.alloc (.cells #[.int .u8 0, .int .u8 0, .int .u8 0, .int .u8 0, .int .u8 0, .int .u8 0, .int .u8 0, .int .u8 0, .int .u8 0, .int .u8 0, .int .u8 0, .int .u8 0, .int .u8 0, .int .u8 0, .int .u8 0, .int .u8 0, .int .u8 0, .int .u8 0, .int .u8 0, .int .u8 0, .int .u8 0, .int .u8 0, .int .u8 0, .int .u8 0] 38)).setRow y2.heap.size (u8s FC).toArray) := bl_setRow (bl_new (Below.refl _ _) _) (Nat.le_refl _) _
      replace q2 := bl_call (bl_call q2 hb) hq1
      replace E5 := (E5.kept hb).kept hq1
      replace E7 := (E7.kept hb).kept hq1
      replace E11 := (E11.kept hb).kept hq1
      replace E35 := (E35.kept hb).kept hq1
      clear hb hq1
      go_wp2_with (first | (refine store_blk rfl 38 _ _ rfl _ rfl rfl YE37 info_fl (by rw [u8s_length]; exact lC) (by rw [u8s_length]; exact zero24_length) (u8s_one _) ?_) | (refine load_blk rfl 38 _ rfl _ rfl E7 Try.underlying38 rfl info_fl (by rw [u8s_length]; exact lS) ?_))
      clear YE37
      generalize (y2.alloc (.cells #[.int .u8 0, .int .u8 0, .int .u8 0, .int .u8 0, .int .u8 0, .int .u8 0, .int .u8 0, .int .u8 0, .int .u8 0, .int .u8 0, .int .u8 0, .int .u8 0, .int .u8 0, .int .u8 0, .int .u8 0, .int .u8 0, .int .u8 0, .int .u8 0, .int .u8 0, .int .u8 0, .int .u8 0, .int .u8 0, .int .u8 0, .int .u8 0] 38)).setRow y2.heap.size (u8s FC).toArray = y2' at *
      generalize y2.heap.size = Py2 at *
      refine (kn6 _).mono ?_; rintro e y3 ⟨rfl, hb⟩
      have YN : Blk (y3.alloc (.cells #[.int .i64 0, .int .i64 0, .int .i64 0, .int .i64 0, .int .i64 0, .int .i64 0] 44)) y3.heap.size (i64s zero6) 44 := Blk.mk _ (i64s zero6) _ rfl
      have EN := YN.setRow (i64s N)
      have hq1 : Below y3.heap.size y3 ((y3.alloc (.cells #[.int .i64 0, .int .i64 0, .int .i64 0, .int .i64 0, .int .i64 0, .int .i64 0] 44)).setRow y3.heap.size (i64s N).toArray) := bl_setRow (bl_new (Below.refl _ _) _) (Nat.le_refl _) _
      replace q2 := bl_call (bl_call q2 hb) hq1
      replace E5 := (E5.kept hb).kept hq1
      replace E11 := (E11.kept hb).kept hq1
      replace E35 := (E35.kept hb).kept hq1
      replace E37 := (E37.kept hb).kept hq1
      clear hb hq1 E7
      have ca := EN.at an
      have cb := EN.at bn
      have hga : (i64s N)[an]? = some (.int .i64 (nth N an)) := i64s_get N an (by omega)
      have hgb : (i64s N)[bn]? = some (.int .i64 (nth N bn)) := i64s_get N bn (by omega)
      rw [hga] at ca
      rw [hgb] at cb
      have eC := fun W => eql_fl FC FC lC lC W
      have eD := fun W => eql_fl FD FD lD lD W
      rw [decide_eq_true rfl] at eC eD
      have an6 : an < 6 := by omega
      have bn6 : bn < 6 := by omega
      clear hga hgb kCm kCt kn6
      by_cases hab : (an : Int) = (bn : Int)
      all_goals
        first | rw [if_pos hab] at hna hnb | rw [if_neg hab] at hna hnb
        rw [hna] at ca
        rw [hnb] at cb
        clear hna hnb
        go_wp2_with (refine store_stop rfl 44 _ _ rfl _ rfl (ds := i64s N) rfl YN info_6 (by rw [i64s_length]; exact hnl) (by rw [i64s_length]; rfl) (i64s_one _) ?_)
        refine As.mk ?_
        generalize (y3.alloc (.cells #[.int .i64 0, .int .i64 0, .int .i64 0, .int .i64 0, .int .i64 0, .int .i64 0] 44)).setRow y3.heap.size (i64s N).toArray = y4 at *
        generalize y3.heap.size = PN at *
        clear YN
        first | rw [hab] at kn tn | skip
        go_wp2_with (first | (refine load_blk (by kernel_rfl) 38 _ rfl _ rfl E35 Try.underlying38 rfl info_fl (by rw [u8s_length]; exact lD) ?_) | (refine load_blk (by kernel_rfl) 38 _ rfl _ rfl E5 Try.underlying38 rfl info_fl (by rw [u8s_length]; exact lD) ?_) | (refine load_blk (by kernel_rfl) 38 _ rfl _ rfl E37 Try.underlying38 rfl info_fl (by rw [u8s_length]; exact lC) ?_) | (refine load_blk (by kernel_rfl) 38 _ rfl _ rfl E11 Try.underlying38 rfl info_fl (by rw [u8s_length]; exact lC) ?_))
        refine (kn _).mono ?_; rintro e z1 ⟨rfl, hz1⟩
        go_wp2_with (fail)
        refine (tn _).mono ?_; rintro e z2 ⟨rfl, hz2⟩
        go_wp2_with (fail)
        go_ret
        exact ⟨by simp, bl_call (bl_call q2 hz1) hz2⟩
end Go.Proofs.Ytjppoejkfpeicaa
