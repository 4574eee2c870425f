/- Contracts: LooksLike, both sides. -/
import Derived.Test.YtbekebjmnccbkaaG16
import Derived.Test.YtbekebjmnccbkaaF12
set_option linter.unusedVariables false
set_option linter.unusedSimpArgs false
namespace Go.Proofs.Ytbekebjmnccbkaa
open Go.RowKit

section
variable {P : Program} {ops : Array Oper} {Q : Exit → Act → World → Prop} {S : World → Prop} {listed : Array Bool} {ts : List Value} {ds : List Deferred} {w : World} {fuel : Nat}
/-- The one operation that may come up is not wanted. -/
theorem hSkip (i d : Nat) {oi : Oper} (hi : ops[i]? = some oi) (hd : oi.dst = some d) (hr : Region.ready .any ops listed = [i])
    (hw : Region.wanted oi (yielded ops ts.toArray) = false) (hS : S w)
    (h : wpAnyH P .any ops Q S fuel (listed.setIfInBounds i true) ⟨(ts.set d undef).toArray, ds⟩ w) : wpAnyH P .any ops Q S (fuel + 1) listed ⟨ts.toArray, ds⟩ w := by
  refine wpAnyH_ready (rs := [i]) hr (by simp) (AllReadyH.cons hi (fun K hK => ?_) AllReadyH.nil)
  rw [if_neg (by rw [hw]; simp)]
  refine hK.out _ _ hS (fun _ => ?_)
  rw [hd]
  simpa [Act.put] using h
end

theorem vf_mirror {xs : List Int} (hx : xs.length = 24) (h : vf xs = true) : vf (mirrorL xs) = true := by
  unfold vf; rw [List.all_eq_true]
  intro x hx'
  obtain ⟨i, hi, rfl⟩ := List.mem_map.1 hx'
  rw [List.mem_range] at hi
  rw [decide_eq_true_eq]
  show mirF xs i ≤ 5
  exact vf_nth h _ (by omega)
theorem bytes_mirror {xs : List Int} (h : Bytes xs) : Bytes (mirrorL xs) := by
  intro x hx'
  obtain ⟨i, hi, rfl⟩ := List.mem_map.1 hx'
  exact h.nth _

/-- In how many blocks two flags differ from afar. -/
def farD (xs ys : List Int) : Int := diffs (blurL xs) (blurL ys) 6
def looksB (xs ys : List Int) (bt : Bool) : Bool := (vf xs && vf ys) && (farD xs ys == 0 || bt && farD (mirrorL xs) ys == 0)
theorem ret_b2 {a b : Bool} {n m : Int} (h : a = b) (h' : n = m) : Ending.returned (.tuple #[.bool a, .int .i64 n]) = .returned (.tuple #[.bool b, .int .i64 m]) := by rw [h, h']

set_option maxHeartbeats 1000000 in
theorem sLooksLike_any (xs ys : List Int) (hx : xs.length = 24) (hy : ys.length = 24) (rx : Bytes xs) (ry : Bytes ys) (bt : Bool) (w : World) :
    Calls Try.prog 38 #[fl xs, fl ys, .bool bt] w fun e w' => e = .returned (.tuple #[.bool (looksB xs ys bt), .int .i64 (codeV (vf xs && vf ys))]) ∧ Below w.heap.size w w' := by
  unfold fl
  have B0 : Blk ((w.alloc (.cells (u8s xs).toArray 23)).alloc (.cells (u8s ys).toArray 23)) w.heap.size (u8s xs) 23 := (Blk.new _ _ _).alloc _
  have B1 : Blk ((w.alloc (.cells (u8s xs).toArray 23)).alloc (.cells (u8s ys).toArray 23)) (w.heap.size + 1) (u8s ys) 23 := Blk.mk _ _ _ (by simp)
  have b0 := bl_new (bl_new (Below.refl _ w) (.cells (u8s xs).toArray 23)) (.cells (u8s ys).toArray 23)
  have hN := As.mk (show looksB xs ys bt = ((vf xs && vf ys) && (farD xs ys == 0 || bt && farD (mirrorL xs) ys == 0)) from rfl)
  cases h1 : vf xs
  · go_enter Try.func38, Try.ntmps38
    go_wp2_with (go_at_call 48; refine (l01Ok_any xs hx _ 0 _ B0.range).mono ?_; rintro e w' ⟨rfl, rfl⟩)
    go_ret2
    exact ⟨ret_b2 (by rw [hN.out, h1]; rfl) rfl, b0⟩
  · cases h2 : vf ys
    · go_enter Try.func38, Try.ntmps38
      go_wp2_with (first | (go_at_call_of 48 (Value.pointer (some ⟨w.heap.size, 0, none⟩)); refine (l01Ok_any xs hx _ 0 _ B0.range).mono ?_; rintro e w' ⟨rfl, rfl⟩) | (go_at_call 48; refine (l01Ok_any ys hy _ 0 _ B1.range).mono ?_; rintro e w' ⟨rfl, rfl⟩))
      go_ret2
      exact ⟨ret_b2 (by rw [hN.out, h1, h2]; rfl) rfl, b0⟩
    · have hm := mirrorL_length xs
      have k1 := fun b o b' o' W h h' => l01Far_any xs ys hx hy rx ry h1 h2 b o b' o' W h h'
      have k2 := fun b o b' o' W h h' => l01Far_any (mirrorL xs) ys hm hy (bytes_mirror rx) ry (vf_mirror hx h1) h2 b o b' o' W h h'
      rw [show diffs (blurL xs) (blurL ys) 6 = farD xs ys from rfl] at k1
      rw [show diffs (blurL (mirrorL xs)) (blurL ys) 6 = farD (mirrorL xs) ys from rfl] at k2
      have hN2 : looksB xs ys bt = (farD xs ys == 0 || bt && farD (mirrorL xs) ys == 0) := by rw [hN.out, h1, h2]; rfl
      rw [hN2]
      clear hN hN2
      generalize farD xs ys = d1 at *
      generalize farD (mirrorL xs) ys = d2 at *
      cases hd1 : (d1 == 0)
      · cases bt
        · go_enter Try.func38, Try.ntmps38
          go_wp2_with (first | (go_at_call_of 48 (Value.pointer (some ⟨w.heap.size, 0, none⟩)); refine (l01Ok_any xs hx _ 0 _ B0.range).mono ?_; rintro e w' ⟨rfl, rfl⟩) | (go_at_call 48; refine (l01Ok_any ys hy _ 0 _ B1.range).mono ?_; rintro e w' ⟨rfl, rfl⟩))
          refine (l01Mirror_any xs hx _ 0 _ B0.range).mono ?_; rintro e w1 ⟨rfl, hb1⟩
          have C1 : Blk (w1.alloc (.cells #[.int .u8 0, .int .u8 0, .int .u8 0, .int .u8 0, .int .u8 0, .int .u8 0, .int .u8 0, .int .u8 0, .int .u8 0, .int .u8 0, .int .u8 0, .int .u8 0, .int .u8 0, .int .u8 0, .int .u8 0, .int .u8 0, .int .u8 0, .int .u8 0, .int .u8 0, .int .u8 0, .int .u8 0, .int .u8 0, .int .u8 0, .int .u8 0] 23)) w1.heap.size (u8s zero24) 23 := Blk.mk _ (u8s zero24) _ rfl
          have X0 := B0.kept hb1
          have X1 := B1.kept hb1
          have Y0 := (X0.alloc (.cells #[.int .u8 0, .int .u8 0, .int .u8 0, .int .u8 0, .int .u8 0, .int .u8 0, .int .u8 0, .int .u8 0, .int .u8 0, .int .u8 0, .int .u8 0, .int .u8 0, .int .u8 0, .int .u8 0, .int .u8 0, .int .u8 0, .int .u8 0, .int .u8 0, .int .u8 0, .int .u8 0, .int .u8 0, .int .u8 0, .int .u8 0, .int .u8 0] 23)).farRow (Nat.ne_of_lt X0.lt) (u8s (mirrorL xs)).toArray
          have Y1 := (X1.alloc (.cells #[.int .u8 0, .int .u8 0, .int .u8 0, .int .u8 0, .int .u8 0, .int .u8 0, .int .u8 0, .int .u8 0, .int .u8 0, .int .u8 0, .int .u8 0, .int .u8 0, .int .u8 0, .int .u8 0, .int .u8 0, .int .u8 0, .int .u8 0, .int .u8 0, .int .u8 0, .int .u8 0, .int .u8 0, .int .u8 0, .int .u8 0, .int .u8 0] 23)).farRow (Nat.ne_of_lt X1.lt) (u8s (mirrorL xs)).toArray
          have b1 := bl_call b0 hb1
          have b2 := bl_setRow (bl_new b1 (.cells #[.int .u8 0, .int .u8 0, .int .u8 0, .int .u8 0, .int .u8 0, .int .u8 0, .int .u8 0, .int .u8 0, .int .u8 0, .int .u8 0, .int .u8 0, .int .u8 0, .int .u8 0, .int .u8 0, .int .u8 0, .int .u8 0, .int .u8 0, .int .u8 0, .int .u8 0, .int .u8 0, .int .u8 0, .int .u8 0, .int .u8 0, .int .u8 0] 23)) b1.size (u8s (mirrorL xs)).toArray
          unfold fl
          go_wp2_with (refine store_blk rfl 23 _ _ rfl _ rfl rfl C1 info_fl (by rw [u8s_length]; exact hm) (by rw [u8s_length]; exact zero24_length) (u8s_one _) ?_)
          refine (k1 _ 0 _ 0 _ Y0.range Y1.range).mono ?_; rintro e w2 ⟨rfl, hb2⟩
          go_wp2_with (fail)
          go_ret2
          exact ⟨rfl, bl_call b2 hb2⟩
        · go_enter Try.func38, Try.ntmps38
          go_wp2_with (first | (go_at_call_of 48 (Value.pointer (some ⟨w.heap.size, 0, none⟩)); refine (l01Ok_any xs hx _ 0 _ B0.range).mono ?_; rintro e w' ⟨rfl, rfl⟩) | (go_at_call 48; refine (l01Ok_any ys hy _ 0 _ B1.range).mono ?_; rintro e w' ⟨rfl, rfl⟩))
          refine (l01Mirror_any xs hx _ 0 _ B0.range).mono ?_; rintro e w1 ⟨rfl, hb1⟩
          have C1 : Blk (w1.alloc (.cells #[.int .u8 0, .int .u8 0, .int .u8 0, .int .u8 0, .int .u8 0, .int .u8 0, .int .u8 0, .int .u8 0, .int .u8 0, .int .u8 0, .int .u8 0, .int .u8 0, .int .u8 0, .int .u8 0, .int .u8 0, .int .u8 0, .int .u8 0, .int .u8 0, .int .u8 0, .int .u8 0, .int .u8 0, .int .u8 0, .int .u8 0, .int .u8 0] 23)) w1.heap.size (u8s zero24) 23 := Blk.mk _ (u8s zero24) _ rfl
          have X0 := B0.kept hb1
          have X1 := B1.kept hb1
          have Y0 := (X0.alloc (.cells #[.int .u8 0, .int .u8 0, .int .u8 0, .int .u8 0, .int .u8 0, .int .u8 0, .int .u8 0, .int .u8 0, .int .u8 0, .int .u8 0, .int .u8 0, .int .u8 0, .int .u8 0, .int .u8 0, .int .u8 0, .int .u8 0, .int .u8 0, .int .u8 0, .int .u8 0, .int .u8 0, .int .u8 0, .int .u8 0, .int .u8 0, .int .u8 0] 23)).farRow (Nat.ne_of_lt X0.lt) (u8s (mirrorL xs)).toArray
          have Y1 := (X1.alloc (.cells #[.int .u8 0, .int .u8 0, .int .u8 0, .int .u8 0, .int .u8 0, .int .u8 0, .int .u8 0, .int .u8 0, .int .u8 0, .int .u8 0, .int .u8 0, .int .u8 0, .int .u8 0, .int .u8 0, .int .u8 0, .int .u8 0, .int .u8 0, .int .u8 0, .int .u8 0, .int .u8 0, .int .u8 0, .int .u8 0, .int .u8 0, .int .u8 0] 23)).farRow (Nat.ne_of_lt X1.lt) (u8s (mirrorL xs)).toArray
          have C2 := C1.setRow (u8s (mirrorL xs))
          have b1 := bl_call b0 hb1
          have b2 := bl_setRow (bl_new b1 (.cells #[.int .u8 0, .int .u8 0, .int .u8 0, .int .u8 0, .int .u8 0, .int .u8 0, .int .u8 0, .int .u8 0, .int .u8 0, .int .u8 0, .int .u8 0, .int .u8 0, .int .u8 0, .int .u8 0, .int .u8 0, .int .u8 0, .int .u8 0, .int .u8 0, .int .u8 0, .int .u8 0, .int .u8 0, .int .u8 0, .int .u8 0, .int .u8 0] 23)) b1.size (u8s (mirrorL xs)).toArray
          unfold fl
          go_wp2_with (refine store_blk rfl 23 _ _ rfl _ rfl rfl C1 info_fl (by rw [u8s_length]; exact hm) (by rw [u8s_length]; exact zero24_length) (u8s_one _) ?_)
          refine (k1 _ 0 _ 0 _ Y0.range Y1.range).mono ?_; rintro e w2 ⟨rfl, hb2⟩
          go_wp2_with (fail)
          refine (k2 _ 0 _ 0 _ (C2.kept hb2).range (Y1.kept hb2).range).mono ?_; rintro e w3 ⟨rfl, hb3⟩
          go_wp2_with (fail)
          go_ret2
          exact ⟨rfl, bl_call (bl_call b2 hb2) hb3⟩
      · go_enter Try.func38, Try.ntmps38
        go_wp2_with (first | (go_at_call_of 48 (Value.pointer (some ⟨w.heap.size, 0, none⟩)); refine (l01Ok_any xs hx _ 0 _ B0.range).mono ?_; rintro e w' ⟨rfl, rfl⟩) | (go_at_call 48; refine (l01Ok_any ys hy _ 0 _ B1.range).mono ?_; rintro e w' ⟨rfl, rfl⟩))
        refine (l01Mirror_any xs hx _ 0 _ B0.range).mono ?_; rintro e w1 ⟨rfl, hb1⟩
        have C1 : Blk (w1.alloc (.cells #[.int .u8 0, .int .u8 0, .int .u8 0, .int .u8 0, .int .u8 0, .int .u8 0, .int .u8 0, .int .u8 0, .int .u8 0, .int .u8 0, .int .u8 0, .int .u8 0, .int .u8 0, .int .u8 0, .int .u8 0, .int .u8 0, .int .u8 0, .int .u8 0, .int .u8 0, .int .u8 0, .int .u8 0, .int .u8 0, .int .u8 0, .int .u8 0] 23)) w1.heap.size (u8s zero24) 23 := Blk.mk _ (u8s zero24) _ rfl
        have X0 := B0.kept hb1
        have X1 := B1.kept hb1
        have Y0 := (X0.alloc (.cells #[.int .u8 0, .int .u8 0, .int .u8 0, .int .u8 0, .int .u8 0, .int .u8 0, .int .u8 0, .int .u8 0, .int .u8 0, .int .u8 0, .int .u8 0, .int .u8 0, .int .u8 0, .int .u8 0, .int .u8 0, .int .u8 0, .int .u8 0, .int .u8 0, .int .u8 0, .int .u8 0, .int .u8 0, .int .u8 0, .int .u8 0, .int .u8 0] 23)).farRow (Nat.ne_of_lt X0.lt) (u8s (mirrorL xs)).toArray
        have Y1 := (X1.alloc (.cells #[.int .u8 0, .int .u8 0, .int .u8 0, .int .u8 0, .int .u8 0, .int .u8 0, .int .u8 0, .int .u8 0, .int .u8 0, .int .u8 0, .int .u8 0, .int .u8 0, .int .u8 0, .int .u8 0, .int .u8 0, .int .u8 0, .int .u8 0, .int .u8 0, .int .u8 0, .int .u8 0, .int .u8 0, .int .u8 0, .int .u8 0, .int .u8 0] 23)).farRow (Nat.ne_of_lt X1.lt) (u8s (mirrorL xs)).toArray
        have b1 := bl_call b0 hb1
        have b2 := bl_setRow (bl_new b1 (.cells #[.int .u8 0, .int .u8 0, .int .u8 0, .int .u8 0, .int .u8 0, .int .u8 0, .int .u8 0, .int .u8 0, .int .u8 0, .int .u8 0, .int .u8 0, .int .u8 0, .int .u8 0, .int .u8 0, .int .u8 0, .int .u8 0, .int .u8 0, .int .u8 0, .int .u8 0, .int .u8 0, .int .u8 0, .int .u8 0, .int .u8 0, .int .u8 0] 23)) b1.size (u8s (mirrorL xs)).toArray
        unfold fl
        go_wp2_with (refine store_blk rfl 23 _ _ rfl _ rfl rfl C1 info_fl (by rw [u8s_length]; exact hm) (by rw [u8s_length]; exact zero24_length) (u8s_one _) ?_)
        refine (k1 _ 0 _ 0 _ Y0.range Y1.range).mono ?_; rintro e w2 ⟨rfl, hb2⟩
        go_wp2_with (fail)
        go_ret2
        exact ⟨rfl, bl_call b2 hb2⟩
end Go.Proofs.Ytbekebjmnccbkaa
