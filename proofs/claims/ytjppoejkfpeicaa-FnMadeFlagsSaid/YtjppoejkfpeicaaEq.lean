/- '==' between two arrays of bytes. -/
import Derived.Test.YtjppoejkfpeicaaA
import Derived.Laws.StructEq
set_option linter.unusedVariables false
namespace Go.Proofs.Ytjppoejkfpeicaa
open Go.RowKit
theorem list_eq_nth (xs ys : List Int) (n : Nat) (hx : xs.length = n) (hy : ys.length = n) : ((List.range' 0 n).all fun i => nth xs i == nth ys i) = decide (xs = ys) := by
  rw [Bool.eq_iff_iff]
  simp only [List.all_eq_true, decide_eq_true_eq, beq_iff_eq, List.mem_range'_1]
  constructor
  · intro h
    apply List.ext_getElem (by rw [hx, hy])
    intro i h1 h2
    rw [nth_get xs i h1, nth_get ys i h2]
    exact h i ⟨by omega, by omega⟩
  · rintro rfl i _
    rfl
theorem run_equalIn_u8s {P : Program} (w : World) (d : Nat) (t e : TypeId) (n : Nat) (ht : P.underlying t = some (.array n e)) (he : P.underlying e = some (.int .u8)) (ha : (P.info? e).map (·.size) = some 1) (hag : ∀ w, (isAgg e).run P w = .ok false w)
    (xs ys : List Int) (hx : xs.length = n) (hy : ys.length = n) :
    (Op.equalIn (d + 2) t (.agg (u8s xs).toArray) (.agg (u8s ys).toArray)).run P w = .ok (decide (xs = ys)) w := by
  have hs : ∀ w, (sizeOf e).run P w = .ok 1 w := by
    intro w
    cases hq : P.info? e with
    | none => simp [hq] at ha
    | some i => simp [hq] at ha; simp [sizeOf, typeInfo, hq, ha]
  have hp : ∀ (zs : List Int) (i : Nat), i < zs.length → (Go.part e (u8s zs).toArray i).run P w = .ok (.int .u8 (nth zs i)) w := by
    intro zs i hi
    have := u8s_get zs i hi
    simp only [Go.part, Sem.run_bind, hag, Result.andThen_ok]
    simp [this]
  have key : ∀ (m s : Nat), s + m = n → (forIn (List.range' s m) (none, ()) fun i (__s : Option Bool × Unit) => do
            let __do_lift ← Go.part e (u8s xs).toArray (i * 1)
            let __do_lift_1 ← Go.part e (u8s ys).toArray (i * 1)
            let __do_lift ← Op.equalIn (d + 1) e __do_lift __do_lift_1
            if (!__do_lift) = true then pure (ForInStep.done (some false, ())) else pure (ForInStep.yield (none, ())) : Sem (Option Bool × Unit)).run P w
      = .ok (if (List.range' s m).all (fun i => nth xs i == nth ys i) then (none, ()) else (some false, ())) w := by
    intro m
    induction m with
    | zero => intro s _; simp [Sem.run_pure]
    | succ m ih =>
      intro s hsm
      rw [List.range'_succ, List.forIn_cons]
      simp only [Sem.run_bind, Nat.mul_one, hp xs s (by omega), hp ys s (by omega), Result.andThen_ok, run_equalIn_int w d e .u8 .u8 _ _ he]
      rw [List.all_cons]
      cases h : nth xs s == nth ys s
      · simp [Sem.run_pure]
      · simp only [Bool.not_true, Bool.false_eq_true, if_false, Sem.run_pure, Result.andThen_ok, Bool.true_and]
        have := ih (s + 1) (by omega)
        simpa [Nat.mul_one] using this
  rw [Op.equalIn]
  simp only [Sem.run_bind, run_underlying ht, Result.andThen_ok, hs, Std.Legacy.Range.forIn_eq_forIn_range']
  have hk := key n 0 (by omega)
  rw [list_eq_nth xs ys n hx hy] at hk
  simp only [Std.Legacy.Range.size, Nat.sub_zero, Nat.add_sub_cancel, Nat.div_one] at hk ⊢
  rw [hk]
  cases hd : decide (xs = ys) <;> simp [Sem.run_pure, Result.andThen]
/-- '==' as the walk meets it. -/
theorem run_eql_u8s {P : Program} (t e : TypeId) (n : Nat) (ht : P.underlying t = some (.array n e)) (he : P.underlying e = some (.int .u8)) (ha : (P.info? e).map (·.size) = some 1) (hag : ∀ w, (isAgg e).run P w = .ok false w)
    (xs ys : List Int) (hx : xs.length = n) (hy : ys.length = n) (w : World) :
    (binOp .eql t (.agg (u8s xs).toArray) (.agg (u8s ys).toArray)).run P w = .ok (.bool (decide (xs = ys))) w := by
  rw [run_eql_struct, run_equalIn_u8s w 9998 t e n ht he ha hag xs ys hx hy]
  rfl
theorem run_neq_u8s {P : Program} (t e : TypeId) (n : Nat) (ht : P.underlying t = some (.array n e)) (he : P.underlying e = some (.int .u8)) (ha : (P.info? e).map (·.size) = some 1) (hag : ∀ w, (isAgg e).run P w = .ok false w)
    (xs ys : List Int) (hx : xs.length = n) (hy : ys.length = n) (w : World) :
    (binOp .neq t (.agg (u8s xs).toArray) (.agg (u8s ys).toArray)).run P w = .ok (.bool (!decide (xs = ys))) w := by
  rw [run_neq_struct, run_equalIn_u8s w 9998 t e n ht he ha hag xs ys hx hy]
  rfl
end Go.Proofs.Ytjppoejkfpeicaa
