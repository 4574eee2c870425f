/- Contracts: the texts of numbers below 100: spec.Decimal. -/
import Derived.Test.YtjppoejkfpeicaaLw
import Derived.Test.YtjppoejkfpeicaaF17
set_option linter.unusedVariables false
namespace Go.Proofs.Ytjppoejkfpeicaa
open Go.RowKit
section
variable {P : Program} {ops : Array Oper} {Q : Exit → Act → World → Prop} {S : World → Prop} {listed : Array Bool} {ts : List Value} {ds : List Deferred} {w : World} {fuel : Nat}
/-- One of the operations that may come up: a call of function f. -/
theorem kCall (i d f : Nat) {oi : Oper} (hi : ops[i]? = some oi) (hd : oi.dst = some d) {args : Array Value}
    (hw : Region.wanted oi (yielded ops ts.toArray) = true) (he : (execOp (Act.mk ts.toArray ds).eval oi).run P w = .ok (.enter f args) w) (v : Value) {R : World → Prop}
    (hc : Calls P f args w fun e w' => e = .returned v ∧ R w') {rs : List Nat}
    (h : ∀ w', R w' → S w' ∧ wpAnyH P .any ops Q S fuel (listed.setIfInBounds i true) ⟨(ts.set d v).toArray, ds⟩ w')
    (hs : AllReadyH P .any ops Q S fuel listed ⟨ts.toArray, ds⟩ w rs) : AllReadyH P .any ops Q S fuel listed ⟨ts.toArray, ds⟩ w (i :: rs) := by
  refine AllReadyH.cons hi (fun K hK => ?_) hs
  rw [if_pos hw]
  unfold Oper.wp
  rw [he, Oper.upon_enter]
  refine hc.mono ?_
  rintro e w' ⟨rfl, hR⟩
  obtain ⟨h1, h2⟩ := h w' hR
  refine hK.out _ _ h1 (fun _ => ?_)
  rw [hd]
  simpa [Act.put] using h2
/-- One of the operations that may come up: it gives a value and maybe another world. -/
theorem kVal (i d : Nat) {oi : Oper} (hi : ops[i]? = some oi) (hd : oi.dst = some d)
    (hw : Region.wanted oi (yielded ops ts.toArray) = true) {v : Value} {w' : World} (he : (execOp (Act.mk ts.toArray ds).eval oi).run P w = .ok (.value v) w') {rs : List Nat}
    (h1 : S w') (h2 : wpAnyH P .any ops Q S fuel (listed.setIfInBounds i true) ⟨(ts.set d v).toArray, ds⟩ w')
    (hs : AllReadyH P .any ops Q S fuel listed ⟨ts.toArray, ds⟩ w rs) : AllReadyH P .any ops Q S fuel listed ⟨ts.toArray, ds⟩ w (i :: rs) := by
  refine AllReadyH.cons hi (fun K hK => ?_) hs
  rw [if_pos hw]
  unfold Oper.wp
  rw [he, Oper.upon_value]
  refine hK.out _ _ h1 (fun _ => ?_)
  rw [hd]
  simpa [Act.put] using h2
end
/-- The text of a number below 100. -/
def dig (n : Nat) : ByteArray := if n < 10 then strOfNums [48 + (n : Int)] else strOfNums [48 + ((n : Int) / 10)] ++ strOfNums [48 + ((n : Int) % 10)]
theorem dig_small (n : Nat) (h : n < 10) : dig n = strOfNums [48 + (n : Int)] := by unfold dig; rw [if_pos h]
theorem dig_big (n : Nat) (h : ¬ n < 10) : dig n = strOfNums [48 + ((n : Int) / 10)] ++ strOfNums [48 + ((n : Int) % 10)] := by unfold dig; rw [if_neg h]
theorem dig_size (n : Nat) : (dig n).size ≤ 2 := by
  unfold dig
  split
  · rw [strOfNums_size]; simp
  · rw [ByteArray.size_append, strOfNums_size, strOfNums_size]; simp

theorem byte_string (x : Int) (w : World) (b : Nat) (h : Blk w b [.int .u8 x] 5) : (convert 34 9 (.slice (some ⟨b, 0, none⟩) 1 1)).run Try.prog w = .ok (.string (strOfNums [x])) w := by
  have hO : Own w 0 5 (.slice (some ⟨b, 0, none⟩) 1 1) (u8s [x]) := ⟨rfl, .inr ⟨b, 1, #[.int .u8 x], rfl, Nat.zero_le _, h, Nat.le_refl _, by simp [maxLen], rfl, rfl⟩⟩
  exact own_string (P := Try.prog) Try.underlying34 Try.underlying5 Try.underlying9 hO

end Go.Proofs.Ytjppoejkfpeicaa
