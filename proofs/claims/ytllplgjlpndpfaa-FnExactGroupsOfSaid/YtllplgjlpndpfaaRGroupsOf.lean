/- The program's GroupsOf returns what the reference's returns, for all arguments. No condition but the statement's own. -/
import Derived.Test.YtllplgjlpndpfaaRow
import Derived.Test.YtllplgjlpndpfaaRowS
import Derived.Test.YtllplgjlpndpfaaL31
set_option linter.unusedVariables false
namespace Go.Proofs.Ytllplgjlpndpfaa
open Go.ChangeShapes Go.WideShapes Go.ChangeAt Go.RowKit
open Go.ChangeMaps (open_string shut_string)
namespace rFnExactGroupsOf
set_option maxRecDepth 100000 in
theorem lifted (os : Os) (started : os.Started) (H : Type) (enc : TypeId × Value → H) :
    ReturnsInHanded {} Try.checked os 10 .any (Rows.fnExactGroupsOfSpec.pre6 enc Try.prog Try.f10 Rows.fnExactGroupsOfRow.domain false) (Rows.fnExactGroupsOfSpec.post enc Try.prog Try.f10 false true false false) := by
  refine returnsInHanded_of_change (C := Try.checked) own started (by kernel_rfl) Try.func10
    (ChangeSpec.witness6 (enc := enc) (C := Try.checked) false ⟨#[], #[.slice none 0 0], []⟩ 8 (by kernel_rfl) (by kernel_rfl) (by kernel_rfl) (by kernel_rfl)) ?_
  intro W base args ds gs before hval0 hW hcnd _
  have hval : ∀ (j : Nat) t v, Try.f10.params[j]? = some t → args[j]? = some v → Value.okWide Try.prog W .any base t v := hval0
  have hW' := hW
  obtain ⟨p, q, hA0, hV, rfl, hfz, hnd⟩ := hW
  have hA : DataW.TrodAll enc Try.prog W 0 (fun _ => true) true Try.f10.params.toList args.toList ds p := hA0
  have hA1 := hA
  have hlt : ∀ x ∈ p, x.block < W.heap.size := fun x hx => by simpa using hW'.lt x (by simp [hx])
  rw [Try.params10] at hA hval
  obtain ⟨v0, vs0, d0, ds0, p0, q0, hargs, rfl, rfl, h0, r0⟩ := trodAll_cons hA
  obtain ⟨rfl, rfl, rfl⟩ := trodAll_nil r0
  obtain rfl : args = #[v0] := by cases args; simp_all
  obtain ⟨rfl, rfl⟩ := trodVars_none hV
  obtain ⟨A0, x0, c0, rfl, s0, w0⟩ := open_row Try.underlying22 Try.underlying62 (by kernel_rfl) (hval 0 22 v0 rfl rfl) h0
  clear hA0 hval0 hval hnd hfz
  refine (walk_FnExactGroupsOf W A0 x0 c0 s0 (fun n hn => bounds_i8 (w0 n hn))).mono fun e W' ⟨he, bel⟩ => ?_
  subst he
  exact ⟨_, rfl, _, _, _, [], _, [], hW', trodAll_mk1 (shut_bool Try.underlying4 _), trodAll_below laidOut bel (by kernel_rfl) hA1 hlt, rfl, bel.frame _, fun h => by cases h⟩

theorem over : Rows.fnExactGroupsOfRow.holds Try.pinned (OpenSpec.ofChange Rows.fnExactGroupsOfSpec) :=
  OpenClaim.holds_of_wide 10 Try.f10 rfl rfl rfl rfl rfl rfl rfl ⟨rfl, rfl, rfl, rfl, rfl⟩ rfl rfl rfl rfl rfl (by kernel_rfl) Try.func10 (by kernel_rfl)
    (of_decide_eq_true (by kernel_rfl)) (by unfold Func.isWrapper; first | (rw [if_pos (by decide +kernel)]; kernel_rfl) | (rw [if_neg (by decide +kernel)]; exact ⟨rfl, rfl⟩))
    (fun os started H enc _ => lifted os started H enc)
end rFnExactGroupsOf
/-- The program's GroupsOf returns what the reference's returns, for all arguments. -/
theorem fnExactGroupsOf_holds : Rows.FnExactGroupsOfSaid := rFnExactGroupsOf.over
end Go.Proofs.Ytllplgjlpndpfaa
#print axioms Go.Proofs.Ytllplgjlpndpfaa.fnExactGroupsOf_holds
