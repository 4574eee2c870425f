/-
  No cell of these rows narrows 'for every input' (looked for: loops, veiled, ifaces, maps, wideKeys, modest, calm, conditions, laid).
  DERIVED. THE GIVEN ROWS OF THIS SEAT. 4 by the template 'for every input the law returns true; each argument reads behind the call as it read before'; 0 by the template 'total and deterministic' (their statements: YtjppoejkfpeicaaTotals.lean).
  GIVEN WITH THE SEED: the statements are not yours to turn. If you find one false, say at which input.
  Laid BY PROGRAM, IN A SANDBOX (cutbox-rows.mjs): the forced cells as the released guide's own fill.sh prints them over the translation 922bea6ee448be24… (all of the seat's roots in one cut). By AI agents, Wed Nov 11 2026. No macro, syntax, notation, axiom, sorry.
-/
import Derived.Test.YtjppoejkfpeicaaChecked
import GoSem.Claim
import GoSem.ClaimJoined
import GoSem.ClaimMapViews
import Derived.JoinedTies
import Derived.KernelRfl
namespace Go.Proofs.Ytjppoejkfpeicaa
/- THE CELL 'sum', in the pinned program and in every row, IS THE sha256 OF THE DUMP (.gsa) THAT YtjppoejkfpeicaaProg.lean LOADS. Nothing in Lean hashes anything: it is a label: what it is worth is what the hold of that sum in a sandbox is worth. -/
noncomputable def Try.pinned : Pinned := { name := "ytjppoejkfpeicaa", sum := "922bea6ee448be24c1544c5cba6bc79edea4e0ac90f7df39107065593abe4506", checked := Try.checked }
namespace Rows
def none {H : Type} : Left H := { results := [], args := [] }

/-- 'laws.FnExactChooseDistinct': WHATEVER THE INPUT: true; the input reads as it did. -/
def fnExactChooseDistinctSpec : ChangeSpec := { name := "fnExactChooseDistinct", fn := fun _ => fun
  | [d1, d2] => { results := [.lit (.bool true)], args := [d1, d2] }
  | _ => none }
def fnExactChooseDistinctRow : OpenClaim := { program := "ytjppoejkfpeicaa", sum := "922bea6ee448be24c1544c5cba6bc79edea4e0ac90f7df39107065593abe4506", func := "loop.example/g01299/laws.FnExactChooseDistinct", spec := "fnExactChooseDistinct", unfollowed := true, recurses := true, plainKeys := false, apart := false }
def FnExactChooseDistinctSaid : Prop := fnExactChooseDistinctRow.holds Try.pinned (OpenSpec.ofChange fnExactChooseDistinctSpec)

/-- ITS FALSE NEIGHBOUR: 'it returns false'. Refute it at one input. -/
def fnExactChooseDistinctWrong : ChangeSpec := { name := "fnExactChooseDistinct", fn := fun _ => fun
  | [d1, d2] => { results := [.lit (.bool false)], args := [d1, d2] }
  | _ => none }
def FnExactChooseDistinctWrongFalsely : Prop := fnExactChooseDistinctRow.holds Try.pinned (OpenSpec.ofChange fnExactChooseDistinctWrong)

/-- 'laws.FnExactMostDistinct': WHATEVER THE INPUT: true; the input reads as it did. -/
def fnExactMostDistinctSpec : ChangeSpec := { name := "fnExactMostDistinct", fn := fun _ => fun
  | [d1, d2] => { results := [.lit (.bool true)], args := [d1, d2] }
  | _ => none }
def fnExactMostDistinctRow : OpenClaim := { program := "ytjppoejkfpeicaa", sum := "922bea6ee448be24c1544c5cba6bc79edea4e0ac90f7df39107065593abe4506", func := "loop.example/g01299/laws.FnExactMostDistinct", spec := "fnExactMostDistinct", unfollowed := true, recurses := true, plainKeys := false, apart := false }
def FnExactMostDistinctSaid : Prop := fnExactMostDistinctRow.holds Try.pinned (OpenSpec.ofChange fnExactMostDistinctSpec)

/-- ITS FALSE NEIGHBOUR: 'it returns false'. Refute it at one input. -/
def fnExactMostDistinctWrong : ChangeSpec := { name := "fnExactMostDistinct", fn := fun _ => fun
  | [d1, d2] => { results := [.lit (.bool false)], args := [d1, d2] }
  | _ => none }
def FnExactMostDistinctWrongFalsely : Prop := fnExactMostDistinctRow.holds Try.pinned (OpenSpec.ofChange fnExactMostDistinctWrong)

/-- 'laws.FnMadeFlags': WHATEVER THE INPUT: true; the input reads as it did. -/
def fnMadeFlagsSpec : ChangeSpec := { name := "fnMadeFlags", fn := fun _ => fun
  | [d1, d2] => { results := [.lit (.bool true)], args := [d1, d2] }
  | _ => none }
def fnMadeFlagsRow : OpenClaim := { program := "ytjppoejkfpeicaa", sum := "922bea6ee448be24c1544c5cba6bc79edea4e0ac90f7df39107065593abe4506", func := "loop.example/g01299/laws.FnMadeFlags", spec := "fnMadeFlags", unfollowed := true, recurses := true, plainKeys := false, apart := false }
def FnMadeFlagsSaid : Prop := fnMadeFlagsRow.holds Try.pinned (OpenSpec.ofChange fnMadeFlagsSpec)

/-- ITS FALSE NEIGHBOUR: 'it returns false'. Refute it at one input. -/
def fnMadeFlagsWrong : ChangeSpec := { name := "fnMadeFlags", fn := fun _ => fun
  | [d1, d2] => { results := [.lit (.bool false)], args := [d1, d2] }
  | _ => none }
def FnMadeFlagsWrongFalsely : Prop := fnMadeFlagsRow.holds Try.pinned (OpenSpec.ofChange fnMadeFlagsWrong)

/-- 'laws.FnChosen': WHATEVER THE INPUT: true; the input reads as it did. -/
def fnChosenSpec : ChangeSpec := { name := "fnChosen", fn := fun _ => fun
  | [d1, d2] => { results := [.lit (.bool true)], args := [d1, d2] }
  | _ => none }
def fnChosenRow : OpenClaim := { program := "ytjppoejkfpeicaa", sum := "922bea6ee448be24c1544c5cba6bc79edea4e0ac90f7df39107065593abe4506", func := "loop.example/g01299/laws.FnChosen", spec := "fnChosen", unfollowed := true, recurses := true, plainKeys := false, apart := false }
def FnChosenSaid : Prop := fnChosenRow.holds Try.pinned (OpenSpec.ofChange fnChosenSpec)

/-- ITS FALSE NEIGHBOUR: 'it returns false'. Refute it at one input. -/
def fnChosenWrong : ChangeSpec := { name := "fnChosen", fn := fun _ => fun
  | [d1, d2] => { results := [.lit (.bool false)], args := [d1, d2] }
  | _ => none }
def FnChosenWrongFalsely : Prop := fnChosenRow.holds Try.pinned (OpenSpec.ofChange fnChosenWrong)

/- THE SECOND FORM. 'bulk': how many values and letters a reading holds, each counted each time it is reached (what is shared counts as often as it is met; a slice's spare places count too). A statement '..UptoSaid' is the law's where the arguments, and the package variables that the reading takes, are together of bulk at most 1048576: NARROWER than '..Said'. Prove '..Said' where nothing that the law and all that it calls make is longer than what came in: it says more and counts as full. Else prove '..UptoSaid'. A law counts once. -/
mutual
def uptoBulk {H : Type} : DataW H → Nat
  | .lit (.string bytes) => bytes.length + 1
  | .lit _ => 1
  | .nil => 1
  | .ptr d => uptoBulk d + 1
  | .slice elems spare => uptoBulkAll elems + uptoBulkAll spare + 1
  | .agg parts => uptoBulkAll parts + 1
  | .iface _ d => uptoBulk d + 1
  | .map entries => uptoBulkEntries entries + 1
  | .held _ => 1
def uptoBulkAll {H : Type} : List (DataW H) → Nat
  | [] => 0
  | d :: r => uptoBulk d + uptoBulkAll r
def uptoBulkEntries {H : Type} : List (Lit × DataW H) → Nat
  | [] => 0
  | x :: r => uptoBulkEntry x + uptoBulkEntries r
def uptoBulkEntry {H : Type} : Lit × DataW H → Nat
  | (.string bytes, d) => bytes.length + uptoBulk d + 1
  | (_, d) => uptoBulk d + 1
 end
def uptoSmall : (H : Type) → List (DataW H) → Bool := fun _ ds => decide (uptoBulkAll ds ≤ 1048576)
def OpenSpec.upto (s : _root_.Go.ChangeSpec) : _root_.Go.OpenSpec := { _root_.Go.OpenSpec.ofChange s with cond := some uptoSmall }

/-- 'laws.FnExactChooseDistinct', WHERE WHAT IT READS IS OF BULK AT MOST 1048576: true; the input reads as it did. -/
def fnExactChooseDistinctUptoRow : OpenClaim := { program := "ytjppoejkfpeicaa", sum := "922bea6ee448be24c1544c5cba6bc79edea4e0ac90f7df39107065593abe4506", func := "loop.example/g01299/laws.FnExactChooseDistinct", spec := "fnExactChooseDistinct", unfollowed := true, recurses := true, plainKeys := false, apart := false, narrowed := true }
def FnExactChooseDistinctUptoSaid : Prop := fnExactChooseDistinctUptoRow.holds Try.pinned (OpenSpec.upto fnExactChooseDistinctSpec)

/-- 'laws.FnExactMostDistinct', WHERE WHAT IT READS IS OF BULK AT MOST 1048576: true; the input reads as it did. -/
def fnExactMostDistinctUptoRow : OpenClaim := { program := "ytjppoejkfpeicaa", sum := "922bea6ee448be24c1544c5cba6bc79edea4e0ac90f7df39107065593abe4506", func := "loop.example/g01299/laws.FnExactMostDistinct", spec := "fnExactMostDistinct", unfollowed := true, recurses := true, plainKeys := false, apart := false, narrowed := true }
def FnExactMostDistinctUptoSaid : Prop := fnExactMostDistinctUptoRow.holds Try.pinned (OpenSpec.upto fnExactMostDistinctSpec)

/-- 'laws.FnMadeFlags', WHERE WHAT IT READS IS OF BULK AT MOST 1048576: true; the input reads as it did. -/
def fnMadeFlagsUptoRow : OpenClaim := { program := "ytjppoejkfpeicaa", sum := "922bea6ee448be24c1544c5cba6bc79edea4e0ac90f7df39107065593abe4506", func := "loop.example/g01299/laws.FnMadeFlags", spec := "fnMadeFlags", unfollowed := true, recurses := true, plainKeys := false, apart := false, narrowed := true }
def FnMadeFlagsUptoSaid : Prop := fnMadeFlagsUptoRow.holds Try.pinned (OpenSpec.upto fnMadeFlagsSpec)

/-- 'laws.FnChosen', WHERE WHAT IT READS IS OF BULK AT MOST 1048576: true; the input reads as it did. -/
def fnChosenUptoRow : OpenClaim := { program := "ytjppoejkfpeicaa", sum := "922bea6ee448be24c1544c5cba6bc79edea4e0ac90f7df39107065593abe4506", func := "loop.example/g01299/laws.FnChosen", spec := "fnChosen", unfollowed := true, recurses := true, plainKeys := false, apart := false, narrowed := true }
def FnChosenUptoSaid : Prop := fnChosenUptoRow.holds Try.pinned (OpenSpec.upto fnChosenSpec)

end Rows
end Go.Proofs.Ytjppoejkfpeicaa
