/-
  No cell of these rows narrows 'for every input' (looked for: loops, veiled, ifaces, maps, wideKeys, modest, calm, conditions, laid).
  DERIVED. THE GIVEN ROWS OF THIS SEAT. 12 by the template 'for every input the law returns true; each argument reads behind the call as it read before'; 0 by the template 'total and deterministic' (their statements: YtbekebjmnccbkaaTotals.lean).
  GIVEN WITH THE SEED: the statements are not yours to turn. If you find one false, say at which input.
  Laid BY PROGRAM, IN A SANDBOX (cutbox-rows.mjs): the forced cells as the released guide's own fill.sh prints them over the translation bf02cf8a9fa14235… (all of the seat's roots in one cut). By AI agents, Wed Nov 11 2026. No macro, syntax, notation, axiom, sorry.
-/
import Derived.Test.YtbekebjmnccbkaaChecked
import GoSem.Claim
import GoSem.ClaimJoined
import GoSem.ClaimMapViews
import Derived.JoinedTies
import Derived.KernelRfl
namespace Go.Proofs.Ytbekebjmnccbkaa
/- THE CELL 'sum', in the pinned program and in every row, IS THE sha256 OF THE DUMP (.gsa) THAT YtbekebjmnccbkaaProg.lean LOADS. Nothing in Lean hashes anything: it is a label: what it is worth is what the hold of that sum in a sandbox is worth. -/
noncomputable def Try.pinned : Pinned := { name := "ytbekebjmnccbkaa", sum := "bf02cf8a9fa14235b859e4446b81fefcfd7a9b02db369161d9a5a5ba143ae0f5", checked := Try.checked }
namespace Rows
def none {H : Type} : Left H := { results := [], args := [] }

/-- 'laws.FnExactPlainFlag': WHATEVER THE INPUT: true; the input reads as it did. -/
def fnExactPlainFlagSpec : ChangeSpec := { name := "fnExactPlainFlag", fn := fun _ => fun
  | [d] => { results := [.lit (.bool true)], args := [d] }
  | _ => none }
def fnExactPlainFlagRow : OpenClaim := { program := "ytbekebjmnccbkaa", sum := "bf02cf8a9fa14235b859e4446b81fefcfd7a9b02db369161d9a5a5ba143ae0f5", func := "loop.example/g01299/laws.FnExactPlainFlag", spec := "fnExactPlainFlag", unfollowed := true, recurses := true, apart := false }
def FnExactPlainFlagSaid : Prop := fnExactPlainFlagRow.holds Try.pinned (OpenSpec.ofChange fnExactPlainFlagSpec)

/-- ITS FALSE NEIGHBOUR: 'it returns false'. Refute it at one input. -/
def fnExactPlainFlagWrong : ChangeSpec := { name := "fnExactPlainFlag", fn := fun _ => fun
  | [d] => { results := [.lit (.bool false)], args := [d] }
  | _ => none }
def FnExactPlainFlagWrongFalsely : Prop := fnExactPlainFlagRow.holds Try.pinned (OpenSpec.ofChange fnExactPlainFlagWrong)

/-- 'laws.FnExactRecolourFlag': WHATEVER THE INPUT: true; the input reads as it did. -/
def fnExactRecolourFlagSpec : ChangeSpec := { name := "fnExactRecolourFlag", fn := fun _ => fun
  | [d1, d2, d3] => { results := [.lit (.bool true)], args := [d1, d2, d3] }
  | _ => none }
def fnExactRecolourFlagRow : OpenClaim := { program := "ytbekebjmnccbkaa", sum := "bf02cf8a9fa14235b859e4446b81fefcfd7a9b02db369161d9a5a5ba143ae0f5", func := "loop.example/g01299/laws.FnExactRecolourFlag", spec := "fnExactRecolourFlag", unfollowed := true, recurses := true, apart := false }
def FnExactRecolourFlagSaid : Prop := fnExactRecolourFlagRow.holds Try.pinned (OpenSpec.ofChange fnExactRecolourFlagSpec)

/-- ITS FALSE NEIGHBOUR: 'it returns false'. Refute it at one input. -/
def fnExactRecolourFlagWrong : ChangeSpec := { name := "fnExactRecolourFlag", fn := fun _ => fun
  | [d1, d2, d3] => { results := [.lit (.bool false)], args := [d1, d2, d3] }
  | _ => none }
def FnExactRecolourFlagWrongFalsely : Prop := fnExactRecolourFlagRow.holds Try.pinned (OpenSpec.ofChange fnExactRecolourFlagWrong)

/-- 'laws.FnExactChequersOf': WHATEVER THE INPUT: true; the input reads as it did. -/
def fnExactChequersOfSpec : ChangeSpec := { name := "fnExactChequersOf", fn := fun _ => fun
  | [d1, d2] => { results := [.lit (.bool true)], args := [d1, d2] }
  | _ => none }
def fnExactChequersOfRow : OpenClaim := { program := "ytbekebjmnccbkaa", sum := "bf02cf8a9fa14235b859e4446b81fefcfd7a9b02db369161d9a5a5ba143ae0f5", func := "loop.example/g01299/laws.FnExactChequersOf", spec := "fnExactChequersOf", unfollowed := true, recurses := true, apart := false }
def FnExactChequersOfSaid : Prop := fnExactChequersOfRow.holds Try.pinned (OpenSpec.ofChange fnExactChequersOfSpec)

/-- ITS FALSE NEIGHBOUR: 'it returns false'. Refute it at one input. -/
def fnExactChequersOfWrong : ChangeSpec := { name := "fnExactChequersOf", fn := fun _ => fun
  | [d1, d2] => { results := [.lit (.bool false)], args := [d1, d2] }
  | _ => none }
def FnExactChequersOfWrongFalsely : Prop := fnExactChequersOfRow.holds Try.pinned (OpenSpec.ofChange fnExactChequersOfWrong)

/-- 'laws.FnExactCrossOf': WHATEVER THE INPUT: true; the input reads as it did. -/
def fnExactCrossOfSpec : ChangeSpec := { name := "fnExactCrossOf", fn := fun _ => fun
  | [d1, d2] => { results := [.lit (.bool true)], args := [d1, d2] }
  | _ => none }
def fnExactCrossOfRow : OpenClaim := { program := "ytbekebjmnccbkaa", sum := "bf02cf8a9fa14235b859e4446b81fefcfd7a9b02db369161d9a5a5ba143ae0f5", func := "loop.example/g01299/laws.FnExactCrossOf", spec := "fnExactCrossOf", unfollowed := true, recurses := true, apart := false }
def FnExactCrossOfSaid : Prop := fnExactCrossOfRow.holds Try.pinned (OpenSpec.ofChange fnExactCrossOfSpec)

/-- ITS FALSE NEIGHBOUR: 'it returns false'. Refute it at one input. -/
def fnExactCrossOfWrong : ChangeSpec := { name := "fnExactCrossOf", fn := fun _ => fun
  | [d1, d2] => { results := [.lit (.bool false)], args := [d1, d2] }
  | _ => none }
def FnExactCrossOfWrongFalsely : Prop := fnExactCrossOfRow.holds Try.pinned (OpenSpec.ofChange fnExactCrossOfWrong)

/-- 'laws.FnExactBorderOf': WHATEVER THE INPUT: true; the input reads as it did. -/
def fnExactBorderOfSpec : ChangeSpec := { name := "fnExactBorderOf", fn := fun _ => fun
  | [d1, d2] => { results := [.lit (.bool true)], args := [d1, d2] }
  | _ => none }
def fnExactBorderOfRow : OpenClaim := { program := "ytbekebjmnccbkaa", sum := "bf02cf8a9fa14235b859e4446b81fefcfd7a9b02db369161d9a5a5ba143ae0f5", func := "loop.example/g01299/laws.FnExactBorderOf", spec := "fnExactBorderOf", unfollowed := true, recurses := true, apart := false }
def FnExactBorderOfSaid : Prop := fnExactBorderOfRow.holds Try.pinned (OpenSpec.ofChange fnExactBorderOfSpec)

/-- ITS FALSE NEIGHBOUR: 'it returns false'. Refute it at one input. -/
def fnExactBorderOfWrong : ChangeSpec := { name := "fnExactBorderOf", fn := fun _ => fun
  | [d1, d2] => { results := [.lit (.bool false)], args := [d1, d2] }
  | _ => none }
def FnExactBorderOfWrongFalsely : Prop := fnExactBorderOfRow.holds Try.pinned (OpenSpec.ofChange fnExactBorderOfWrong)

/-- 'laws.FnExactPaintCell': WHATEVER THE INPUT: true; the input reads as it did. -/
def fnExactPaintCellSpec : ChangeSpec := { name := "fnExactPaintCell", fn := fun _ => fun
  | [d1, d2, d3, d4] => { results := [.lit (.bool true)], args := [d1, d2, d3, d4] }
  | _ => none }
def fnExactPaintCellRow : OpenClaim := { program := "ytbekebjmnccbkaa", sum := "bf02cf8a9fa14235b859e4446b81fefcfd7a9b02db369161d9a5a5ba143ae0f5", func := "loop.example/g01299/laws.FnExactPaintCell", spec := "fnExactPaintCell", unfollowed := true, recurses := true, apart := false }
def FnExactPaintCellSaid : Prop := fnExactPaintCellRow.holds Try.pinned (OpenSpec.ofChange fnExactPaintCellSpec)

/-- ITS FALSE NEIGHBOUR: 'it returns false'. Refute it at one input. -/
def fnExactPaintCellWrong : ChangeSpec := { name := "fnExactPaintCell", fn := fun _ => fun
  | [d1, d2, d3, d4] => { results := [.lit (.bool false)], args := [d1, d2, d3, d4] }
  | _ => none }
def FnExactPaintCellWrongFalsely : Prop := fnExactPaintCellRow.holds Try.pinned (OpenSpec.ofChange fnExactPaintCellWrong)

/-- 'laws.FnExactBlurFlag': WHATEVER THE INPUT: true; the input reads as it did. -/
def fnExactBlurFlagSpec : ChangeSpec := { name := "fnExactBlurFlag", fn := fun _ => fun
  | [d] => { results := [.lit (.bool true)], args := [d] }
  | _ => none }
def fnExactBlurFlagRow : OpenClaim := { program := "ytbekebjmnccbkaa", sum := "bf02cf8a9fa14235b859e4446b81fefcfd7a9b02db369161d9a5a5ba143ae0f5", func := "loop.example/g01299/laws.FnExactBlurFlag", spec := "fnExactBlurFlag", unfollowed := true, recurses := true, apart := false }
def FnExactBlurFlagSaid : Prop := fnExactBlurFlagRow.holds Try.pinned (OpenSpec.ofChange fnExactBlurFlagSpec)

/-- ITS FALSE NEIGHBOUR: 'it returns false'. Refute it at one input. -/
def fnExactBlurFlagWrong : ChangeSpec := { name := "fnExactBlurFlag", fn := fun _ => fun
  | [d] => { results := [.lit (.bool false)], args := [d] }
  | _ => none }
def FnExactBlurFlagWrongFalsely : Prop := fnExactBlurFlagRow.holds Try.pinned (OpenSpec.ofChange fnExactBlurFlagWrong)

/-- 'laws.FnExactStripesOf': WHATEVER THE INPUT: true; the input reads as it did. -/
def fnExactStripesOfSpec : ChangeSpec := { name := "fnExactStripesOf", fn := fun _ => fun
  | [d1, d2] => { results := [.lit (.bool true)], args := [d1, d2] }
  | _ => none }
def fnExactStripesOfRow : OpenClaim := { program := "ytbekebjmnccbkaa", sum := "bf02cf8a9fa14235b859e4446b81fefcfd7a9b02db369161d9a5a5ba143ae0f5", func := "loop.example/g01299/laws.FnExactStripesOf", spec := "fnExactStripesOf", unfollowed := true, recurses := true, apart := false }
def FnExactStripesOfSaid : Prop := fnExactStripesOfRow.holds Try.pinned (OpenSpec.ofChange fnExactStripesOfSpec)

/-- ITS FALSE NEIGHBOUR: 'it returns false'. Refute it at one input. -/
def fnExactStripesOfWrong : ChangeSpec := { name := "fnExactStripesOf", fn := fun _ => fun
  | [d1, d2] => { results := [.lit (.bool false)], args := [d1, d2] }
  | _ => none }
def FnExactStripesOfWrongFalsely : Prop := fnExactStripesOfRow.holds Try.pinned (OpenSpec.ofChange fnExactStripesOfWrong)

/-- 'laws.FnExactBlurDistance': WHATEVER THE INPUT: true; the input reads as it did. -/
def fnExactBlurDistanceSpec : ChangeSpec := { name := "fnExactBlurDistance", fn := fun _ => fun
  | [d1, d2] => { results := [.lit (.bool true)], args := [d1, d2] }
  | _ => none }
def fnExactBlurDistanceRow : OpenClaim := { program := "ytbekebjmnccbkaa", sum := "bf02cf8a9fa14235b859e4446b81fefcfd7a9b02db369161d9a5a5ba143ae0f5", func := "loop.example/g01299/laws.FnExactBlurDistance", spec := "fnExactBlurDistance", unfollowed := true, recurses := true, apart := false }
def FnExactBlurDistanceSaid : Prop := fnExactBlurDistanceRow.holds Try.pinned (OpenSpec.ofChange fnExactBlurDistanceSpec)

/-- ITS FALSE NEIGHBOUR: 'it returns false'. Refute it at one input. -/
def fnExactBlurDistanceWrong : ChangeSpec := { name := "fnExactBlurDistance", fn := fun _ => fun
  | [d1, d2] => { results := [.lit (.bool false)], args := [d1, d2] }
  | _ => none }
def FnExactBlurDistanceWrongFalsely : Prop := fnExactBlurDistanceRow.holds Try.pinned (OpenSpec.ofChange fnExactBlurDistanceWrong)

/-- 'laws.FnExactLooksLike': WHATEVER THE INPUT: true; the input reads as it did. -/
def fnExactLooksLikeSpec : ChangeSpec := { name := "fnExactLooksLike", fn := fun _ => fun
  | [d1, d2, d3] => { results := [.lit (.bool true)], args := [d1, d2, d3] }
  | _ => none }
def fnExactLooksLikeRow : OpenClaim := { program := "ytbekebjmnccbkaa", sum := "bf02cf8a9fa14235b859e4446b81fefcfd7a9b02db369161d9a5a5ba143ae0f5", func := "loop.example/g01299/laws.FnExactLooksLike", spec := "fnExactLooksLike", unfollowed := true, recurses := true, apart := false }
def FnExactLooksLikeSaid : Prop := fnExactLooksLikeRow.holds Try.pinned (OpenSpec.ofChange fnExactLooksLikeSpec)

/-- ITS FALSE NEIGHBOUR: 'it returns false'. Refute it at one input. -/
def fnExactLooksLikeWrong : ChangeSpec := { name := "fnExactLooksLike", fn := fun _ => fun
  | [d1, d2, d3] => { results := [.lit (.bool false)], args := [d1, d2, d3] }
  | _ => none }
def FnExactLooksLikeWrongFalsely : Prop := fnExactLooksLikeRow.holds Try.pinned (OpenSpec.ofChange fnExactLooksLikeWrong)

/-- 'laws.FnExactAreDistinct': WHATEVER THE INPUT: true; the input reads as it did. -/
def fnExactAreDistinctSpec : ChangeSpec := { name := "fnExactAreDistinct", fn := fun _ => fun
  | [d1, d2] => { results := [.lit (.bool true)], args := [d1, d2] }
  | _ => none }
def fnExactAreDistinctRow : OpenClaim := { program := "ytbekebjmnccbkaa", sum := "bf02cf8a9fa14235b859e4446b81fefcfd7a9b02db369161d9a5a5ba143ae0f5", func := "loop.example/g01299/laws.FnExactAreDistinct", spec := "fnExactAreDistinct", unfollowed := true, recurses := true, apart := false }
def FnExactAreDistinctSaid : Prop := fnExactAreDistinctRow.holds Try.pinned (OpenSpec.ofChange fnExactAreDistinctSpec)

/-- ITS FALSE NEIGHBOUR: 'it returns false'. Refute it at one input. -/
def fnExactAreDistinctWrong : ChangeSpec := { name := "fnExactAreDistinct", fn := fun _ => fun
  | [d1, d2] => { results := [.lit (.bool false)], args := [d1, d2] }
  | _ => none }
def FnExactAreDistinctWrongFalsely : Prop := fnExactAreDistinctRow.holds Try.pinned (OpenSpec.ofChange fnExactAreDistinctWrong)

/-- 'laws.FnExactNearestPair': WHATEVER THE INPUT: true; the input reads as it did. -/
def fnExactNearestPairSpec : ChangeSpec := { name := "fnExactNearestPair", fn := fun _ => fun
  | [d] => { results := [.lit (.bool true)], args := [d] }
  | _ => none }
def fnExactNearestPairRow : OpenClaim := { program := "ytbekebjmnccbkaa", sum := "bf02cf8a9fa14235b859e4446b81fefcfd7a9b02db369161d9a5a5ba143ae0f5", func := "loop.example/g01299/laws.FnExactNearestPair", spec := "fnExactNearestPair", unfollowed := true, recurses := true, apart := false }
def FnExactNearestPairSaid : Prop := fnExactNearestPairRow.holds Try.pinned (OpenSpec.ofChange fnExactNearestPairSpec)

/-- ITS FALSE NEIGHBOUR: 'it returns false'. Refute it at one input. -/
def fnExactNearestPairWrong : ChangeSpec := { name := "fnExactNearestPair", fn := fun _ => fun
  | [d] => { results := [.lit (.bool false)], args := [d] }
  | _ => none }
def FnExactNearestPairWrongFalsely : Prop := fnExactNearestPairRow.holds Try.pinned (OpenSpec.ofChange fnExactNearestPairWrong)

/- THE SECOND FORM. 'bulk': how many values and letters a reading holds, each counted each time it is reached (what is shared counts as often as it is met; a slice's spare places count too). A statement '..UptoSaid' is the law's where the arguments, and the package variables that the reading takes, are together of bulk at most 1048576: NARROWER than '..Said'. Prove '..Said' where nothing that the law and all that it calls make is longer than what came in: it says more and counts as full. Else prove '..UptoSaid'. A law counts once. -/
mutual
def uptoBulk {H : Type} : DataW H → Nat
  | .lit (.string bytes) => bytes.length + 1
  | .lit _ => 1
  | .nil => 1
  | .ptr d => uptoBulk d + 1
  | .slice elems spare => uptoBulkAll elems + uptoBulkAll spare + 1
  | .agg parts => uptoBulkAll parts + 1
  | .iface _ d => uptoBulk d + 1
  | .map entries => uptoBulkEntries entries + 1
  | .held _ => 1
def uptoBulkAll {H : Type} : List (DataW H) → Nat
  | [] => 0
  | d :: r => uptoBulk d + uptoBulkAll r
def uptoBulkEntries {H : Type} : List (Lit × DataW H) → Nat
  | [] => 0
  | x :: r => uptoBulkEntry x + uptoBulkEntries r
def uptoBulkEntry {H : Type} : Lit × DataW H → Nat
  | (.string bytes, d) => bytes.length + uptoBulk d + 1
  | (_, d) => uptoBulk d + 1
 end
def uptoSmall : (H : Type) → List (DataW H) → Bool := fun _ ds => decide (uptoBulkAll ds ≤ 1048576)
def OpenSpec.upto (s : _root_.Go.ChangeSpec) : _root_.Go.OpenSpec := { _root_.Go.OpenSpec.ofChange s with cond := some uptoSmall }

/-- 'laws.FnExactPlainFlag', WHERE WHAT IT READS IS OF BULK AT MOST 1048576: true; the input reads as it did. -/
def fnExactPlainFlagUptoRow : OpenClaim := { program := "ytbekebjmnccbkaa", sum := "bf02cf8a9fa14235b859e4446b81fefcfd7a9b02db369161d9a5a5ba143ae0f5", func := "loop.example/g01299/laws.FnExactPlainFlag", spec := "fnExactPlainFlag", unfollowed := true, recurses := true, apart := false, narrowed := true }
def FnExactPlainFlagUptoSaid : Prop := fnExactPlainFlagUptoRow.holds Try.pinned (OpenSpec.upto fnExactPlainFlagSpec)

/-- 'laws.FnExactRecolourFlag', WHERE WHAT IT READS IS OF BULK AT MOST 1048576: true; the input reads as it did. -/
def fnExactRecolourFlagUptoRow : OpenClaim := { program := "ytbekebjmnccbkaa", sum := "bf02cf8a9fa14235b859e4446b81fefcfd7a9b02db369161d9a5a5ba143ae0f5", func := "loop.example/g01299/laws.FnExactRecolourFlag", spec := "fnExactRecolourFlag", unfollowed := true, recurses := true, apart := false, narrowed := true }
def FnExactRecolourFlagUptoSaid : Prop := fnExactRecolourFlagUptoRow.holds Try.pinned (OpenSpec.upto fnExactRecolourFlagSpec)

/-- 'laws.FnExactChequersOf', WHERE WHAT IT READS IS OF BULK AT MOST 1048576: true; the input reads as it did. -/
def fnExactChequersOfUptoRow : OpenClaim := { program := "ytbekebjmnccbkaa", sum := "bf02cf8a9fa14235b859e4446b81fefcfd7a9b02db369161d9a5a5ba143ae0f5", func := "loop.example/g01299/laws.FnExactChequersOf", spec := "fnExactChequersOf", unfollowed := true, recurses := true, apart := false, narrowed := true }
def FnExactChequersOfUptoSaid : Prop := fnExactChequersOfUptoRow.holds Try.pinned (OpenSpec.upto fnExactChequersOfSpec)

/-- 'laws.FnExactCrossOf', WHERE WHAT IT READS IS OF BULK AT MOST 1048576: true; the input reads as it did. -/
def fnExactCrossOfUptoRow : OpenClaim := { program := "ytbekebjmnccbkaa", sum := "bf02cf8a9fa14235b859e4446b81fefcfd7a9b02db369161d9a5a5ba143ae0f5", func := "loop.example/g01299/laws.FnExactCrossOf", spec := "fnExactCrossOf", unfollowed := true, recurses := true, apart := false, narrowed := true }
def FnExactCrossOfUptoSaid : Prop := fnExactCrossOfUptoRow.holds Try.pinned (OpenSpec.upto fnExactCrossOfSpec)

/-- 'laws.FnExactBorderOf', WHERE WHAT IT READS IS OF BULK AT MOST 1048576: true; the input reads as it did. -/
def fnExactBorderOfUptoRow : OpenClaim := { program := "ytbekebjmnccbkaa", sum := "bf02cf8a9fa14235b859e4446b81fefcfd7a9b02db369161d9a5a5ba143ae0f5", func := "loop.example/g01299/laws.FnExactBorderOf", spec := "fnExactBorderOf", unfollowed := true, recurses := true, apart := false, narrowed := true }
def FnExactBorderOfUptoSaid : Prop := fnExactBorderOfUptoRow.holds Try.pinned (OpenSpec.upto fnExactBorderOfSpec)

/-- 'laws.FnExactPaintCell', WHERE WHAT IT READS IS OF BULK AT MOST 1048576: true; the input reads as it did. -/
def fnExactPaintCellUptoRow : OpenClaim := { program := "ytbekebjmnccbkaa", sum := "bf02cf8a9fa14235b859e4446b81fefcfd7a9b02db369161d9a5a5ba143ae0f5", func := "loop.example/g01299/laws.FnExactPaintCell", spec := "fnExactPaintCell", unfollowed := true, recurses := true, apart := false, narrowed := true }
def FnExactPaintCellUptoSaid : Prop := fnExactPaintCellUptoRow.holds Try.pinned (OpenSpec.upto fnExactPaintCellSpec)

/-- 'laws.FnExactBlurFlag', WHERE WHAT IT READS IS OF BULK AT MOST 1048576: true; the input reads as it did. -/
def fnExactBlurFlagUptoRow : OpenClaim := { program := "ytbekebjmnccbkaa", sum := "bf02cf8a9fa14235b859e4446b81fefcfd7a9b02db369161d9a5a5ba143ae0f5", func := "loop.example/g01299/laws.FnExactBlurFlag", spec := "fnExactBlurFlag", unfollowed := true, recurses := true, apart := false, narrowed := true }
def FnExactBlurFlagUptoSaid : Prop := fnExactBlurFlagUptoRow.holds Try.pinned (OpenSpec.upto fnExactBlurFlagSpec)

/-- 'laws.FnExactStripesOf', WHERE WHAT IT READS IS OF BULK AT MOST 1048576: true; the input reads as it did. -/
def fnExactStripesOfUptoRow : OpenClaim := { program := "ytbekebjmnccbkaa", sum := "bf02cf8a9fa14235b859e4446b81fefcfd7a9b02db369161d9a5a5ba143ae0f5", func := "loop.example/g01299/laws.FnExactStripesOf", spec := "fnExactStripesOf", unfollowed := true, recurses := true, apart := false, narrowed := true }
def FnExactStripesOfUptoSaid : Prop := fnExactStripesOfUptoRow.holds Try.pinned (OpenSpec.upto fnExactStripesOfSpec)

/-- 'laws.FnExactBlurDistance', WHERE WHAT IT READS IS OF BULK AT MOST 1048576: true; the input reads as it did. -/
def fnExactBlurDistanceUptoRow : OpenClaim := { program := "ytbekebjmnccbkaa", sum := "bf02cf8a9fa14235b859e4446b81fefcfd7a9b02db369161d9a5a5ba143ae0f5", func := "loop.example/g01299/laws.FnExactBlurDistance", spec := "fnExactBlurDistance", unfollowed := true, recurses := true, apart := false, narrowed := true }
def FnExactBlurDistanceUptoSaid : Prop := fnExactBlurDistanceUptoRow.holds Try.pinned (OpenSpec.upto fnExactBlurDistanceSpec)

/-- 'laws.FnExactLooksLike', WHERE WHAT IT READS IS OF BULK AT MOST 1048576: true; the input reads as it did. -/
def fnExactLooksLikeUptoRow : OpenClaim := { program := "ytbekebjmnccbkaa", sum := "bf02cf8a9fa14235b859e4446b81fefcfd7a9b02db369161d9a5a5ba143ae0f5", func := "loop.example/g01299/laws.FnExactLooksLike", spec := "fnExactLooksLike", unfollowed := true, recurses := true, apart := false, narrowed := true }
def FnExactLooksLikeUptoSaid : Prop := fnExactLooksLikeUptoRow.holds Try.pinned (OpenSpec.upto fnExactLooksLikeSpec)

/-- 'laws.FnExactAreDistinct', WHERE WHAT IT READS IS OF BULK AT MOST 1048576: true; the input reads as it did. -/
def fnExactAreDistinctUptoRow : OpenClaim := { program := "ytbekebjmnccbkaa", sum := "bf02cf8a9fa14235b859e4446b81fefcfd7a9b02db369161d9a5a5ba143ae0f5", func := "loop.example/g01299/laws.FnExactAreDistinct", spec := "fnExactAreDistinct", unfollowed := true, recurses := true, apart := false, narrowed := true }
def FnExactAreDistinctUptoSaid : Prop := fnExactAreDistinctUptoRow.holds Try.pinned (OpenSpec.upto fnExactAreDistinctSpec)

/-- 'laws.FnExactNearestPair', WHERE WHAT IT READS IS OF BULK AT MOST 1048576: true; the input reads as it did. -/
def fnExactNearestPairUptoRow : OpenClaim := { program := "ytbekebjmnccbkaa", sum := "bf02cf8a9fa14235b859e4446b81fefcfd7a9b02db369161d9a5a5ba143ae0f5", func := "loop.example/g01299/laws.FnExactNearestPair", spec := "fnExactNearestPair", unfollowed := true, recurses := true, apart := false, narrowed := true }
def FnExactNearestPairUptoSaid : Prop := fnExactNearestPairUptoRow.holds Try.pinned (OpenSpec.upto fnExactNearestPairSpec)

end Rows
end Go.Proofs.Ytbekebjmnccbkaa
