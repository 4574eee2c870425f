/-
  No cell of these rows narrows 'for every input' (looked for: loops, veiled, ifaces, maps, wideKeys, modest, calm, conditions, laid).
  DERIVED. THE GIVEN ROWS OF THIS SEAT. 12 by the template 'for every input the law returns true; each argument reads behind the call as it read before'; 0 by the template 'total and deterministic' (their statements: YtnokdbnlagoidaaTotals.lean).
  GIVEN WITH THE SEED: the statements are not yours to turn. If you find one false, say at which input.
  Laid BY PROGRAM, IN A SANDBOX (cutbox-rows.mjs): the forced cells as the released guide's own fill.sh prints them over the translation 94e06b5ef5a72dd5… (all of the seat's roots in one cut). By AI agents, Wed Nov 11 2026. No macro, syntax, notation, axiom, sorry.
-/
import Derived.Test.YtnokdbnlagoidaaChecked
import GoSem.Claim
import GoSem.ClaimJoined
import GoSem.ClaimMapViews
import Derived.JoinedTies
import Derived.KernelRfl
namespace Go.Proofs.Ytnokdbnlagoidaa
/- THE CELL 'sum', in the pinned program and in every row, IS THE sha256 OF THE DUMP (.gsa) THAT YtnokdbnlagoidaaProg.lean LOADS. Nothing in Lean hashes anything: it is a label: what it is worth is what the hold of that sum in a sandbox is worth. -/
noncomputable def Try.pinned : Pinned := { name := "ytnokdbnlagoidaa", sum := "94e06b5ef5a72dd503908dc147cd56a80eec977589924f04229faf33a6e97147", checked := Try.checked }
namespace Rows
def none {H : Type} : Left H := { results := [], args := [] }

/-- 'laws.FnExactHoistFor': WHATEVER THE INPUT: true; the input reads as it did. -/
def fnExactHoistForSpec : ChangeSpec := { name := "fnExactHoistFor", fn := fun _ => fun
  | [d1, d2, d3] => { results := [.lit (.bool true)], args := [d1, d2, d3] }
  | _ => none }
def fnExactHoistForRow : OpenClaim := { program := "ytnokdbnlagoidaa", sum := "94e06b5ef5a72dd503908dc147cd56a80eec977589924f04229faf33a6e97147", func := "loop.example/g01299/laws.FnExactHoistFor", spec := "fnExactHoistFor", unfollowed := true, recurses := true, apart := false }
def FnExactHoistForSaid : Prop := fnExactHoistForRow.holds Try.pinned (OpenSpec.ofChange fnExactHoistForSpec)

/-- ITS FALSE NEIGHBOUR: 'it returns false'. Refute it at one input. -/
def fnExactHoistForWrong : ChangeSpec := { name := "fnExactHoistFor", fn := fun _ => fun
  | [d1, d2, d3] => { results := [.lit (.bool false)], args := [d1, d2, d3] }
  | _ => none }
def FnExactHoistForWrongFalsely : Prop := fnExactHoistForRow.holds Try.pinned (OpenSpec.ofChange fnExactHoistForWrong)

/-- 'laws.FnExactLeastSets': WHATEVER THE INPUT: true; the input reads as it did. -/
def fnExactLeastSetsSpec : ChangeSpec := { name := "fnExactLeastSets", fn := fun _ => fun
  | [d1, d2] => { results := [.lit (.bool true)], args := [d1, d2] }
  | _ => none }
def fnExactLeastSetsRow : OpenClaim := { program := "ytnokdbnlagoidaa", sum := "94e06b5ef5a72dd503908dc147cd56a80eec977589924f04229faf33a6e97147", func := "loop.example/g01299/laws.FnExactLeastSets", spec := "fnExactLeastSets", unfollowed := true, recurses := true, apart := false }
def FnExactLeastSetsSaid : Prop := fnExactLeastSetsRow.holds Try.pinned (OpenSpec.ofChange fnExactLeastSetsSpec)

/-- ITS FALSE NEIGHBOUR: 'it returns false'. Refute it at one input. -/
def fnExactLeastSetsWrong : ChangeSpec := { name := "fnExactLeastSets", fn := fun _ => fun
  | [d1, d2] => { results := [.lit (.bool false)], args := [d1, d2] }
  | _ => none }
def FnExactLeastSetsWrongFalsely : Prop := fnExactLeastSetsRow.holds Try.pinned (OpenSpec.ofChange fnExactLeastSetsWrong)

/-- 'laws.FnExactWaysToHoist': WHATEVER THE INPUT: true; the input reads as it did. -/
def fnExactWaysToHoistSpec : ChangeSpec := { name := "fnExactWaysToHoist", fn := fun _ => fun
  | [d1, d2, d3] => { results := [.lit (.bool true)], args := [d1, d2, d3] }
  | _ => none }
def fnExactWaysToHoistRow : OpenClaim := { program := "ytnokdbnlagoidaa", sum := "94e06b5ef5a72dd503908dc147cd56a80eec977589924f04229faf33a6e97147", func := "loop.example/g01299/laws.FnExactWaysToHoist", spec := "fnExactWaysToHoist", unfollowed := true, recurses := true, apart := false }
def FnExactWaysToHoistSaid : Prop := fnExactWaysToHoistRow.holds Try.pinned (OpenSpec.ofChange fnExactWaysToHoistSpec)

/-- ITS FALSE NEIGHBOUR: 'it returns false'. Refute it at one input. -/
def fnExactWaysToHoistWrong : ChangeSpec := { name := "fnExactWaysToHoist", fn := fun _ => fun
  | [d1, d2, d3] => { results := [.lit (.bool false)], args := [d1, d2, d3] }
  | _ => none }
def FnExactWaysToHoistWrongFalsely : Prop := fnExactWaysToHoistRow.holds Try.pinned (OpenSpec.ofChange fnExactWaysToHoistWrong)

/-- 'laws.FnExactCountMeanings': WHATEVER THE INPUT: true; the input reads as it did. -/
def fnExactCountMeaningsSpec : ChangeSpec := { name := "fnExactCountMeanings", fn := fun _ => fun
  | [d1, d2, d3, d4] => { results := [.lit (.bool true)], args := [d1, d2, d3, d4] }
  | _ => none }
def fnExactCountMeaningsRow : OpenClaim := { program := "ytnokdbnlagoidaa", sum := "94e06b5ef5a72dd503908dc147cd56a80eec977589924f04229faf33a6e97147", func := "loop.example/g01299/laws.FnExactCountMeanings", spec := "fnExactCountMeanings", unfollowed := true, recurses := true, apart := false }
def FnExactCountMeaningsSaid : Prop := fnExactCountMeaningsRow.holds Try.pinned (OpenSpec.ofChange fnExactCountMeaningsSpec)

/-- ITS FALSE NEIGHBOUR: 'it returns false'. Refute it at one input. -/
def fnExactCountMeaningsWrong : ChangeSpec := { name := "fnExactCountMeanings", fn := fun _ => fun
  | [d1, d2, d3, d4] => { results := [.lit (.bool false)], args := [d1, d2, d3, d4] }
  | _ => none }
def FnExactCountMeaningsWrongFalsely : Prop := fnExactCountMeaningsRow.holds Try.pinned (OpenSpec.ofChange fnExactCountMeaningsWrong)

/-- 'laws.FnCounted': WHATEVER THE INPUT: true; the input reads as it did. -/
def fnCountedSpec : ChangeSpec := { name := "fnCounted", fn := fun _ => fun
  | [d1, d2] => { results := [.lit (.bool true)], args := [d1, d2] }
  | _ => none }
def fnCountedRow : OpenClaim := { program := "ytnokdbnlagoidaa", sum := "94e06b5ef5a72dd503908dc147cd56a80eec977589924f04229faf33a6e97147", func := "loop.example/g01299/laws.FnCounted", spec := "fnCounted", unfollowed := true, recurses := true, apart := false }
def FnCountedSaid : Prop := fnCountedRow.holds Try.pinned (OpenSpec.ofChange fnCountedSpec)

/-- ITS FALSE NEIGHBOUR: 'it returns false'. Refute it at one input. -/
def fnCountedWrong : ChangeSpec := { name := "fnCounted", fn := fun _ => fun
  | [d1, d2] => { results := [.lit (.bool false)], args := [d1, d2] }
  | _ => none }
def FnCountedWrongFalsely : Prop := fnCountedRow.holds Try.pinned (OpenSpec.ofChange fnCountedWrong)

/-- 'laws.FnExactSameBook': WHATEVER THE INPUT: true; the input reads as it did. -/
def fnExactSameBookSpec : ChangeSpec := { name := "fnExactSameBook", fn := fun _ => fun
  | [d1, d2] => { results := [.lit (.bool true)], args := [d1, d2] }
  | _ => none }
def fnExactSameBookRow : OpenClaim := { program := "ytnokdbnlagoidaa", sum := "94e06b5ef5a72dd503908dc147cd56a80eec977589924f04229faf33a6e97147", func := "loop.example/g01299/laws.FnExactSameBook", spec := "fnExactSameBook", apart := false }
def FnExactSameBookSaid : Prop := fnExactSameBookRow.holds Try.pinned (OpenSpec.ofChange fnExactSameBookSpec)

/-- ITS FALSE NEIGHBOUR: 'it returns false'. Refute it at one input. -/
def fnExactSameBookWrong : ChangeSpec := { name := "fnExactSameBook", fn := fun _ => fun
  | [d1, d2] => { results := [.lit (.bool false)], args := [d1, d2] }
  | _ => none }
def FnExactSameBookWrongFalsely : Prop := fnExactSameBookRow.holds Try.pinned (OpenSpec.ofChange fnExactSameBookWrong)

/-- 'laws.FnExactRoomOf': WHATEVER THE INPUT: true; the input reads as it did. -/
def fnExactRoomOfSpec : ChangeSpec := { name := "fnExactRoomOf", fn := fun _ => fun
  | [d] => { results := [.lit (.bool true)], args := [d] }
  | _ => none }
def fnExactRoomOfRow : OpenClaim := { program := "ytnokdbnlagoidaa", sum := "94e06b5ef5a72dd503908dc147cd56a80eec977589924f04229faf33a6e97147", func := "loop.example/g01299/laws.FnExactRoomOf", spec := "fnExactRoomOf", unfollowed := true, recurses := true, apart := false }
def FnExactRoomOfSaid : Prop := fnExactRoomOfRow.holds Try.pinned (OpenSpec.ofChange fnExactRoomOfSpec)

/-- ITS FALSE NEIGHBOUR: 'it returns false'. Refute it at one input. -/
def fnExactRoomOfWrong : ChangeSpec := { name := "fnExactRoomOf", fn := fun _ => fun
  | [d] => { results := [.lit (.bool false)], args := [d] }
  | _ => none }
def FnExactRoomOfWrongFalsely : Prop := fnExactRoomOfRow.holds Try.pinned (OpenSpec.ofChange fnExactRoomOfWrong)

/-- 'laws.FnExactValidBook': WHATEVER THE INPUT: true; the input reads as it did. -/
def fnExactValidBookSpec : ChangeSpec := { name := "fnExactValidBook", fn := fun _ => fun
  | [d] => { results := [.lit (.bool true)], args := [d] }
  | _ => none }
def fnExactValidBookRow : OpenClaim := { program := "ytnokdbnlagoidaa", sum := "94e06b5ef5a72dd503908dc147cd56a80eec977589924f04229faf33a6e97147", func := "loop.example/g01299/laws.FnExactValidBook", spec := "fnExactValidBook", unfollowed := true, recurses := true, apart := false }
def FnExactValidBookSaid : Prop := fnExactValidBookRow.holds Try.pinned (OpenSpec.ofChange fnExactValidBookSpec)

/-- ITS FALSE NEIGHBOUR: 'it returns false'. Refute it at one input. -/
def fnExactValidBookWrong : ChangeSpec := { name := "fnExactValidBook", fn := fun _ => fun
  | [d] => { results := [.lit (.bool false)], args := [d] }
  | _ => none }
def FnExactValidBookWrongFalsely : Prop := fnExactValidBookRow.holds Try.pinned (OpenSpec.ofChange fnExactValidBookWrong)

/-- 'laws.FnExactFindPhrase': WHATEVER THE INPUT: true; the input reads as it did. -/
def fnExactFindPhraseSpec : ChangeSpec := { name := "fnExactFindPhrase", fn := fun _ => fun
  | [d1, d2] => { results := [.lit (.bool true)], args := [d1, d2] }
  | _ => none }
def fnExactFindPhraseRow : OpenClaim := { program := "ytnokdbnlagoidaa", sum := "94e06b5ef5a72dd503908dc147cd56a80eec977589924f04229faf33a6e97147", func := "loop.example/g01299/laws.FnExactFindPhrase", spec := "fnExactFindPhrase", unfollowed := true, recurses := true, apart := false }
def FnExactFindPhraseSaid : Prop := fnExactFindPhraseRow.holds Try.pinned (OpenSpec.ofChange fnExactFindPhraseSpec)

/-- ITS FALSE NEIGHBOUR: 'it returns false'. Refute it at one input. -/
def fnExactFindPhraseWrong : ChangeSpec := { name := "fnExactFindPhrase", fn := fun _ => fun
  | [d1, d2] => { results := [.lit (.bool false)], args := [d1, d2] }
  | _ => none }
def FnExactFindPhraseWrongFalsely : Prop := fnExactFindPhraseRow.holds Try.pinned (OpenSpec.ofChange fnExactFindPhraseWrong)

/-- 'laws.FnExactMeaningAt': WHATEVER THE INPUT: true; the input reads as it did. -/
def fnExactMeaningAtSpec : ChangeSpec := { name := "fnExactMeaningAt", fn := fun _ => fun
  | [d1, d2] => { results := [.lit (.bool true)], args := [d1, d2] }
  | _ => none }
def fnExactMeaningAtRow : OpenClaim := { program := "ytnokdbnlagoidaa", sum := "94e06b5ef5a72dd503908dc147cd56a80eec977589924f04229faf33a6e97147", func := "loop.example/g01299/laws.FnExactMeaningAt", spec := "fnExactMeaningAt", unfollowed := true, recurses := true, apart := false }
def FnExactMeaningAtSaid : Prop := fnExactMeaningAtRow.holds Try.pinned (OpenSpec.ofChange fnExactMeaningAtSpec)

/-- ITS FALSE NEIGHBOUR: 'it returns false'. Refute it at one input. -/
def fnExactMeaningAtWrong : ChangeSpec := { name := "fnExactMeaningAt", fn := fun _ => fun
  | [d1, d2] => { results := [.lit (.bool false)], args := [d1, d2] }
  | _ => none }
def FnExactMeaningAtWrongFalsely : Prop := fnExactMeaningAtRow.holds Try.pinned (OpenSpec.ofChange fnExactMeaningAtWrong)

/-- 'laws.FnExactFlagsFor': WHATEVER THE INPUT: true; the input reads as it did. -/
def fnExactFlagsForSpec : ChangeSpec := { name := "fnExactFlagsFor", fn := fun _ => fun
  | [d1, d2] => { results := [.lit (.bool true)], args := [d1, d2] }
  | _ => none }
def fnExactFlagsForRow : OpenClaim := { program := "ytnokdbnlagoidaa", sum := "94e06b5ef5a72dd503908dc147cd56a80eec977589924f04229faf33a6e97147", func := "loop.example/g01299/laws.FnExactFlagsFor", spec := "fnExactFlagsFor", unfollowed := true, recurses := true, apart := false }
def FnExactFlagsForSaid : Prop := fnExactFlagsForRow.holds Try.pinned (OpenSpec.ofChange fnExactFlagsForSpec)

/-- ITS FALSE NEIGHBOUR: 'it returns false'. Refute it at one input. -/
def fnExactFlagsForWrong : ChangeSpec := { name := "fnExactFlagsFor", fn := fun _ => fun
  | [d1, d2] => { results := [.lit (.bool false)], args := [d1, d2] }
  | _ => none }
def FnExactFlagsForWrongFalsely : Prop := fnExactFlagsForRow.holds Try.pinned (OpenSpec.ofChange fnExactFlagsForWrong)

/-- 'laws.FnExactFlagsUntilSure': WHATEVER THE INPUT: true; the input reads as it did. -/
def fnExactFlagsUntilSureSpec : ChangeSpec := { name := "fnExactFlagsUntilSure", fn := fun _ => fun
  | [d1, d2] => { results := [.lit (.bool true)], args := [d1, d2] }
  | _ => none }
def fnExactFlagsUntilSureRow : OpenClaim := { program := "ytnokdbnlagoidaa", sum := "94e06b5ef5a72dd503908dc147cd56a80eec977589924f04229faf33a6e97147", func := "loop.example/g01299/laws.FnExactFlagsUntilSure", spec := "fnExactFlagsUntilSure", unfollowed := true, recurses := true, apart := false }
def FnExactFlagsUntilSureSaid : Prop := fnExactFlagsUntilSureRow.holds Try.pinned (OpenSpec.ofChange fnExactFlagsUntilSureSpec)

/-- ITS FALSE NEIGHBOUR: 'it returns false'. Refute it at one input. -/
def fnExactFlagsUntilSureWrong : ChangeSpec := { name := "fnExactFlagsUntilSure", fn := fun _ => fun
  | [d1, d2] => { results := [.lit (.bool false)], args := [d1, d2] }
  | _ => none }
def FnExactFlagsUntilSureWrongFalsely : Prop := fnExactFlagsUntilSureRow.holds Try.pinned (OpenSpec.ofChange fnExactFlagsUntilSureWrong)

/- THE SECOND FORM. 'bulk': how many values and letters a reading holds, each counted each time it is reached (what is shared counts as often as it is met; a slice's spare places count too). A statement '..UptoSaid' is the law's where the arguments, and the package variables that the reading takes, are together of bulk at most 1048576: NARROWER than '..Said'. Prove '..Said' where nothing that the law and all that it calls make is longer than what came in: it says more and counts as full. Else prove '..UptoSaid'. A law counts once. -/
mutual
def uptoBulk {H : Type} : DataW H → Nat
  | .lit (.string bytes) => bytes.length + 1
  | .lit _ => 1
  | .nil => 1
  | .ptr d => uptoBulk d + 1
  | .slice elems spare => uptoBulkAll elems + uptoBulkAll spare + 1
  | .agg parts => uptoBulkAll parts + 1
  | .iface _ d => uptoBulk d + 1
  | .map entries => uptoBulkEntries entries + 1
  | .held _ => 1
def uptoBulkAll {H : Type} : List (DataW H) → Nat
  | [] => 0
  | d :: r => uptoBulk d + uptoBulkAll r
def uptoBulkEntries {H : Type} : List (Lit × DataW H) → Nat
  | [] => 0
  | x :: r => uptoBulkEntry x + uptoBulkEntries r
def uptoBulkEntry {H : Type} : Lit × DataW H → Nat
  | (.string bytes, d) => bytes.length + uptoBulk d + 1
  | (_, d) => uptoBulk d + 1
 end
def uptoSmall : (H : Type) → List (DataW H) → Bool := fun _ ds => decide (uptoBulkAll ds ≤ 1048576)
def OpenSpec.upto (s : _root_.Go.ChangeSpec) : _root_.Go.OpenSpec := { _root_.Go.OpenSpec.ofChange s with cond := some uptoSmall }

/-- 'laws.FnExactHoistFor', WHERE WHAT IT READS IS OF BULK AT MOST 1048576: true; the input reads as it did. -/
def fnExactHoistForUptoRow : OpenClaim := { program := "ytnokdbnlagoidaa", sum := "94e06b5ef5a72dd503908dc147cd56a80eec977589924f04229faf33a6e97147", func := "loop.example/g01299/laws.FnExactHoistFor", spec := "fnExactHoistFor", unfollowed := true, recurses := true, apart := false, narrowed := true }
def FnExactHoistForUptoSaid : Prop := fnExactHoistForUptoRow.holds Try.pinned (OpenSpec.upto fnExactHoistForSpec)

/-- 'laws.FnExactLeastSets', WHERE WHAT IT READS IS OF BULK AT MOST 1048576: true; the input reads as it did. -/
def fnExactLeastSetsUptoRow : OpenClaim := { program := "ytnokdbnlagoidaa", sum := "94e06b5ef5a72dd503908dc147cd56a80eec977589924f04229faf33a6e97147", func := "loop.example/g01299/laws.FnExactLeastSets", spec := "fnExactLeastSets", unfollowed := true, recurses := true, apart := false, narrowed := true }
def FnExactLeastSetsUptoSaid : Prop := fnExactLeastSetsUptoRow.holds Try.pinned (OpenSpec.upto fnExactLeastSetsSpec)

/-- 'laws.FnExactWaysToHoist', WHERE WHAT IT READS IS OF BULK AT MOST 1048576: true; the input reads as it did. -/
def fnExactWaysToHoistUptoRow : OpenClaim := { program := "ytnokdbnlagoidaa", sum := "94e06b5ef5a72dd503908dc147cd56a80eec977589924f04229faf33a6e97147", func := "loop.example/g01299/laws.FnExactWaysToHoist", spec := "fnExactWaysToHoist", unfollowed := true, recurses := true, apart := false, narrowed := true }
def FnExactWaysToHoistUptoSaid : Prop := fnExactWaysToHoistUptoRow.holds Try.pinned (OpenSpec.upto fnExactWaysToHoistSpec)

/-- 'laws.FnExactCountMeanings', WHERE WHAT IT READS IS OF BULK AT MOST 1048576: true; the input reads as it did. -/
def fnExactCountMeaningsUptoRow : OpenClaim := { program := "ytnokdbnlagoidaa", sum := "94e06b5ef5a72dd503908dc147cd56a80eec977589924f04229faf33a6e97147", func := "loop.example/g01299/laws.FnExactCountMeanings", spec := "fnExactCountMeanings", unfollowed := true, recurses := true, apart := false, narrowed := true }
def FnExactCountMeaningsUptoSaid : Prop := fnExactCountMeaningsUptoRow.holds Try.pinned (OpenSpec.upto fnExactCountMeaningsSpec)

/-- 'laws.FnCounted', WHERE WHAT IT READS IS OF BULK AT MOST 1048576: true; the input reads as it did. -/
def fnCountedUptoRow : OpenClaim := { program := "ytnokdbnlagoidaa", sum := "94e06b5ef5a72dd503908dc147cd56a80eec977589924f04229faf33a6e97147", func := "loop.example/g01299/laws.FnCounted", spec := "fnCounted", unfollowed := true, recurses := true, apart := false, narrowed := true }
def FnCountedUptoSaid : Prop := fnCountedUptoRow.holds Try.pinned (OpenSpec.upto fnCountedSpec)

/-- 'laws.FnExactSameBook', WHERE WHAT IT READS IS OF BULK AT MOST 1048576: true; the input reads as it did. -/
def fnExactSameBookUptoRow : OpenClaim := { program := "ytnokdbnlagoidaa", sum := "94e06b5ef5a72dd503908dc147cd56a80eec977589924f04229faf33a6e97147", func := "loop.example/g01299/laws.FnExactSameBook", spec := "fnExactSameBook", apart := false, narrowed := true }
def FnExactSameBookUptoSaid : Prop := fnExactSameBookUptoRow.holds Try.pinned (OpenSpec.upto fnExactSameBookSpec)

/-- 'laws.FnExactRoomOf', WHERE WHAT IT READS IS OF BULK AT MOST 1048576: true; the input reads as it did. -/
def fnExactRoomOfUptoRow : OpenClaim := { program := "ytnokdbnlagoidaa", sum := "94e06b5ef5a72dd503908dc147cd56a80eec977589924f04229faf33a6e97147", func := "loop.example/g01299/laws.FnExactRoomOf", spec := "fnExactRoomOf", unfollowed := true, recurses := true, apart := false, narrowed := true }
def FnExactRoomOfUptoSaid : Prop := fnExactRoomOfUptoRow.holds Try.pinned (OpenSpec.upto fnExactRoomOfSpec)

/-- 'laws.FnExactValidBook', WHERE WHAT IT READS IS OF BULK AT MOST 1048576: true; the input reads as it did. -/
def fnExactValidBookUptoRow : OpenClaim := { program := "ytnokdbnlagoidaa", sum := "94e06b5ef5a72dd503908dc147cd56a80eec977589924f04229faf33a6e97147", func := "loop.example/g01299/laws.FnExactValidBook", spec := "fnExactValidBook", unfollowed := true, recurses := true, apart := false, narrowed := true }
def FnExactValidBookUptoSaid : Prop := fnExactValidBookUptoRow.holds Try.pinned (OpenSpec.upto fnExactValidBookSpec)

/-- 'laws.FnExactFindPhrase', WHERE WHAT IT READS IS OF BULK AT MOST 1048576: true; the input reads as it did. -/
def fnExactFindPhraseUptoRow : OpenClaim := { program := "ytnokdbnlagoidaa", sum := "94e06b5ef5a72dd503908dc147cd56a80eec977589924f04229faf33a6e97147", func := "loop.example/g01299/laws.FnExactFindPhrase", spec := "fnExactFindPhrase", unfollowed := true, recurses := true, apart := false, narrowed := true }
def FnExactFindPhraseUptoSaid : Prop := fnExactFindPhraseUptoRow.holds Try.pinned (OpenSpec.upto fnExactFindPhraseSpec)

/-- 'laws.FnExactMeaningAt', WHERE WHAT IT READS IS OF BULK AT MOST 1048576: true; the input reads as it did. -/
def fnExactMeaningAtUptoRow : OpenClaim := { program := "ytnokdbnlagoidaa", sum := "94e06b5ef5a72dd503908dc147cd56a80eec977589924f04229faf33a6e97147", func := "loop.example/g01299/laws.FnExactMeaningAt", spec := "fnExactMeaningAt", unfollowed := true, recurses := true, apart := false, narrowed := true }
def FnExactMeaningAtUptoSaid : Prop := fnExactMeaningAtUptoRow.holds Try.pinned (OpenSpec.upto fnExactMeaningAtSpec)

/-- 'laws.FnExactFlagsFor', WHERE WHAT IT READS IS OF BULK AT MOST 1048576: true; the input reads as it did. -/
def fnExactFlagsForUptoRow : OpenClaim := { program := "ytnokdbnlagoidaa", sum := "94e06b5ef5a72dd503908dc147cd56a80eec977589924f04229faf33a6e97147", func := "loop.example/g01299/laws.FnExactFlagsFor", spec := "fnExactFlagsFor", unfollowed := true, recurses := true, apart := false, narrowed := true }
def FnExactFlagsForUptoSaid : Prop := fnExactFlagsForUptoRow.holds Try.pinned (OpenSpec.upto fnExactFlagsForSpec)

/-- 'laws.FnExactFlagsUntilSure', WHERE WHAT IT READS IS OF BULK AT MOST 1048576: true; the input reads as it did. -/
def fnExactFlagsUntilSureUptoRow : OpenClaim := { program := "ytnokdbnlagoidaa", sum := "94e06b5ef5a72dd503908dc147cd56a80eec977589924f04229faf33a6e97147", func := "loop.example/g01299/laws.FnExactFlagsUntilSure", spec := "fnExactFlagsUntilSure", unfollowed := true, recurses := true, apart := false, narrowed := true }
def FnExactFlagsUntilSureUptoSaid : Prop := fnExactFlagsUntilSureUptoRow.holds Try.pinned (OpenSpec.upto fnExactFlagsUntilSureSpec)

end Rows
end Go.Proofs.Ytnokdbnlagoidaa
