/-
  No cell of these rows narrows 'for every input' (looked for: loops, veiled, ifaces, maps, wideKeys, modest, calm, conditions, laid).
  DERIVED. THE GIVEN ROWS OF THIS SEAT. 10 by the template 'for every input the law returns true; each argument reads behind the call as it read before'; 0 by the template 'total and deterministic' (their statements: YtllplgjlpndpfaaTotals.lean).
  GIVEN WITH THE SEED: the statements are not yours to turn. If you find one false, say at which input.
  Laid BY PROGRAM, IN A SANDBOX (cutbox-rows.mjs): the forced cells as the released guide's own fill.sh prints them over the translation 945b553948efca93… (all of the seat's roots in one cut). By AI agents, Wed Nov 11 2026. No macro, syntax, notation, axiom, sorry.
-/
import Derived.Test.YtllplgjlpndpfaaChecked
import GoSem.Claim
import GoSem.ClaimJoined
import GoSem.ClaimMapViews
import Derived.JoinedTies
import Derived.KernelRfl
namespace Go.Proofs.Ytllplgjlpndpfaa
/- THE CELL 'sum', in the pinned program and in every row, IS THE sha256 OF THE DUMP (.gsa) THAT YtllplgjlpndpfaaProg.lean LOADS. Nothing in Lean hashes anything: it is a label: what it is worth is what the hold of that sum in a sandbox is worth. -/
noncomputable def Try.pinned : Pinned := { name := "ytllplgjlpndpfaa", sum := "945b553948efca93adec379cf73d95146bd5c71c1c3020fb147fa8ad05adb52d", checked := Try.checked }
namespace Rows
def none {H : Type} : Left H := { results := [], args := [] }

/-- 'laws.FnExactValidHoist': WHATEVER THE INPUT: true; the input reads as it did. -/
def fnExactValidHoistSpec : ChangeSpec := { name := "fnExactValidHoist", fn := fun _ => fun
  | [d] => { results := [.lit (.bool true)], args := [d] }
  | _ => none }
def fnExactValidHoistRow : OpenClaim := { program := "ytllplgjlpndpfaa", sum := "945b553948efca93adec379cf73d95146bd5c71c1c3020fb147fa8ad05adb52d", func := "loop.example/g01299/laws.FnExactValidHoist", spec := "fnExactValidHoist", apart := false }
def FnExactValidHoistSaid : Prop := fnExactValidHoistRow.holds Try.pinned (OpenSpec.ofChange fnExactValidHoistSpec)

/-- ITS FALSE NEIGHBOUR: 'it returns false'. Refute it at one input. -/
def fnExactValidHoistWrong : ChangeSpec := { name := "fnExactValidHoist", fn := fun _ => fun
  | [d] => { results := [.lit (.bool false)], args := [d] }
  | _ => none }
def FnExactValidHoistWrongFalsely : Prop := fnExactValidHoistRow.holds Try.pinned (OpenSpec.ofChange fnExactValidHoistWrong)

/-- 'laws.FnExactValidMeaning': WHATEVER THE INPUT: true; the input reads as it did. -/
def fnExactValidMeaningSpec : ChangeSpec := { name := "fnExactValidMeaning", fn := fun _ => fun
  | [d] => { results := [.lit (.bool true)], args := [d] }
  | _ => none }
def fnExactValidMeaningRow : OpenClaim := { program := "ytllplgjlpndpfaa", sum := "945b553948efca93adec379cf73d95146bd5c71c1c3020fb147fa8ad05adb52d", func := "loop.example/g01299/laws.FnExactValidMeaning", spec := "fnExactValidMeaning", unfollowed := true, recurses := true, apart := false }
def FnExactValidMeaningSaid : Prop := fnExactValidMeaningRow.holds Try.pinned (OpenSpec.ofChange fnExactValidMeaningSpec)

/-- ITS FALSE NEIGHBOUR: 'it returns false'. Refute it at one input. -/
def fnExactValidMeaningWrong : ChangeSpec := { name := "fnExactValidMeaning", fn := fun _ => fun
  | [d] => { results := [.lit (.bool false)], args := [d] }
  | _ => none }
def FnExactValidMeaningWrongFalsely : Prop := fnExactValidMeaningRow.holds Try.pinned (OpenSpec.ofChange fnExactValidMeaningWrong)

/-- 'laws.FnExactWithoutSubs': WHATEVER THE INPUT: true; the input reads as it did. -/
def fnExactWithoutSubsSpec : ChangeSpec := { name := "fnExactWithoutSubs", fn := fun _ => fun
  | [d] => { results := [.lit (.bool true)], args := [d] }
  | _ => none }
def fnExactWithoutSubsRow : OpenClaim := { program := "ytllplgjlpndpfaa", sum := "945b553948efca93adec379cf73d95146bd5c71c1c3020fb147fa8ad05adb52d", func := "loop.example/g01299/laws.FnExactWithoutSubs", spec := "fnExactWithoutSubs", apart := false }
def FnExactWithoutSubsSaid : Prop := fnExactWithoutSubsRow.holds Try.pinned (OpenSpec.ofChange fnExactWithoutSubsSpec)

/-- ITS FALSE NEIGHBOUR: 'it returns false'. Refute it at one input. -/
def fnExactWithoutSubsWrong : ChangeSpec := { name := "fnExactWithoutSubs", fn := fun _ => fun
  | [d] => { results := [.lit (.bool false)], args := [d] }
  | _ => none }
def FnExactWithoutSubsWrongFalsely : Prop := fnExactWithoutSubsRow.holds Try.pinned (OpenSpec.ofChange fnExactWithoutSubsWrong)

/-- 'laws.FnExactAlikeHoists': WHATEVER THE INPUT: true; the input reads as it did. -/
def fnExactAlikeHoistsSpec : ChangeSpec := { name := "fnExactAlikeHoists", fn := fun _ => fun
  | [d1, d2] => { results := [.lit (.bool true)], args := [d1, d2] }
  | _ => none }
def fnExactAlikeHoistsRow : OpenClaim := { program := "ytllplgjlpndpfaa", sum := "945b553948efca93adec379cf73d95146bd5c71c1c3020fb147fa8ad05adb52d", func := "loop.example/g01299/laws.FnExactAlikeHoists", spec := "fnExactAlikeHoists", apart := false }
def FnExactAlikeHoistsSaid : Prop := fnExactAlikeHoistsRow.holds Try.pinned (OpenSpec.ofChange fnExactAlikeHoistsSpec)

/-- ITS FALSE NEIGHBOUR: 'it returns false'. Refute it at one input. -/
def fnExactAlikeHoistsWrong : ChangeSpec := { name := "fnExactAlikeHoists", fn := fun _ => fun
  | [d1, d2] => { results := [.lit (.bool false)], args := [d1, d2] }
  | _ => none }
def FnExactAlikeHoistsWrongFalsely : Prop := fnExactAlikeHoistsRow.holds Try.pinned (OpenSpec.ofChange fnExactAlikeHoistsWrong)

/-- 'laws.FnExactMeaningOf': WHATEVER THE INPUT: true; the input reads as it did. -/
def fnExactMeaningOfSpec : ChangeSpec := { name := "fnExactMeaningOf", fn := fun _ => fun
  | [d] => { results := [.lit (.bool true)], args := [d] }
  | _ => none }
def fnExactMeaningOfRow : OpenClaim := { program := "ytllplgjlpndpfaa", sum := "945b553948efca93adec379cf73d95146bd5c71c1c3020fb147fa8ad05adb52d", func := "loop.example/g01299/laws.FnExactMeaningOf", spec := "fnExactMeaningOf", apart := false }
def FnExactMeaningOfSaid : Prop := fnExactMeaningOfRow.holds Try.pinned (OpenSpec.ofChange fnExactMeaningOfSpec)

/-- ITS FALSE NEIGHBOUR: 'it returns false'. Refute it at one input. -/
def fnExactMeaningOfWrong : ChangeSpec := { name := "fnExactMeaningOf", fn := fun _ => fun
  | [d] => { results := [.lit (.bool false)], args := [d] }
  | _ => none }
def FnExactMeaningOfWrongFalsely : Prop := fnExactMeaningOfRow.holds Try.pinned (OpenSpec.ofChange fnExactMeaningOfWrong)

/-- 'laws.FnExactSpelledWord': WHATEVER THE INPUT: true; the input reads as it did. -/
def fnExactSpelledWordSpec : ChangeSpec := { name := "fnExactSpelledWord", fn := fun _ => fun
  | [d] => { results := [.lit (.bool true)], args := [d] }
  | _ => none }
def fnExactSpelledWordRow : OpenClaim := { program := "ytllplgjlpndpfaa", sum := "945b553948efca93adec379cf73d95146bd5c71c1c3020fb147fa8ad05adb52d", func := "loop.example/g01299/laws.FnExactSpelledWord", spec := "fnExactSpelledWord", unfollowed := true, recurses := true, apart := false }
def FnExactSpelledWordSaid : Prop := fnExactSpelledWordRow.holds Try.pinned (OpenSpec.ofChange fnExactSpelledWordSpec)

/-- ITS FALSE NEIGHBOUR: 'it returns false'. Refute it at one input. -/
def fnExactSpelledWordWrong : ChangeSpec := { name := "fnExactSpelledWord", fn := fun _ => fun
  | [d] => { results := [.lit (.bool false)], args := [d] }
  | _ => none }
def FnExactSpelledWordWrongFalsely : Prop := fnExactSpelledWordRow.holds Try.pinned (OpenSpec.ofChange fnExactSpelledWordWrong)

/-- 'laws.FnExactMeaningIf': WHATEVER THE INPUT: true; the input reads as it did. -/
def fnExactMeaningIfSpec : ChangeSpec := { name := "fnExactMeaningIf", fn := fun _ => fun
  | [d1, d2, d3] => { results := [.lit (.bool true)], args := [d1, d2, d3] }
  | _ => none }
def fnExactMeaningIfRow : OpenClaim := { program := "ytllplgjlpndpfaa", sum := "945b553948efca93adec379cf73d95146bd5c71c1c3020fb147fa8ad05adb52d", func := "loop.example/g01299/laws.FnExactMeaningIf", spec := "fnExactMeaningIf", apart := false }
def FnExactMeaningIfSaid : Prop := fnExactMeaningIfRow.holds Try.pinned (OpenSpec.ofChange fnExactMeaningIfSpec)

/-- ITS FALSE NEIGHBOUR: 'it returns false'. Refute it at one input. -/
def fnExactMeaningIfWrong : ChangeSpec := { name := "fnExactMeaningIf", fn := fun _ => fun
  | [d1, d2, d3] => { results := [.lit (.bool false)], args := [d1, d2, d3] }
  | _ => none }
def FnExactMeaningIfWrongFalsely : Prop := fnExactMeaningIfRow.holds Try.pinned (OpenSpec.ofChange fnExactMeaningIfWrong)

/-- 'laws.FnExactGroupsOf': WHATEVER THE INPUT: true; the input reads as it did. -/
def fnExactGroupsOfSpec : ChangeSpec := { name := "fnExactGroupsOf", fn := fun _ => fun
  | [d] => { results := [.lit (.bool true)], args := [d] }
  | _ => none }
def fnExactGroupsOfRow : OpenClaim := { program := "ytllplgjlpndpfaa", sum := "945b553948efca93adec379cf73d95146bd5c71c1c3020fb147fa8ad05adb52d", func := "loop.example/g01299/laws.FnExactGroupsOf", spec := "fnExactGroupsOf", unfollowed := true, recurses := true, apart := false }
def FnExactGroupsOfSaid : Prop := fnExactGroupsOfRow.holds Try.pinned (OpenSpec.ofChange fnExactGroupsOfSpec)

/-- ITS FALSE NEIGHBOUR: 'it returns false'. Refute it at one input. -/
def fnExactGroupsOfWrong : ChangeSpec := { name := "fnExactGroupsOf", fn := fun _ => fun
  | [d] => { results := [.lit (.bool false)], args := [d] }
  | _ => none }
def FnExactGroupsOfWrongFalsely : Prop := fnExactGroupsOfRow.holds Try.pinned (OpenSpec.ofChange fnExactGroupsOfWrong)

/-- 'laws.FnExactSpoiledBy': WHATEVER THE INPUT: true; the input reads as it did. -/
def fnExactSpoiledBySpec : ChangeSpec := { name := "fnExactSpoiledBy", fn := fun _ => fun
  | [d1, d2, d3] => { results := [.lit (.bool true)], args := [d1, d2, d3] }
  | _ => none }
def fnExactSpoiledByRow : OpenClaim := { program := "ytllplgjlpndpfaa", sum := "945b553948efca93adec379cf73d95146bd5c71c1c3020fb147fa8ad05adb52d", func := "loop.example/g01299/laws.FnExactSpoiledBy", spec := "fnExactSpoiledBy", apart := false }
def FnExactSpoiledBySaid : Prop := fnExactSpoiledByRow.holds Try.pinned (OpenSpec.ofChange fnExactSpoiledBySpec)

/-- ITS FALSE NEIGHBOUR: 'it returns false'. Refute it at one input. -/
def fnExactSpoiledByWrong : ChangeSpec := { name := "fnExactSpoiledBy", fn := fun _ => fun
  | [d1, d2, d3] => { results := [.lit (.bool false)], args := [d1, d2, d3] }
  | _ => none }
def FnExactSpoiledByWrongFalsely : Prop := fnExactSpoiledByRow.holds Try.pinned (OpenSpec.ofChange fnExactSpoiledByWrong)

/-- 'laws.FnExactTextFromHoists': WHATEVER THE INPUT: true; the input reads as it did. -/
def fnExactTextFromHoistsSpec : ChangeSpec := { name := "fnExactTextFromHoists", fn := fun _ => fun
  | [d] => { results := [.lit (.bool true)], args := [d] }
  | _ => none }
def fnExactTextFromHoistsRow : OpenClaim := { program := "ytllplgjlpndpfaa", sum := "945b553948efca93adec379cf73d95146bd5c71c1c3020fb147fa8ad05adb52d", func := "loop.example/g01299/laws.FnExactTextFromHoists", spec := "fnExactTextFromHoists", inPlace := ["internal/abi.NoEscape", "internal/bytealg.MakeNoZero"], unfollowed := true, recurses := true, apart := false }
def FnExactTextFromHoistsSaid : Prop := fnExactTextFromHoistsRow.holds Try.pinned (OpenSpec.ofChange fnExactTextFromHoistsSpec)

/-- ITS FALSE NEIGHBOUR: 'it returns false'. Refute it at one input. -/
def fnExactTextFromHoistsWrong : ChangeSpec := { name := "fnExactTextFromHoists", fn := fun _ => fun
  | [d] => { results := [.lit (.bool false)], args := [d] }
  | _ => none }
def FnExactTextFromHoistsWrongFalsely : Prop := fnExactTextFromHoistsRow.holds Try.pinned (OpenSpec.ofChange fnExactTextFromHoistsWrong)

/- THE SECOND FORM. 'bulk': how many values and letters a reading holds, each counted each time it is reached (what is shared counts as often as it is met; a slice's spare places count too). A statement '..UptoSaid' is the law's where the arguments, and the package variables that the reading takes, are together of bulk at most 1048576: NARROWER than '..Said'. Prove '..Said' where nothing that the law and all that it calls make is longer than what came in: it says more and counts as full. Else prove '..UptoSaid'. A law counts once. -/
mutual
def uptoBulk {H : Type} : DataW H → Nat
  | .lit (.string bytes) => bytes.length + 1
  | .lit _ => 1
  | .nil => 1
  | .ptr d => uptoBulk d + 1
  | .slice elems spare => uptoBulkAll elems + uptoBulkAll spare + 1
  | .agg parts => uptoBulkAll parts + 1
  | .iface _ d => uptoBulk d + 1
  | .map entries => uptoBulkEntries entries + 1
  | .held _ => 1
def uptoBulkAll {H : Type} : List (DataW H) → Nat
  | [] => 0
  | d :: r => uptoBulk d + uptoBulkAll r
def uptoBulkEntries {H : Type} : List (Lit × DataW H) → Nat
  | [] => 0
  | x :: r => uptoBulkEntry x + uptoBulkEntries r
def uptoBulkEntry {H : Type} : Lit × DataW H → Nat
  | (.string bytes, d) => bytes.length + uptoBulk d + 1
  | (_, d) => uptoBulk d + 1
 end
def uptoSmall : (H : Type) → List (DataW H) → Bool := fun _ ds => decide (uptoBulkAll ds ≤ 1048576)
def OpenSpec.upto (s : _root_.Go.ChangeSpec) : _root_.Go.OpenSpec := { _root_.Go.OpenSpec.ofChange s with cond := some uptoSmall }

/-- 'laws.FnExactValidHoist', WHERE WHAT IT READS IS OF BULK AT MOST 1048576: true; the input reads as it did. -/
def fnExactValidHoistUptoRow : OpenClaim := { program := "ytllplgjlpndpfaa", sum := "945b553948efca93adec379cf73d95146bd5c71c1c3020fb147fa8ad05adb52d", func := "loop.example/g01299/laws.FnExactValidHoist", spec := "fnExactValidHoist", apart := false, narrowed := true }
def FnExactValidHoistUptoSaid : Prop := fnExactValidHoistUptoRow.holds Try.pinned (OpenSpec.upto fnExactValidHoistSpec)

/-- 'laws.FnExactValidMeaning', WHERE WHAT IT READS IS OF BULK AT MOST 1048576: true; the input reads as it did. -/
def fnExactValidMeaningUptoRow : OpenClaim := { program := "ytllplgjlpndpfaa", sum := "945b553948efca93adec379cf73d95146bd5c71c1c3020fb147fa8ad05adb52d", func := "loop.example/g01299/laws.FnExactValidMeaning", spec := "fnExactValidMeaning", unfollowed := true, recurses := true, apart := false, narrowed := true }
def FnExactValidMeaningUptoSaid : Prop := fnExactValidMeaningUptoRow.holds Try.pinned (OpenSpec.upto fnExactValidMeaningSpec)

/-- 'laws.FnExactWithoutSubs', WHERE WHAT IT READS IS OF BULK AT MOST 1048576: true; the input reads as it did. -/
def fnExactWithoutSubsUptoRow : OpenClaim := { program := "ytllplgjlpndpfaa", sum := "945b553948efca93adec379cf73d95146bd5c71c1c3020fb147fa8ad05adb52d", func := "loop.example/g01299/laws.FnExactWithoutSubs", spec := "fnExactWithoutSubs", apart := false, narrowed := true }
def FnExactWithoutSubsUptoSaid : Prop := fnExactWithoutSubsUptoRow.holds Try.pinned (OpenSpec.upto fnExactWithoutSubsSpec)

/-- 'laws.FnExactAlikeHoists', WHERE WHAT IT READS IS OF BULK AT MOST 1048576: true; the input reads as it did. -/
def fnExactAlikeHoistsUptoRow : OpenClaim := { program := "ytllplgjlpndpfaa", sum := "945b553948efca93adec379cf73d95146bd5c71c1c3020fb147fa8ad05adb52d", func := "loop.example/g01299/laws.FnExactAlikeHoists", spec := "fnExactAlikeHoists", apart := false, narrowed := true }
def FnExactAlikeHoistsUptoSaid : Prop := fnExactAlikeHoistsUptoRow.holds Try.pinned (OpenSpec.upto fnExactAlikeHoistsSpec)

/-- 'laws.FnExactMeaningOf', WHERE WHAT IT READS IS OF BULK AT MOST 1048576: true; the input reads as it did. -/
def fnExactMeaningOfUptoRow : OpenClaim := { program := "ytllplgjlpndpfaa", sum := "945b553948efca93adec379cf73d95146bd5c71c1c3020fb147fa8ad05adb52d", func := "loop.example/g01299/laws.FnExactMeaningOf", spec := "fnExactMeaningOf", apart := false, narrowed := true }
def FnExactMeaningOfUptoSaid : Prop := fnExactMeaningOfUptoRow.holds Try.pinned (OpenSpec.upto fnExactMeaningOfSpec)

/-- 'laws.FnExactSpelledWord', WHERE WHAT IT READS IS OF BULK AT MOST 1048576: true; the input reads as it did. -/
def fnExactSpelledWordUptoRow : OpenClaim := { program := "ytllplgjlpndpfaa", sum := "945b553948efca93adec379cf73d95146bd5c71c1c3020fb147fa8ad05adb52d", func := "loop.example/g01299/laws.FnExactSpelledWord", spec := "fnExactSpelledWord", unfollowed := true, recurses := true, apart := false, narrowed := true }
def FnExactSpelledWordUptoSaid : Prop := fnExactSpelledWordUptoRow.holds Try.pinned (OpenSpec.upto fnExactSpelledWordSpec)

/-- 'laws.FnExactMeaningIf', WHERE WHAT IT READS IS OF BULK AT MOST 1048576: true; the input reads as it did. -/
def fnExactMeaningIfUptoRow : OpenClaim := { program := "ytllplgjlpndpfaa", sum := "945b553948efca93adec379cf73d95146bd5c71c1c3020fb147fa8ad05adb52d", func := "loop.example/g01299/laws.FnExactMeaningIf", spec := "fnExactMeaningIf", apart := false, narrowed := true }
def FnExactMeaningIfUptoSaid : Prop := fnExactMeaningIfUptoRow.holds Try.pinned (OpenSpec.upto fnExactMeaningIfSpec)

/-- 'laws.FnExactGroupsOf', WHERE WHAT IT READS IS OF BULK AT MOST 1048576: true; the input reads as it did. -/
def fnExactGroupsOfUptoRow : OpenClaim := { program := "ytllplgjlpndpfaa", sum := "945b553948efca93adec379cf73d95146bd5c71c1c3020fb147fa8ad05adb52d", func := "loop.example/g01299/laws.FnExactGroupsOf", spec := "fnExactGroupsOf", unfollowed := true, recurses := true, apart := false, narrowed := true }
def FnExactGroupsOfUptoSaid : Prop := fnExactGroupsOfUptoRow.holds Try.pinned (OpenSpec.upto fnExactGroupsOfSpec)

/-- 'laws.FnExactSpoiledBy', WHERE WHAT IT READS IS OF BULK AT MOST 1048576: true; the input reads as it did. -/
def fnExactSpoiledByUptoRow : OpenClaim := { program := "ytllplgjlpndpfaa", sum := "945b553948efca93adec379cf73d95146bd5c71c1c3020fb147fa8ad05adb52d", func := "loop.example/g01299/laws.FnExactSpoiledBy", spec := "fnExactSpoiledBy", apart := false, narrowed := true }
def FnExactSpoiledByUptoSaid : Prop := fnExactSpoiledByUptoRow.holds Try.pinned (OpenSpec.upto fnExactSpoiledBySpec)

/-- 'laws.FnExactTextFromHoists', WHERE WHAT IT READS IS OF BULK AT MOST 1048576: true; the input reads as it did. -/
def fnExactTextFromHoistsUptoRow : OpenClaim := { program := "ytllplgjlpndpfaa", sum := "945b553948efca93adec379cf73d95146bd5c71c1c3020fb147fa8ad05adb52d", func := "loop.example/g01299/laws.FnExactTextFromHoists", spec := "fnExactTextFromHoists", inPlace := ["internal/abi.NoEscape", "internal/bytealg.MakeNoZero"], unfollowed := true, recurses := true, apart := false, narrowed := true }
def FnExactTextFromHoistsUptoSaid : Prop := fnExactTextFromHoistsUptoRow.holds Try.pinned (OpenSpec.upto fnExactTextFromHoistsSpec)

end Rows
end Go.Proofs.Ytllplgjlpndpfaa
