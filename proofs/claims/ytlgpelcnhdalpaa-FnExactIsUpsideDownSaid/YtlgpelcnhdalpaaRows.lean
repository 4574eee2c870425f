/-
  No cell of these rows narrows 'for every input' (looked for: loops, veiled, ifaces, maps, wideKeys, modest, calm, conditions, laid).
  DERIVED. THE GIVEN ROWS OF THIS SEAT. 12 by the template 'for every input the law returns true; each argument reads behind the call as it read before'; 0 by the template 'total and deterministic' (their statements: YtlgpelcnhdalpaaTotals.lean).
  GIVEN WITH THE SEED: the statements are not yours to turn. If you find one false, say at which input.
  Laid BY PROGRAM, IN A SANDBOX (cutbox-rows.mjs): the forced cells as the released guide's own fill.sh prints them over the translation 0a84dcb76c9f8cd7… (all of the seat's roots in one cut). By AI agents, Wed Nov 11 2026. No macro, syntax, notation, axiom, sorry.
-/
import Derived.Test.YtlgpelcnhdalpaaChecked
import GoSem.Claim
import GoSem.ClaimJoined
import GoSem.ClaimMapViews
import Derived.JoinedTies
import Derived.KernelRfl
namespace Go.Proofs.Ytlgpelcnhdalpaa
/- THE CELL 'sum', in the pinned program and in every row, IS THE sha256 OF THE DUMP (.gsa) THAT YtlgpelcnhdalpaaProg.lean LOADS. Nothing in Lean hashes anything: it is a label: what it is worth is what the hold of that sum in a sandbox is worth. -/
noncomputable def Try.pinned : Pinned := { name := "ytlgpelcnhdalpaa", sum := "0a84dcb76c9f8cd77d6b0201dfa5847d280027cf89cf1a7ba964b25d8497b266", checked := Try.checked }
namespace Rows
def none {H : Type} : Left H := { results := [], args := [] }

/-- 'laws.FnExactConstants': WHATEVER THE INPUT: true; the input reads as it did. -/
def fnExactConstantsSpec : ChangeSpec := { name := "fnExactConstants", fn := fun _ => fun
  | [] => { results := [.lit (.bool true)], args := [] }
  | _ => none }
def fnExactConstantsRow : OpenClaim := { program := "ytlgpelcnhdalpaa", sum := "0a84dcb76c9f8cd77d6b0201dfa5847d280027cf89cf1a7ba964b25d8497b266", func := "loop.example/g01299/laws.FnExactConstants", spec := "fnExactConstants", apart := false }
def FnExactConstantsSaid : Prop := fnExactConstantsRow.holds Try.pinned (OpenSpec.ofChange fnExactConstantsSpec)

/-- ITS FALSE NEIGHBOUR: 'it returns false'. Refute it at one input. -/
def fnExactConstantsWrong : ChangeSpec := { name := "fnExactConstants", fn := fun _ => fun
  | [] => { results := [.lit (.bool false)], args := [] }
  | _ => none }
def FnExactConstantsWrongFalsely : Prop := fnExactConstantsRow.holds Try.pinned (OpenSpec.ofChange fnExactConstantsWrong)

/-- 'laws.FnExactCodeName': WHATEVER THE INPUT: true; the input reads as it did. -/
def fnExactCodeNameSpec : ChangeSpec := { name := "fnExactCodeName", fn := fun _ => fun
  | [d] => { results := [.lit (.bool true)], args := [d] }
  | _ => none }
def fnExactCodeNameRow : OpenClaim := { program := "ytlgpelcnhdalpaa", sum := "0a84dcb76c9f8cd77d6b0201dfa5847d280027cf89cf1a7ba964b25d8497b266", func := "loop.example/g01299/laws.FnExactCodeName", spec := "fnExactCodeName", apart := false }
def FnExactCodeNameSaid : Prop := fnExactCodeNameRow.holds Try.pinned (OpenSpec.ofChange fnExactCodeNameSpec)

/-- ITS FALSE NEIGHBOUR: 'it returns false'. Refute it at one input. -/
def fnExactCodeNameWrong : ChangeSpec := { name := "fnExactCodeName", fn := fun _ => fun
  | [d] => { results := [.lit (.bool false)], args := [d] }
  | _ => none }
def FnExactCodeNameWrongFalsely : Prop := fnExactCodeNameRow.holds Try.pinned (OpenSpec.ofChange fnExactCodeNameWrong)

/-- 'laws.FnExactColourName': WHATEVER THE INPUT: true; the input reads as it did. -/
def fnExactColourNameSpec : ChangeSpec := { name := "fnExactColourName", fn := fun _ => fun
  | [d] => { results := [.lit (.bool true)], args := [d] }
  | _ => none }
def fnExactColourNameRow : OpenClaim := { program := "ytlgpelcnhdalpaa", sum := "0a84dcb76c9f8cd77d6b0201dfa5847d280027cf89cf1a7ba964b25d8497b266", func := "loop.example/g01299/laws.FnExactColourName", spec := "fnExactColourName", apart := false }
def FnExactColourNameSaid : Prop := fnExactColourNameRow.holds Try.pinned (OpenSpec.ofChange fnExactColourNameSpec)

/-- ITS FALSE NEIGHBOUR: 'it returns false'. Refute it at one input. -/
def fnExactColourNameWrong : ChangeSpec := { name := "fnExactColourName", fn := fun _ => fun
  | [d] => { results := [.lit (.bool false)], args := [d] }
  | _ => none }
def FnExactColourNameWrongFalsely : Prop := fnExactColourNameRow.holds Try.pinned (OpenSpec.ofChange fnExactColourNameWrong)

/-- 'laws.FnExactValidFlag': WHATEVER THE INPUT: true; the input reads as it did. -/
def fnExactValidFlagSpec : ChangeSpec := { name := "fnExactValidFlag", fn := fun _ => fun
  | [d] => { results := [.lit (.bool true)], args := [d] }
  | _ => none }
def fnExactValidFlagRow : OpenClaim := { program := "ytlgpelcnhdalpaa", sum := "0a84dcb76c9f8cd77d6b0201dfa5847d280027cf89cf1a7ba964b25d8497b266", func := "loop.example/g01299/laws.FnExactValidFlag", spec := "fnExactValidFlag", unfollowed := true, recurses := true, apart := false }
def FnExactValidFlagSaid : Prop := fnExactValidFlagRow.holds Try.pinned (OpenSpec.ofChange fnExactValidFlagSpec)

/-- ITS FALSE NEIGHBOUR: 'it returns false'. Refute it at one input. -/
def fnExactValidFlagWrong : ChangeSpec := { name := "fnExactValidFlag", fn := fun _ => fun
  | [d] => { results := [.lit (.bool false)], args := [d] }
  | _ => none }
def FnExactValidFlagWrongFalsely : Prop := fnExactValidFlagRow.holds Try.pinned (OpenSpec.ofChange fnExactValidFlagWrong)

/-- 'laws.FnExactSameHoist': WHATEVER THE INPUT: true; the input reads as it did. -/
def fnExactSameHoistSpec : ChangeSpec := { name := "fnExactSameHoist", fn := fun _ => fun
  | [d1, d2] => { results := [.lit (.bool true)], args := [d1, d2] }
  | _ => none }
def fnExactSameHoistRow : OpenClaim := { program := "ytlgpelcnhdalpaa", sum := "0a84dcb76c9f8cd77d6b0201dfa5847d280027cf89cf1a7ba964b25d8497b266", func := "loop.example/g01299/laws.FnExactSameHoist", spec := "fnExactSameHoist", apart := false }
def FnExactSameHoistSaid : Prop := fnExactSameHoistRow.holds Try.pinned (OpenSpec.ofChange fnExactSameHoistSpec)

/-- ITS FALSE NEIGHBOUR: 'it returns false'. Refute it at one input. -/
def fnExactSameHoistWrong : ChangeSpec := { name := "fnExactSameHoist", fn := fun _ => fun
  | [d1, d2] => { results := [.lit (.bool false)], args := [d1, d2] }
  | _ => none }
def FnExactSameHoistWrongFalsely : Prop := fnExactSameHoistRow.holds Try.pinned (OpenSpec.ofChange fnExactSameHoistWrong)

/-- 'laws.FnExactCountColours': WHATEVER THE INPUT: true; the input reads as it did. -/
def fnExactCountColoursSpec : ChangeSpec := { name := "fnExactCountColours", fn := fun _ => fun
  | [d] => { results := [.lit (.bool true)], args := [d] }
  | _ => none }
def fnExactCountColoursRow : OpenClaim := { program := "ytlgpelcnhdalpaa", sum := "0a84dcb76c9f8cd77d6b0201dfa5847d280027cf89cf1a7ba964b25d8497b266", func := "loop.example/g01299/laws.FnExactCountColours", spec := "fnExactCountColours", unfollowed := true, recurses := true, apart := false }
def FnExactCountColoursSaid : Prop := fnExactCountColoursRow.holds Try.pinned (OpenSpec.ofChange fnExactCountColoursSpec)

/-- ITS FALSE NEIGHBOUR: 'it returns false'. Refute it at one input. -/
def fnExactCountColoursWrong : ChangeSpec := { name := "fnExactCountColours", fn := fun _ => fun
  | [d] => { results := [.lit (.bool false)], args := [d] }
  | _ => none }
def FnExactCountColoursWrongFalsely : Prop := fnExactCountColoursRow.holds Try.pinned (OpenSpec.ofChange fnExactCountColoursWrong)

/-- 'laws.FnExactDistanceOf': WHATEVER THE INPUT: true; the input reads as it did. -/
def fnExactDistanceOfSpec : ChangeSpec := { name := "fnExactDistanceOf", fn := fun _ => fun
  | [d1, d2] => { results := [.lit (.bool true)], args := [d1, d2] }
  | _ => none }
def fnExactDistanceOfRow : OpenClaim := { program := "ytlgpelcnhdalpaa", sum := "0a84dcb76c9f8cd77d6b0201dfa5847d280027cf89cf1a7ba964b25d8497b266", func := "loop.example/g01299/laws.FnExactDistanceOf", spec := "fnExactDistanceOf", unfollowed := true, recurses := true, apart := false }
def FnExactDistanceOfSaid : Prop := fnExactDistanceOfRow.holds Try.pinned (OpenSpec.ofChange fnExactDistanceOfSpec)

/-- ITS FALSE NEIGHBOUR: 'it returns false'. Refute it at one input. -/
def fnExactDistanceOfWrong : ChangeSpec := { name := "fnExactDistanceOf", fn := fun _ => fun
  | [d1, d2] => { results := [.lit (.bool false)], args := [d1, d2] }
  | _ => none }
def FnExactDistanceOfWrongFalsely : Prop := fnExactDistanceOfRow.holds Try.pinned (OpenSpec.ofChange fnExactDistanceOfWrong)

/-- 'laws.FnExactCellOf': WHATEVER THE INPUT: true; the input reads as it did. -/
def fnExactCellOfSpec : ChangeSpec := { name := "fnExactCellOf", fn := fun _ => fun
  | [d1, d2, d3] => { results := [.lit (.bool true)], args := [d1, d2, d3] }
  | _ => none }
def fnExactCellOfRow : OpenClaim := { program := "ytlgpelcnhdalpaa", sum := "0a84dcb76c9f8cd77d6b0201dfa5847d280027cf89cf1a7ba964b25d8497b266", func := "loop.example/g01299/laws.FnExactCellOf", spec := "fnExactCellOf", unfollowed := true, recurses := true, apart := false }
def FnExactCellOfSaid : Prop := fnExactCellOfRow.holds Try.pinned (OpenSpec.ofChange fnExactCellOfSpec)

/-- ITS FALSE NEIGHBOUR: 'it returns false'. Refute it at one input. -/
def fnExactCellOfWrong : ChangeSpec := { name := "fnExactCellOf", fn := fun _ => fun
  | [d1, d2, d3] => { results := [.lit (.bool false)], args := [d1, d2, d3] }
  | _ => none }
def FnExactCellOfWrongFalsely : Prop := fnExactCellOfRow.holds Try.pinned (OpenSpec.ofChange fnExactCellOfWrong)

/-- 'laws.FnExactTurnFlag': WHATEVER THE INPUT: true; the input reads as it did. -/
def fnExactTurnFlagSpec : ChangeSpec := { name := "fnExactTurnFlag", fn := fun _ => fun
  | [d] => { results := [.lit (.bool true)], args := [d] }
  | _ => none }
def fnExactTurnFlagRow : OpenClaim := { program := "ytlgpelcnhdalpaa", sum := "0a84dcb76c9f8cd77d6b0201dfa5847d280027cf89cf1a7ba964b25d8497b266", func := "loop.example/g01299/laws.FnExactTurnFlag", spec := "fnExactTurnFlag", unfollowed := true, recurses := true, apart := false }
def FnExactTurnFlagSaid : Prop := fnExactTurnFlagRow.holds Try.pinned (OpenSpec.ofChange fnExactTurnFlagSpec)

/-- ITS FALSE NEIGHBOUR: 'it returns false'. Refute it at one input. -/
def fnExactTurnFlagWrong : ChangeSpec := { name := "fnExactTurnFlag", fn := fun _ => fun
  | [d] => { results := [.lit (.bool false)], args := [d] }
  | _ => none }
def FnExactTurnFlagWrongFalsely : Prop := fnExactTurnFlagRow.holds Try.pinned (OpenSpec.ofChange fnExactTurnFlagWrong)

/-- 'laws.FnExactMirrorFlag': WHATEVER THE INPUT: true; the input reads as it did. -/
def fnExactMirrorFlagSpec : ChangeSpec := { name := "fnExactMirrorFlag", fn := fun _ => fun
  | [d] => { results := [.lit (.bool true)], args := [d] }
  | _ => none }
def fnExactMirrorFlagRow : OpenClaim := { program := "ytlgpelcnhdalpaa", sum := "0a84dcb76c9f8cd77d6b0201dfa5847d280027cf89cf1a7ba964b25d8497b266", func := "loop.example/g01299/laws.FnExactMirrorFlag", spec := "fnExactMirrorFlag", unfollowed := true, recurses := true, apart := false }
def FnExactMirrorFlagSaid : Prop := fnExactMirrorFlagRow.holds Try.pinned (OpenSpec.ofChange fnExactMirrorFlagSpec)

/-- ITS FALSE NEIGHBOUR: 'it returns false'. Refute it at one input. -/
def fnExactMirrorFlagWrong : ChangeSpec := { name := "fnExactMirrorFlag", fn := fun _ => fun
  | [d] => { results := [.lit (.bool false)], args := [d] }
  | _ => none }
def FnExactMirrorFlagWrongFalsely : Prop := fnExactMirrorFlagRow.holds Try.pinned (OpenSpec.ofChange fnExactMirrorFlagWrong)

/-- 'laws.FnExactFlagText': WHATEVER THE INPUT: true; the input reads as it did. -/
def fnExactFlagTextSpec : ChangeSpec := { name := "fnExactFlagText", fn := fun _ => fun
  | [d] => { results := [.lit (.bool true)], args := [d] }
  | _ => none }
def fnExactFlagTextRow : OpenClaim := { program := "ytlgpelcnhdalpaa", sum := "0a84dcb76c9f8cd77d6b0201dfa5847d280027cf89cf1a7ba964b25d8497b266", func := "loop.example/g01299/laws.FnExactFlagText", spec := "fnExactFlagText", unfollowed := true, recurses := true, apart := false }
def FnExactFlagTextSaid : Prop := fnExactFlagTextRow.holds Try.pinned (OpenSpec.ofChange fnExactFlagTextSpec)

/-- ITS FALSE NEIGHBOUR: 'it returns false'. Refute it at one input. -/
def fnExactFlagTextWrong : ChangeSpec := { name := "fnExactFlagText", fn := fun _ => fun
  | [d] => { results := [.lit (.bool false)], args := [d] }
  | _ => none }
def FnExactFlagTextWrongFalsely : Prop := fnExactFlagTextRow.holds Try.pinned (OpenSpec.ofChange fnExactFlagTextWrong)

/-- 'laws.FnExactIsUpsideDown': WHATEVER THE INPUT: true; the input reads as it did. -/
def fnExactIsUpsideDownSpec : ChangeSpec := { name := "fnExactIsUpsideDown", fn := fun _ => fun
  | [d1, d2] => { results := [.lit (.bool true)], args := [d1, d2] }
  | _ => none }
def fnExactIsUpsideDownRow : OpenClaim := { program := "ytlgpelcnhdalpaa", sum := "0a84dcb76c9f8cd77d6b0201dfa5847d280027cf89cf1a7ba964b25d8497b266", func := "loop.example/g01299/laws.FnExactIsUpsideDown", spec := "fnExactIsUpsideDown", unfollowed := true, recurses := true, apart := false }
def FnExactIsUpsideDownSaid : Prop := fnExactIsUpsideDownRow.holds Try.pinned (OpenSpec.ofChange fnExactIsUpsideDownSpec)

/-- ITS FALSE NEIGHBOUR: 'it returns false'. Refute it at one input. -/
def fnExactIsUpsideDownWrong : ChangeSpec := { name := "fnExactIsUpsideDown", fn := fun _ => fun
  | [d1, d2] => { results := [.lit (.bool false)], args := [d1, d2] }
  | _ => none }
def FnExactIsUpsideDownWrongFalsely : Prop := fnExactIsUpsideDownRow.holds Try.pinned (OpenSpec.ofChange fnExactIsUpsideDownWrong)

/- THE SECOND FORM. 'bulk': how many values and letters a reading holds, each counted each time it is reached (what is shared counts as often as it is met; a slice's spare places count too). A statement '..UptoSaid' is the law's where the arguments, and the package variables that the reading takes, are together of bulk at most 1048576: NARROWER than '..Said'. Prove '..Said' where nothing that the law and all that it calls make is longer than what came in: it says more and counts as full. Else prove '..UptoSaid'. A law counts once. -/
mutual
def uptoBulk {H : Type} : DataW H → Nat
  | .lit (.string bytes) => bytes.length + 1
  | .lit _ => 1
  | .nil => 1
  | .ptr d => uptoBulk d + 1
  | .slice elems spare => uptoBulkAll elems + uptoBulkAll spare + 1
  | .agg parts => uptoBulkAll parts + 1
  | .iface _ d => uptoBulk d + 1
  | .map entries => uptoBulkEntries entries + 1
  | .held _ => 1
def uptoBulkAll {H : Type} : List (DataW H) → Nat
  | [] => 0
  | d :: r => uptoBulk d + uptoBulkAll r
def uptoBulkEntries {H : Type} : List (Lit × DataW H) → Nat
  | [] => 0
  | x :: r => uptoBulkEntry x + uptoBulkEntries r
def uptoBulkEntry {H : Type} : Lit × DataW H → Nat
  | (.string bytes, d) => bytes.length + uptoBulk d + 1
  | (_, d) => uptoBulk d + 1
 end
def uptoSmall : (H : Type) → List (DataW H) → Bool := fun _ ds => decide (uptoBulkAll ds ≤ 1048576)
def OpenSpec.upto (s : _root_.Go.ChangeSpec) : _root_.Go.OpenSpec := { _root_.Go.OpenSpec.ofChange s with cond := some uptoSmall }

/-- 'laws.FnExactConstants', WHERE WHAT IT READS IS OF BULK AT MOST 1048576: true; the input reads as it did. -/
def fnExactConstantsUptoRow : OpenClaim := { program := "ytlgpelcnhdalpaa", sum := "0a84dcb76c9f8cd77d6b0201dfa5847d280027cf89cf1a7ba964b25d8497b266", func := "loop.example/g01299/laws.FnExactConstants", spec := "fnExactConstants", apart := false, narrowed := true }
def FnExactConstantsUptoSaid : Prop := fnExactConstantsUptoRow.holds Try.pinned (OpenSpec.upto fnExactConstantsSpec)

/-- 'laws.FnExactCodeName', WHERE WHAT IT READS IS OF BULK AT MOST 1048576: true; the input reads as it did. -/
def fnExactCodeNameUptoRow : OpenClaim := { program := "ytlgpelcnhdalpaa", sum := "0a84dcb76c9f8cd77d6b0201dfa5847d280027cf89cf1a7ba964b25d8497b266", func := "loop.example/g01299/laws.FnExactCodeName", spec := "fnExactCodeName", apart := false, narrowed := true }
def FnExactCodeNameUptoSaid : Prop := fnExactCodeNameUptoRow.holds Try.pinned (OpenSpec.upto fnExactCodeNameSpec)

/-- 'laws.FnExactColourName', WHERE WHAT IT READS IS OF BULK AT MOST 1048576: true; the input reads as it did. -/
def fnExactColourNameUptoRow : OpenClaim := { program := "ytlgpelcnhdalpaa", sum := "0a84dcb76c9f8cd77d6b0201dfa5847d280027cf89cf1a7ba964b25d8497b266", func := "loop.example/g01299/laws.FnExactColourName", spec := "fnExactColourName", apart := false, narrowed := true }
def FnExactColourNameUptoSaid : Prop := fnExactColourNameUptoRow.holds Try.pinned (OpenSpec.upto fnExactColourNameSpec)

/-- 'laws.FnExactValidFlag', WHERE WHAT IT READS IS OF BULK AT MOST 1048576: true; the input reads as it did. -/
def fnExactValidFlagUptoRow : OpenClaim := { program := "ytlgpelcnhdalpaa", sum := "0a84dcb76c9f8cd77d6b0201dfa5847d280027cf89cf1a7ba964b25d8497b266", func := "loop.example/g01299/laws.FnExactValidFlag", spec := "fnExactValidFlag", unfollowed := true, recurses := true, apart := false, narrowed := true }
def FnExactValidFlagUptoSaid : Prop := fnExactValidFlagUptoRow.holds Try.pinned (OpenSpec.upto fnExactValidFlagSpec)

/-- 'laws.FnExactSameHoist', WHERE WHAT IT READS IS OF BULK AT MOST 1048576: true; the input reads as it did. -/
def fnExactSameHoistUptoRow : OpenClaim := { program := "ytlgpelcnhdalpaa", sum := "0a84dcb76c9f8cd77d6b0201dfa5847d280027cf89cf1a7ba964b25d8497b266", func := "loop.example/g01299/laws.FnExactSameHoist", spec := "fnExactSameHoist", apart := false, narrowed := true }
def FnExactSameHoistUptoSaid : Prop := fnExactSameHoistUptoRow.holds Try.pinned (OpenSpec.upto fnExactSameHoistSpec)

/-- 'laws.FnExactCountColours', WHERE WHAT IT READS IS OF BULK AT MOST 1048576: true; the input reads as it did. -/
def fnExactCountColoursUptoRow : OpenClaim := { program := "ytlgpelcnhdalpaa", sum := "0a84dcb76c9f8cd77d6b0201dfa5847d280027cf89cf1a7ba964b25d8497b266", func := "loop.example/g01299/laws.FnExactCountColours", spec := "fnExactCountColours", unfollowed := true, recurses := true, apart := false, narrowed := true }
def FnExactCountColoursUptoSaid : Prop := fnExactCountColoursUptoRow.holds Try.pinned (OpenSpec.upto fnExactCountColoursSpec)

/-- 'laws.FnExactDistanceOf', WHERE WHAT IT READS IS OF BULK AT MOST 1048576: true; the input reads as it did. -/
def fnExactDistanceOfUptoRow : OpenClaim := { program := "ytlgpelcnhdalpaa", sum := "0a84dcb76c9f8cd77d6b0201dfa5847d280027cf89cf1a7ba964b25d8497b266", func := "loop.example/g01299/laws.FnExactDistanceOf", spec := "fnExactDistanceOf", unfollowed := true, recurses := true, apart := false, narrowed := true }
def FnExactDistanceOfUptoSaid : Prop := fnExactDistanceOfUptoRow.holds Try.pinned (OpenSpec.upto fnExactDistanceOfSpec)

/-- 'laws.FnExactCellOf', WHERE WHAT IT READS IS OF BULK AT MOST 1048576: true; the input reads as it did. -/
def fnExactCellOfUptoRow : OpenClaim := { program := "ytlgpelcnhdalpaa", sum := "0a84dcb76c9f8cd77d6b0201dfa5847d280027cf89cf1a7ba964b25d8497b266", func := "loop.example/g01299/laws.FnExactCellOf", spec := "fnExactCellOf", unfollowed := true, recurses := true, apart := false, narrowed := true }
def FnExactCellOfUptoSaid : Prop := fnExactCellOfUptoRow.holds Try.pinned (OpenSpec.upto fnExactCellOfSpec)

/-- 'laws.FnExactTurnFlag', WHERE WHAT IT READS IS OF BULK AT MOST 1048576: true; the input reads as it did. -/
def fnExactTurnFlagUptoRow : OpenClaim := { program := "ytlgpelcnhdalpaa", sum := "0a84dcb76c9f8cd77d6b0201dfa5847d280027cf89cf1a7ba964b25d8497b266", func := "loop.example/g01299/laws.FnExactTurnFlag", spec := "fnExactTurnFlag", unfollowed := true, recurses := true, apart := false, narrowed := true }
def FnExactTurnFlagUptoSaid : Prop := fnExactTurnFlagUptoRow.holds Try.pinned (OpenSpec.upto fnExactTurnFlagSpec)

/-- 'laws.FnExactMirrorFlag', WHERE WHAT IT READS IS OF BULK AT MOST 1048576: true; the input reads as it did. -/
def fnExactMirrorFlagUptoRow : OpenClaim := { program := "ytlgpelcnhdalpaa", sum := "0a84dcb76c9f8cd77d6b0201dfa5847d280027cf89cf1a7ba964b25d8497b266", func := "loop.example/g01299/laws.FnExactMirrorFlag", spec := "fnExactMirrorFlag", unfollowed := true, recurses := true, apart := false, narrowed := true }
def FnExactMirrorFlagUptoSaid : Prop := fnExactMirrorFlagUptoRow.holds Try.pinned (OpenSpec.upto fnExactMirrorFlagSpec)

/-- 'laws.FnExactFlagText', WHERE WHAT IT READS IS OF BULK AT MOST 1048576: true; the input reads as it did. -/
def fnExactFlagTextUptoRow : OpenClaim := { program := "ytlgpelcnhdalpaa", sum := "0a84dcb76c9f8cd77d6b0201dfa5847d280027cf89cf1a7ba964b25d8497b266", func := "loop.example/g01299/laws.FnExactFlagText", spec := "fnExactFlagText", unfollowed := true, recurses := true, apart := false, narrowed := true }
def FnExactFlagTextUptoSaid : Prop := fnExactFlagTextUptoRow.holds Try.pinned (OpenSpec.upto fnExactFlagTextSpec)

/-- 'laws.FnExactIsUpsideDown', WHERE WHAT IT READS IS OF BULK AT MOST 1048576: true; the input reads as it did. -/
def fnExactIsUpsideDownUptoRow : OpenClaim := { program := "ytlgpelcnhdalpaa", sum := "0a84dcb76c9f8cd77d6b0201dfa5847d280027cf89cf1a7ba964b25d8497b266", func := "loop.example/g01299/laws.FnExactIsUpsideDown", spec := "fnExactIsUpsideDown", unfollowed := true, recurses := true, apart := false, narrowed := true }
def FnExactIsUpsideDownUptoSaid : Prop := fnExactIsUpsideDownUptoRow.holds Try.pinned (OpenSpec.upto fnExactIsUpsideDownSpec)

end Rows
end Go.Proofs.Ytlgpelcnhdalpaa
