/-
  DERIVED. GIVEN WITH THE SEED: THE CARDS: each row of YtllplgjlpndpfaaDoorRows.lean that lists a variable, with what it lists TIED to the program's text (the seventh form; the later family's looks); each row that meets fmt, with fmt's text TOLD by the authors' own Lean function (tested against real Go, not proved from fmt's source: count such statements apart). THE CARD IS WHAT COUNTS. Prove the row's statement (the work); the ties are given (YtllplgjlpndpfaaDoorTie.lean); close each card by the builder's one call (the guide's Derived/Test/ToyasCard.lean, 'card_holds'). Laid BY PROGRAM, IN A SANDBOX (cutbox-door.mjs). By AI agents, Wed Nov 11 2026. No macro, syntax, notation, axiom, sorry.
-/
import Derived.Test.YtllplgjlpndpfaaDoorRows
import GoSem.ClaimSeven
namespace Go.Proofs.YtllplgjlpndpfaaDoor
namespace Rows

/-- THE TIED CARD OF 'laws.FnExactSpellWord'. -/
def fnExactSpellWordCard : Claim7 := { stood := { row := fnExactSpellWordRow, standIns := [], harness := (true, "034de1457859d4d2c44e274c05186bfb4d613991d6eb7c9b49131a4ae9b02475"), looks := false }, kinds := [], alts := [], laidByText := true, laidKinds := [.data, .pinned], laidTests := true, laidLooks := .later }
def FnExactSpellWordCardSaid : Prop := Claim7.holds Tryd.pinned (.plain (OpenSpec.ofChange fnExactSpellWordSpec)) fnExactSpellWordCard

/-- THE TIED CARD OF 'laws.FnExactHoistText'. -/
def fnExactHoistTextCard : Claim7 := { stood := { row := fnExactHoistTextRow, standIns := [], harness := (true, "034de1457859d4d2c44e274c05186bfb4d613991d6eb7c9b49131a4ae9b02475"), looks := false }, kinds := [], alts := [], laidByText := true, laidKinds := [.data, .data, .data], laidTests := true, laidLooks := .later }
def FnExactHoistTextCardSaid : Prop := Claim7.holds Tryd.pinned (.plain (OpenSpec.ofChange fnExactHoistTextSpec)) fnExactHoistTextCard

/-- THE SECOND FORM's CARD OF 'laws.FnExactSpellWord'. -/
def fnExactSpellWordUptoCard : Claim7 := { stood := { row := fnExactSpellWordUptoRow, standIns := [], harness := (true, "034de1457859d4d2c44e274c05186bfb4d613991d6eb7c9b49131a4ae9b02475"), looks := false }, kinds := [], alts := [], laidByText := true, laidKinds := [.data, .pinned], laidTests := true, laidLooks := .later }
def FnExactSpellWordUptoCardSaid : Prop := Claim7.holds Tryd.pinned (.plain (OpenSpec.upto fnExactSpellWordSpec)) fnExactSpellWordUptoCard

/-- THE SECOND FORM's CARD OF 'laws.FnExactHoistText'. -/
def fnExactHoistTextUptoCard : Claim7 := { stood := { row := fnExactHoistTextUptoRow, standIns := [], harness := (true, "034de1457859d4d2c44e274c05186bfb4d613991d6eb7c9b49131a4ae9b02475"), looks := false }, kinds := [], alts := [], laidByText := true, laidKinds := [.data, .data, .data], laidTests := true, laidLooks := .later }
def FnExactHoistTextUptoCardSaid : Prop := Claim7.holds Tryd.pinned (.plain (OpenSpec.upto fnExactHoistTextSpec)) fnExactHoistTextUptoCard
end Rows
end Go.Proofs.YtllplgjlpndpfaaDoor
