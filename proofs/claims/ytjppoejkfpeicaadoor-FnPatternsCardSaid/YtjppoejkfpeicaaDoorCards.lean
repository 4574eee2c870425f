/-
  DERIVED. GIVEN WITH THE SEED: THE CARDS: each row of YtjppoejkfpeicaaDoorRows.lean that lists a variable, with what it lists TIED to the program's text (the seventh form; the later family's looks); each row that meets fmt, with fmt's text TOLD by the authors' own Lean function (tested against real Go, not proved from fmt's source: count such statements apart). THE CARD IS WHAT COUNTS. Prove the row's statement (the work); the ties are given (YtjppoejkfpeicaaDoorTie.lean); close each card by the builder's one call (the guide's Derived/Test/ToyasCard.lean, 'card_holds'). Laid BY PROGRAM, IN A SANDBOX (cutbox-door.mjs). By AI agents, Wed Nov 11 2026. No macro, syntax, notation, axiom, sorry.
-/
import Derived.Test.YtjppoejkfpeicaaDoorRows
import GoSem.ClaimSeven
namespace Go.Proofs.YtjppoejkfpeicaaDoor
namespace Rows

/-- THE TIED CARD OF 'laws.FnExactReadFlag'. -/
def fnExactReadFlagCard : Claim7 := { stood := { row := fnExactReadFlagRow, standIns := [], harness := (true, "45f01222bf8018124ce946010c6e210abe4fe7805326bc9b987601aeddadc8f5"), looks := false }, kinds := [], alts := [], laidByText := true, laidKinds := [.data, .pinned], laidTests := true, laidLooks := .later }
def FnExactReadFlagCardSaid : Prop := Claim7.holds Tryd.pinned (.plain (OpenSpec.ofChange fnExactReadFlagSpec)) fnExactReadFlagCard

/-- THE TIED CARD OF 'laws.FnPatterns'. -/
def fnPatternsCard : Claim7 := { stood := { row := fnPatternsRow, standIns := [], harness := (true, "45f01222bf8018124ce946010c6e210abe4fe7805326bc9b987601aeddadc8f5"), looks := false }, kinds := [], alts := [], laidByText := true, laidKinds := [.data, .pinned], laidTests := true, laidLooks := .later }
def FnPatternsCardSaid : Prop := Claim7.holds Tryd.pinned (.plain (OpenSpec.ofChange fnPatternsSpec)) fnPatternsCard

/-- THE SECOND FORM's CARD OF 'laws.FnExactReadFlag'. -/
def fnExactReadFlagUptoCard : Claim7 := { stood := { row := fnExactReadFlagUptoRow, standIns := [], harness := (true, "45f01222bf8018124ce946010c6e210abe4fe7805326bc9b987601aeddadc8f5"), looks := false }, kinds := [], alts := [], laidByText := true, laidKinds := [.data, .pinned], laidTests := true, laidLooks := .later }
def FnExactReadFlagUptoCardSaid : Prop := Claim7.holds Tryd.pinned (.plain (OpenSpec.upto fnExactReadFlagSpec)) fnExactReadFlagUptoCard

/-- THE SECOND FORM's CARD OF 'laws.FnPatterns'. -/
def fnPatternsUptoCard : Claim7 := { stood := { row := fnPatternsUptoRow, standIns := [], harness := (true, "45f01222bf8018124ce946010c6e210abe4fe7805326bc9b987601aeddadc8f5"), looks := false }, kinds := [], alts := [], laidByText := true, laidKinds := [.data, .pinned], laidTests := true, laidLooks := .later }
def FnPatternsUptoCardSaid : Prop := Claim7.holds Tryd.pinned (.plain (OpenSpec.upto fnPatternsSpec)) fnPatternsUptoCard
end Rows
end Go.Proofs.YtjppoejkfpeicaaDoor
