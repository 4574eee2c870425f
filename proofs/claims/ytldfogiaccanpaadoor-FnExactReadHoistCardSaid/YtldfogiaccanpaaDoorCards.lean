/-
  DERIVED. GIVEN WITH THE SEED: THE CARDS: each row of YtldfogiaccanpaaDoorRows.lean that lists a variable, with what it lists TIED to the program's text (the seventh form; the later family's looks); each row that meets fmt, with fmt's text TOLD by the authors' own Lean function (tested against real Go, not proved from fmt's source: count such statements apart). THE CARD IS WHAT COUNTS. Prove the row's statement (the work); the ties are given (YtldfogiaccanpaaDoorTie.lean); close each card by the builder's one call (the guide's Derived/Test/ToyasCard.lean, 'card_holds'). Laid BY PROGRAM, IN A SANDBOX (cutbox-door.mjs). By AI agents, Wed Nov 11 2026. No macro, syntax, notation, axiom, sorry.
-/
import Derived.Test.YtldfogiaccanpaaDoorRows
import GoSem.ClaimSeven
namespace Go.Proofs.YtldfogiaccanpaaDoor
namespace Rows

/-- THE TIED CARD OF 'laws.FnExactReadHoist'. -/
def fnExactReadHoistCard : Claim7 := { stood := { row := fnExactReadHoistRow, standIns := [], harness := (true, "dd8c181df075369d55aa6891c2866fe90d2102173a9a4e39e4a835827704480b"), looks := true }, kinds := [], alts := [], laidByText := true, laidKinds := [.data, .data, .data, .data, .sentinel, .sentinel, .pinned], laidTests := true, laidLooks := .later }
def FnExactReadHoistCardSaid : Prop := Claim7.holds Tryd.pinned (.plain (OpenSpec.ofChange fnExactReadHoistSpec)) fnExactReadHoistCard

/-- THE SECOND FORM's CARD OF 'laws.FnExactReadHoist'. -/
def fnExactReadHoistUptoCard : Claim7 := { stood := { row := fnExactReadHoistUptoRow, standIns := [], harness := (true, "dd8c181df075369d55aa6891c2866fe90d2102173a9a4e39e4a835827704480b"), looks := true }, kinds := [], alts := [], laidByText := true, laidKinds := [.data, .data, .data, .data, .sentinel, .sentinel, .pinned], laidTests := true, laidLooks := .later }
def FnExactReadHoistUptoCardSaid : Prop := Claim7.holds Tryd.pinned (.plain (OpenSpec.upto fnExactReadHoistSpec)) fnExactReadHoistUptoCard
end Rows
end Go.Proofs.YtldfogiaccanpaaDoor
