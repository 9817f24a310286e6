/-
  DERIVED. GIVEN WITH THE SEED: THE CARDS: each row of YtbaelbjgfakpoaaDoorRows.lean that lists a variable, with what it lists TIED to the program's text (the seventh form; the later family's looks); each row that meets fmt, with fmt's text TOLD by the authors' own Lean function (tested against real Go, not proved from fmt's source: count such statements apart). THE CARD IS WHAT COUNTS. Prove the row's statement (the work); the ties are given (YtbaelbjgfakpoaaDoorTie.lean); close each card by the builder's one call (the guide's Derived/Test/ToyasCard.lean, 'card_holds'). Laid BY PROGRAM, IN A SANDBOX (cutbox-door.mjs). By AI agents, Wed Nov 11 2026. No macro, syntax, notation, axiom, sorry.
-/
import Derived.Test.YtbaelbjgfakpoaaDoorRows
import GoSem.ClaimSeven
namespace Go.Proofs.YtbaelbjgfakpoaaDoor
namespace Rows

/-- THE TIED CARD OF 'laws.FnExactFormatEvent'. -/
def fnExactFormatEventCard : Claim7 := { stood := { row := fnExactFormatEventRow, standIns := [], harness := (true, "fa4605ca9048b6102f22d825b88f6010c1de5fef572f0752fb65f093fa0884ad"), looks := false }, kinds := [], alts := [], laidByText := true, laidKinds := [.data, .data, .data], laidTests := true, laidLooks := .later }
def FnExactFormatEventCardSaid : Prop := Claim7.holds Tryd.pinned (.plain (OpenSpec.ofChange fnExactFormatEventSpec)) fnExactFormatEventCard

/-- THE TIED CARD OF 'laws.FnEvents'. -/
def fnEventsCard : Claim7 := { stood := { row := fnEventsRow, standIns := [], harness := (true, "fa4605ca9048b6102f22d825b88f6010c1de5fef572f0752fb65f093fa0884ad"), looks := false }, kinds := [], alts := [], laidByText := true, laidKinds := [.data, .data, .data], laidTests := true, laidLooks := .later }
def FnEventsCardSaid : Prop := Claim7.holds Tryd.pinned (.plain (OpenSpec.ofChange fnEventsSpec)) fnEventsCard

/-- THE SECOND FORM's CARD OF 'laws.FnExactFormatEvent'. -/
def fnExactFormatEventUptoCard : Claim7 := { stood := { row := fnExactFormatEventUptoRow, standIns := [], harness := (true, "fa4605ca9048b6102f22d825b88f6010c1de5fef572f0752fb65f093fa0884ad"), looks := false }, kinds := [], alts := [], laidByText := true, laidKinds := [.data, .data, .data], laidTests := true, laidLooks := .later }
def FnExactFormatEventUptoCardSaid : Prop := Claim7.holds Tryd.pinned (.plain (OpenSpec.upto fnExactFormatEventSpec)) fnExactFormatEventUptoCard

/-- THE SECOND FORM's CARD OF 'laws.FnEvents'. -/
def fnEventsUptoCard : Claim7 := { stood := { row := fnEventsUptoRow, standIns := [], harness := (true, "fa4605ca9048b6102f22d825b88f6010c1de5fef572f0752fb65f093fa0884ad"), looks := false }, kinds := [], alts := [], laidByText := true, laidKinds := [.data, .data, .data], laidTests := true, laidLooks := .later }
def FnEventsUptoCardSaid : Prop := Claim7.holds Tryd.pinned (.plain (OpenSpec.upto fnEventsSpec)) fnEventsUptoCard
end Rows
end Go.Proofs.YtbaelbjgfakpoaaDoor
