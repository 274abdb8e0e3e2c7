/-
  DERIVED. GIVEN WITH THE SEED: THE CARDS: each row of YtobhhopfimnknaaDoorRows.lean that lists a variable, with what it lists TIED to the program's text (the seventh form; the later family's looks); each row that meets fmt, with fmt's text TOLD by the authors' own Lean function (tested against real Go, not proved from fmt's source: count such statements apart). THE CARD IS WHAT COUNTS. Prove the row's statement (the work); the ties are given (YtobhhopfimnknaaDoorTie.lean); close each card by the builder's one call (the guide's Derived/Test/ToyasCard.lean, 'card_holds'). Laid BY PROGRAM, IN A SANDBOX (cutbox-door.mjs). By AI agents, Wed Nov 11 2026. No macro, syntax, notation, axiom, sorry.
-/
import Derived.Test.YtobhhopfimnknaaDoorRows
import GoSem.ClaimSeven
namespace Go.Proofs.YtobhhopfimnknaaDoor
namespace Rows

/-- THE TIED CARD OF 'laws.FnExactParseComplex'. -/
def fnExactParseComplexCard : Claim7 := { stood := { row := fnExactParseComplexRow, standIns := [], harness := (true, "3b4b5c8f4ec53c99c2e7e5a47e5c67f0acaa730b4a4b068ab208dfee37687d3c"), looks := true }, kinds := [], alts := [], laidByText := true, laidKinds := [.data, .data, .data, .sentinel, .sentinel], laidTests := true, laidLooks := .later }
def FnExactParseComplexCardSaid : Prop := Claim7.holds Tryd.pinned (.plain (OpenSpec.ofChange fnExactParseComplexSpec)) fnExactParseComplexCard

/-- THE SECOND FORM's CARD OF 'laws.FnExactParseComplex'. -/
def fnExactParseComplexUptoCard : Claim7 := { stood := { row := fnExactParseComplexUptoRow, standIns := [], harness := (true, "3b4b5c8f4ec53c99c2e7e5a47e5c67f0acaa730b4a4b068ab208dfee37687d3c"), looks := true }, kinds := [], alts := [], laidByText := true, laidKinds := [.data, .data, .data, .sentinel, .sentinel], laidTests := true, laidLooks := .later }
def FnExactParseComplexUptoCardSaid : Prop := Claim7.holds Tryd.pinned (.plain (OpenSpec.upto fnExactParseComplexSpec)) fnExactParseComplexUptoCard
end Rows
end Go.Proofs.YtobhhopfimnknaaDoor
