/-
  DERIVED. GIVEN WITH THE SEED: THE CARDS: each row of YtaobkfpnebbohaaGreatDoorRows.lean that lists a variable, with what it lists TIED to the program's text (the seventh form; the later family's looks); each row that meets fmt, with fmt's text TOLD by the authors' own Lean function (tested against real Go, not proved from fmt's source: count such statements apart). THE CARD IS WHAT COUNTS. Prove the row's statement (the work); the ties are given (YtaobkfpnebbohaaGreatDoorTie.lean); close each card by the builder's one call (the guide's Derived/Test/ToyasCard.lean, 'card_holds'). Laid BY PROGRAM, IN A SANDBOX (cutbox-door.mjs). By AI agents, Wed Nov 11 2026. No macro, syntax, notation, axiom, sorry.
-/
import Derived.Test.YtaobkfpnebbohaaGreatDoorRows
import GoSem.ClaimSeven
namespace Go.Proofs.YtaobkfpnebbohaaGreatDoor
namespace Rows

/-- THE TIED CARD OF 'headendtop.TopPublishedFilmsPlay'. -/
def topPublishedFilmsPlayCard : Claim7 := { stood := { row := topPublishedFilmsPlayRow, standIns := [], harness := (true, "f543d8cc9ffbf1d67349a9621f157c67f7b52c94f5e9fc03790a3fc43b89b64a"), looks := true }, kinds := [], alts := [], laidByText := true, laidKinds := [.data, .data, .data, .data, .sentinel, .sentinel, .pinned], laidTests := true, laidLooks := .later }
def TopPublishedFilmsPlayCardSaid : Prop := Claim7.holds Tryz.pinned (.plain (OpenSpec.ofChange topPublishedFilmsPlaySpec)) topPublishedFilmsPlayCard

/-- THE SECOND FORM's CARD OF 'headendtop.TopPublishedFilmsPlay'. -/
def topPublishedFilmsPlayUptoCard : Claim7 := { stood := { row := topPublishedFilmsPlayUptoRow, standIns := [], harness := (true, "f543d8cc9ffbf1d67349a9621f157c67f7b52c94f5e9fc03790a3fc43b89b64a"), looks := true }, kinds := [], alts := [], laidByText := true, laidKinds := [.data, .data, .data, .data, .sentinel, .sentinel, .pinned], laidTests := true, laidLooks := .later }
def TopPublishedFilmsPlayUptoCardSaid : Prop := Claim7.holds Tryz.pinned (.plain (OpenSpec.upto topPublishedFilmsPlaySpec)) topPublishedFilmsPlayUptoCard
end Rows
end Go.Proofs.YtaobkfpnebbohaaGreatDoor
