/-
  DERIVED. GIVEN WITH THE SEED: THE CARDS: each row of YteoldedcobibaaaGreatDoorRows.lean that lists a variable, with what it lists TIED to the program's text (the seventh form; the later family's looks); each row that meets fmt, with fmt's text TOLD by the authors' own Lean function (tested against real Go, not proved from fmt's source: count such statements apart). THE CARD IS WHAT COUNTS. Prove the row's statement (the work); the ties are given (YteoldedcobibaaaGreatDoorTie.lean); close each card by the builder's one call (the guide's Derived/Test/ToyasCard.lean, 'card_holds'). Laid BY PROGRAM, IN A SANDBOX (cutbox-door.mjs). By AI agents, Wed Nov 11 2026. No macro, syntax, notation, axiom, sorry.
-/
import Derived.Test.YteoldedcobibaaaGreatDoorRows
import GoSem.ClaimSeven
namespace Go.Proofs.YteoldedcobibaaaGreatDoor
namespace Rows

/-- THE TIED CARD OF 'headendtop.TopLicencesCoverLists'. -/
def topLicencesCoverListsCard : Claim7 := { stood := { row := topLicencesCoverListsRow, standIns := [], harness := (true, "97fa22526363284c7186e31b9dd86f909e12718136bd41bd7a1fcbc1b3f8ea57"), looks := false }, kinds := [], alts := [], laidByText := true, laidKinds := [.data, .data, .data], laidTests := true, laidLooks := .later }
def TopLicencesCoverListsCardSaid : Prop := Claim7.holds Tryz.pinned (.plain (OpenSpec.ofChange topLicencesCoverListsSpec)) topLicencesCoverListsCard

/-- THE SECOND FORM's CARD OF 'headendtop.TopLicencesCoverLists'. -/
def topLicencesCoverListsUptoCard : Claim7 := { stood := { row := topLicencesCoverListsUptoRow, standIns := [], harness := (true, "97fa22526363284c7186e31b9dd86f909e12718136bd41bd7a1fcbc1b3f8ea57"), looks := false }, kinds := [], alts := [], laidByText := true, laidKinds := [.data, .data, .data], laidTests := true, laidLooks := .later }
def TopLicencesCoverListsUptoCardSaid : Prop := Claim7.holds Tryz.pinned (.plain (OpenSpec.upto topLicencesCoverListsSpec)) topLicencesCoverListsUptoCard
end Rows
end Go.Proofs.YteoldedcobibaaaGreatDoor
