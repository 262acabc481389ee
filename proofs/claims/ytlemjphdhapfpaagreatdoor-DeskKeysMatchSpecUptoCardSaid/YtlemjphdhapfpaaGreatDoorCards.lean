/-
  DERIVED. GIVEN WITH THE SEED: THE CARDS: each row of YtlemjphdhapfpaaGreatDoorRows.lean that lists a variable, with what it lists TIED to the program's text (the seventh form; the later family's looks); each row that meets fmt, with fmt's text TOLD by the authors' own Lean function (tested against real Go, not proved from fmt's source: count such statements apart). THE CARD IS WHAT COUNTS. Prove the row's statement (the work); the ties are given (YtlemjphdhapfpaaGreatDoorTie.lean); close each card by the builder's one call (the guide's Derived/Test/ToyasCard.lean, 'card_holds'). Laid BY PROGRAM, IN A SANDBOX (cutbox-door.mjs). By AI agents, Wed Nov 11 2026. No macro, syntax, notation, axiom, sorry.
-/
import Derived.Test.YtlemjphdhapfpaaGreatDoorRows
import GoSem.ClaimSeven
namespace Go.Proofs.YtlemjphdhapfpaaGreatDoor
namespace Rows

/-- THE TIED CARD OF 'headendlaw12.DeskKeysMatchSpec'. -/
def deskKeysMatchSpecCard : Claim7 := { stood := { row := deskKeysMatchSpecRow, standIns := [], harness := (true, "979e261c56bf9c9cc5765a9632d0206877d733a11ad1919b83ee14875bc0f00b"), looks := true }, kinds := [], alts := [], laidByText := true, laidKinds := [.data, .data, .data, .sentinel, .sentinel], laidTests := true, laidLooks := .later }
def DeskKeysMatchSpecCardSaid : Prop := Claim7.holds Tryz.pinned (.plain (OpenSpec.ofChange deskKeysMatchSpecSpec)) deskKeysMatchSpecCard

/-- THE SECOND FORM's CARD OF 'headendlaw12.DeskKeysMatchSpec'. -/
def deskKeysMatchSpecUptoCard : Claim7 := { stood := { row := deskKeysMatchSpecUptoRow, standIns := [], harness := (true, "979e261c56bf9c9cc5765a9632d0206877d733a11ad1919b83ee14875bc0f00b"), looks := true }, kinds := [], alts := [], laidByText := true, laidKinds := [.data, .data, .data, .sentinel, .sentinel], laidTests := true, laidLooks := .later }
def DeskKeysMatchSpecUptoCardSaid : Prop := Claim7.holds Tryz.pinned (.plain (OpenSpec.upto deskKeysMatchSpecSpec)) deskKeysMatchSpecUptoCard
end Rows
end Go.Proofs.YtlemjphdhapfpaaGreatDoor
