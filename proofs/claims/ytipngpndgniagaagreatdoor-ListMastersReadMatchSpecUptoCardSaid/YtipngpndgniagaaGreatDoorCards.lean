/-
  DERIVED. GIVEN WITH THE SEED: THE CARDS: each row of YtipngpndgniagaaGreatDoorRows.lean that lists a variable, with what it lists TIED to the program's text (the seventh form; the later family's looks); each row that meets fmt, with fmt's text TOLD by the authors' own Lean function (tested against real Go, not proved from fmt's source: count such statements apart). THE CARD IS WHAT COUNTS. Prove the row's statement (the work); the ties are given (YtipngpndgniagaaGreatDoorTie.lean); close each card by the builder's one call (the guide's Derived/Test/ToyasCard.lean, 'card_holds'). Laid BY PROGRAM, IN A SANDBOX (cutbox-door.mjs). By AI agents, Wed Nov 11 2026. No macro, syntax, notation, axiom, sorry.
-/
import Derived.Test.YtipngpndgniagaaGreatDoorRows
import GoSem.ClaimSeven
namespace Go.Proofs.YtipngpndgniagaaGreatDoor
namespace Rows

/-- THE TIED CARD OF 'headendlaw6.ListMastersReadMatchSpec'. -/
def listMastersReadMatchSpecCard : Claim7 := { stood := { row := listMastersReadMatchSpecRow, standIns := [], harness := (true, "aa37aeff76f62853b75f377133ebc9d99b5ccd4f20d4c9bd8d0cd0ba38d95cfa"), looks := true }, kinds := [], alts := [], laidByText := true, laidKinds := [.data, .data, .data, .data, .sentinel, .sentinel, .pinned], laidTests := true, laidLooks := .later }
def ListMastersReadMatchSpecCardSaid : Prop := Claim7.holds Tryz.pinned (.plain (OpenSpec.ofChange listMastersReadMatchSpecSpec)) listMastersReadMatchSpecCard

/-- THE SECOND FORM's CARD OF 'headendlaw6.ListMastersReadMatchSpec'. -/
def listMastersReadMatchSpecUptoCard : Claim7 := { stood := { row := listMastersReadMatchSpecUptoRow, standIns := [], harness := (true, "aa37aeff76f62853b75f377133ebc9d99b5ccd4f20d4c9bd8d0cd0ba38d95cfa"), looks := true }, kinds := [], alts := [], laidByText := true, laidKinds := [.data, .data, .data, .data, .sentinel, .sentinel, .pinned], laidTests := true, laidLooks := .later }
def ListMastersReadMatchSpecUptoCardSaid : Prop := Claim7.holds Tryz.pinned (.plain (OpenSpec.upto listMastersReadMatchSpecSpec)) listMastersReadMatchSpecUptoCard
end Rows
end Go.Proofs.YtipngpndgniagaaGreatDoor
