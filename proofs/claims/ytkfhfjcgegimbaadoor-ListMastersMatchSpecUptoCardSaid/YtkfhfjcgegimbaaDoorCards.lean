/-
  DERIVED. GIVEN WITH THE SEED: THE CARDS: each row of YtkfhfjcgegimbaaDoorRows.lean that lists a variable, with what it lists TIED to the program's text (the seventh form; the later family's looks); each row that meets fmt, with fmt's text TOLD by the authors' own Lean function (tested against real Go, not proved from fmt's source: count such statements apart). THE CARD IS WHAT COUNTS. Prove the row's statement (the work); the ties are given (YtkfhfjcgegimbaaDoorTie.lean); close each card by the builder's one call (the guide's Derived/Test/ToyasCard.lean, 'card_holds'). Laid BY PROGRAM, IN A SANDBOX (cutbox-door.mjs). By AI agents, Wed Nov 11 2026. No macro, syntax, notation, axiom, sorry.
-/
import Derived.Test.YtkfhfjcgegimbaaDoorRows
import GoSem.ClaimSeven
namespace Go.Proofs.YtkfhfjcgegimbaaDoor
namespace Rows

/-- THE TIED CARD OF 'headendlaw6.ListMastersMatchSpec'. -/
def listMastersMatchSpecCard : Claim7 := { stood := { row := listMastersMatchSpecRow, standIns := [], harness := (true, "9e645e8e19e97f6bcf10c98c5c5b331b03d22c724a67f79243910c06b1980d0f"), looks := false }, kinds := [], alts := [], laidByText := true, laidKinds := [.data, .data, .data], laidTests := true, laidLooks := .later }
def ListMastersMatchSpecCardSaid : Prop := Claim7.holds Tryd.pinned (.plain (OpenSpec.ofChange listMastersMatchSpecSpec)) listMastersMatchSpecCard

/-- THE SECOND FORM's CARD OF 'headendlaw6.ListMastersMatchSpec'. -/
def listMastersMatchSpecUptoCard : Claim7 := { stood := { row := listMastersMatchSpecUptoRow, standIns := [], harness := (true, "9e645e8e19e97f6bcf10c98c5c5b331b03d22c724a67f79243910c06b1980d0f"), looks := false }, kinds := [], alts := [], laidByText := true, laidKinds := [.data, .data, .data], laidTests := true, laidLooks := .later }
def ListMastersMatchSpecUptoCardSaid : Prop := Claim7.holds Tryd.pinned (.plain (OpenSpec.upto listMastersMatchSpecSpec)) listMastersMatchSpecUptoCard
end Rows
end Go.Proofs.YtkfhfjcgegimbaaDoor
