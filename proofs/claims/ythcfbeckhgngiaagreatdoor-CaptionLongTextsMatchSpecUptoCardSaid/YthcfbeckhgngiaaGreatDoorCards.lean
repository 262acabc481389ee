/-
  DERIVED. GIVEN WITH THE SEED: THE CARDS: each row of YthcfbeckhgngiaaGreatDoorRows.lean that lists a variable, with what it lists TIED to the program's text (the seventh form; the later family's looks); each row that meets fmt, with fmt's text TOLD by the authors' own Lean function (tested against real Go, not proved from fmt's source: count such statements apart). THE CARD IS WHAT COUNTS. Prove the row's statement (the work); the ties are given (YthcfbeckhgngiaaGreatDoorTie.lean); close each card by the builder's one call (the guide's Derived/Test/ToyasCard.lean, 'card_holds'). Laid BY PROGRAM, IN A SANDBOX (cutbox-door.mjs). By AI agents, Wed Nov 11 2026. No macro, syntax, notation, axiom, sorry.
-/
import Derived.Test.YthcfbeckhgngiaaGreatDoorRows
import GoSem.ClaimSeven
namespace Go.Proofs.YthcfbeckhgngiaaGreatDoor
namespace Rows

/-- THE TIED CARD OF 'headendlaw9.CaptionLongReadsMatchSpec'. -/
def captionLongReadsMatchSpecCard : Claim7 := { stood := { row := captionLongReadsMatchSpecRow, standIns := [], harness := (true, "63cf8ead96c4f5d23191f17b5cbf0e0377c2ee26d47c5abfc9aa4f9d8f8c978f"), looks := true }, kinds := [], alts := [], laidByText := true, laidKinds := [.data, .data, .data, .data, .sentinel, .sentinel, .pinned], laidTests := true, laidLooks := .later }
def CaptionLongReadsMatchSpecCardSaid : Prop := Claim7.holds Tryz.pinned (.plain (OpenSpec.ofChange captionLongReadsMatchSpecSpec)) captionLongReadsMatchSpecCard

/-- THE TIED CARD OF 'headendlaw9.CaptionLongTextsMatchSpec'. -/
def captionLongTextsMatchSpecCard : Claim7 := { stood := { row := captionLongTextsMatchSpecRow, standIns := [], harness := (true, "63cf8ead96c4f5d23191f17b5cbf0e0377c2ee26d47c5abfc9aa4f9d8f8c978f"), looks := true }, kinds := [], alts := [], laidByText := true, laidKinds := [.data, .data, .data, .data, .sentinel, .sentinel, .pinned], laidTests := true, laidLooks := .later }
def CaptionLongTextsMatchSpecCardSaid : Prop := Claim7.holds Tryz.pinned (.plain (OpenSpec.ofChange captionLongTextsMatchSpecSpec)) captionLongTextsMatchSpecCard

/-- THE SECOND FORM's CARD OF 'headendlaw9.CaptionLongReadsMatchSpec'. -/
def captionLongReadsMatchSpecUptoCard : Claim7 := { stood := { row := captionLongReadsMatchSpecUptoRow, standIns := [], harness := (true, "63cf8ead96c4f5d23191f17b5cbf0e0377c2ee26d47c5abfc9aa4f9d8f8c978f"), looks := true }, kinds := [], alts := [], laidByText := true, laidKinds := [.data, .data, .data, .data, .sentinel, .sentinel, .pinned], laidTests := true, laidLooks := .later }
def CaptionLongReadsMatchSpecUptoCardSaid : Prop := Claim7.holds Tryz.pinned (.plain (OpenSpec.upto captionLongReadsMatchSpecSpec)) captionLongReadsMatchSpecUptoCard

/-- THE SECOND FORM's CARD OF 'headendlaw9.CaptionLongTextsMatchSpec'. -/
def captionLongTextsMatchSpecUptoCard : Claim7 := { stood := { row := captionLongTextsMatchSpecUptoRow, standIns := [], harness := (true, "63cf8ead96c4f5d23191f17b5cbf0e0377c2ee26d47c5abfc9aa4f9d8f8c978f"), looks := true }, kinds := [], alts := [], laidByText := true, laidKinds := [.data, .data, .data, .data, .sentinel, .sentinel, .pinned], laidTests := true, laidLooks := .later }
def CaptionLongTextsMatchSpecUptoCardSaid : Prop := Claim7.holds Tryz.pinned (.plain (OpenSpec.upto captionLongTextsMatchSpecSpec)) captionLongTextsMatchSpecUptoCard
end Rows
end Go.Proofs.YthcfbeckhgngiaaGreatDoor
