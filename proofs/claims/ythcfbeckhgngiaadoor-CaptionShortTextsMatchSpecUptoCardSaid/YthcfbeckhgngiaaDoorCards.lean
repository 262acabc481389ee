/-
  DERIVED. GIVEN WITH THE SEED: THE CARDS: each row of YthcfbeckhgngiaaDoorRows.lean that lists a variable, with what it lists TIED to the program's text (the seventh form; the later family's looks); each row that meets fmt, with fmt's text TOLD by the authors' own Lean function (tested against real Go, not proved from fmt's source: count such statements apart). THE CARD IS WHAT COUNTS. Prove the row's statement (the work); the ties are given (YthcfbeckhgngiaaDoorTie.lean); close each card by the builder's one call (the guide's Derived/Test/ToyasCard.lean, 'card_holds'). Laid BY PROGRAM, IN A SANDBOX (cutbox-door.mjs). By AI agents, Wed Nov 11 2026. No macro, syntax, notation, axiom, sorry.
-/
import Derived.Test.YthcfbeckhgngiaaDoorRows
import GoSem.ClaimSeven
namespace Go.Proofs.YthcfbeckhgngiaaDoor
namespace Rows

/-- THE TIED CARD OF 'headendlaw9.CaptionShortReadsMatchSpec'. -/
def captionShortReadsMatchSpecCard : Claim7 := { stood := { row := captionShortReadsMatchSpecRow, standIns := [], harness := (true, "f156d0cd46a34bafc5bf26823169449713f7ecf033e20aed7ed0c19e854f7b06"), looks := false }, kinds := [], alts := [], laidByText := true, laidKinds := [.data, .pinned], laidTests := true, laidLooks := .later }
def CaptionShortReadsMatchSpecCardSaid : Prop := Claim7.holds Tryd.pinned (.plain (OpenSpec.ofChange captionShortReadsMatchSpecSpec)) captionShortReadsMatchSpecCard

/-- THE TIED CARD OF 'headendlaw9.CaptionShortTextsMatchSpec'. -/
def captionShortTextsMatchSpecCard : Claim7 := { stood := { row := captionShortTextsMatchSpecRow, standIns := [], harness := (true, "f156d0cd46a34bafc5bf26823169449713f7ecf033e20aed7ed0c19e854f7b06"), looks := false }, kinds := [], alts := [], laidByText := true, laidKinds := [.data, .data, .data, .data, .pinned], laidTests := true, laidLooks := .later }
def CaptionShortTextsMatchSpecCardSaid : Prop := Claim7.holds Tryd.pinned (.plain (OpenSpec.ofChange captionShortTextsMatchSpecSpec)) captionShortTextsMatchSpecCard

/-- THE SECOND FORM's CARD OF 'headendlaw9.CaptionShortReadsMatchSpec'. -/
def captionShortReadsMatchSpecUptoCard : Claim7 := { stood := { row := captionShortReadsMatchSpecUptoRow, standIns := [], harness := (true, "f156d0cd46a34bafc5bf26823169449713f7ecf033e20aed7ed0c19e854f7b06"), looks := false }, kinds := [], alts := [], laidByText := true, laidKinds := [.data, .pinned], laidTests := true, laidLooks := .later }
def CaptionShortReadsMatchSpecUptoCardSaid : Prop := Claim7.holds Tryd.pinned (.plain (OpenSpec.upto captionShortReadsMatchSpecSpec)) captionShortReadsMatchSpecUptoCard

/-- THE SECOND FORM's CARD OF 'headendlaw9.CaptionShortTextsMatchSpec'. -/
def captionShortTextsMatchSpecUptoCard : Claim7 := { stood := { row := captionShortTextsMatchSpecUptoRow, standIns := [], harness := (true, "f156d0cd46a34bafc5bf26823169449713f7ecf033e20aed7ed0c19e854f7b06"), looks := false }, kinds := [], alts := [], laidByText := true, laidKinds := [.data, .data, .data, .data, .pinned], laidTests := true, laidLooks := .later }
def CaptionShortTextsMatchSpecUptoCardSaid : Prop := Claim7.holds Tryd.pinned (.plain (OpenSpec.upto captionShortTextsMatchSpecSpec)) captionShortTextsMatchSpecUptoCard
end Rows
end Go.Proofs.YthcfbeckhgngiaaDoor
