/-
  DERIVED. GIVEN WITH THE SEED: THE CARDS: each row of YtpaeopnlblhpoaaGreatDoorRows.lean that lists a variable, with what it lists TIED to the program's text (the seventh form; the later family's looks); each row that meets fmt, with fmt's text TOLD by the authors' own Lean function (tested against real Go, not proved from fmt's source: count such statements apart). THE CARD IS WHAT COUNTS. Prove the row's statement (the work); the ties are given (YtpaeopnlblhpoaaGreatDoorTie.lean); close each card by the builder's one call (the guide's Derived/Test/ToyasCard.lean, 'card_holds'). Laid BY PROGRAM, IN A SANDBOX (cutbox-door.mjs). By AI agents, Wed Nov 11 2026. No macro, syntax, notation, axiom, sorry.
-/
import Derived.Test.YtpaeopnlblhpoaaGreatDoorRows
import GoSem.ClaimSeven
namespace Go.Proofs.YtpaeopnlblhpoaaGreatDoor
namespace Rows

/-- THE TIED CARD OF 'headendtop.TopRatesAreOne'. -/
def topRatesAreOneCard : Claim7 := { stood := { row := topRatesAreOneRow, standIns := [], harness := (true, "64e67747292ef7994e3f8ae570ca93591ad012ec208d472efa3753895b76776c"), looks := true }, kinds := [], alts := [], laidByText := true, laidKinds := [.data, .data, .data], laidTests := true, laidLooks := .later }
def TopRatesAreOneCardSaid : Prop := Claim7.holds Tryz.pinned (.plain (OpenSpec.ofChange topRatesAreOneSpec)) topRatesAreOneCard

/-- THE TIED CARD OF 'headendlaw12.DeskPublishesFit'. -/
def deskPublishesFitCard : Claim7 := { stood := { row := deskPublishesFitRow, standIns := [], harness := (true, "64e67747292ef7994e3f8ae570ca93591ad012ec208d472efa3753895b76776c"), looks := true }, kinds := [], alts := [], laidByText := true, laidKinds := [.data, .data, .data], laidTests := true, laidLooks := .later }
def DeskPublishesFitCardSaid : Prop := Claim7.holds Tryz.pinned (.plain (OpenSpec.ofChange deskPublishesFitSpec)) deskPublishesFitCard

/-- THE TIED CARD OF 'headendlaw12.DeskPublishesMatchSpec'. -/
def deskPublishesMatchSpecCard : Claim7 := { stood := { row := deskPublishesMatchSpecRow, standIns := [], harness := (true, "64e67747292ef7994e3f8ae570ca93591ad012ec208d472efa3753895b76776c"), looks := true }, kinds := [], alts := [], laidByText := true, laidKinds := [.data, .data, .data, .sentinel, .sentinel], laidTests := true, laidLooks := .later }
def DeskPublishesMatchSpecCardSaid : Prop := Claim7.holds Tryz.pinned (.plain (OpenSpec.ofChange deskPublishesMatchSpecSpec)) deskPublishesMatchSpecCard

/-- THE SECOND FORM's CARD OF 'headendtop.TopRatesAreOne'. -/
def topRatesAreOneUptoCard : Claim7 := { stood := { row := topRatesAreOneUptoRow, standIns := [], harness := (true, "64e67747292ef7994e3f8ae570ca93591ad012ec208d472efa3753895b76776c"), looks := true }, kinds := [], alts := [], laidByText := true, laidKinds := [.data, .data, .data], laidTests := true, laidLooks := .later }
def TopRatesAreOneUptoCardSaid : Prop := Claim7.holds Tryz.pinned (.plain (OpenSpec.upto topRatesAreOneSpec)) topRatesAreOneUptoCard

/-- THE SECOND FORM's CARD OF 'headendlaw12.DeskPublishesFit'. -/
def deskPublishesFitUptoCard : Claim7 := { stood := { row := deskPublishesFitUptoRow, standIns := [], harness := (true, "64e67747292ef7994e3f8ae570ca93591ad012ec208d472efa3753895b76776c"), looks := true }, kinds := [], alts := [], laidByText := true, laidKinds := [.data, .data, .data], laidTests := true, laidLooks := .later }
def DeskPublishesFitUptoCardSaid : Prop := Claim7.holds Tryz.pinned (.plain (OpenSpec.upto deskPublishesFitSpec)) deskPublishesFitUptoCard

/-- THE SECOND FORM's CARD OF 'headendlaw12.DeskPublishesMatchSpec'. -/
def deskPublishesMatchSpecUptoCard : Claim7 := { stood := { row := deskPublishesMatchSpecUptoRow, standIns := [], harness := (true, "64e67747292ef7994e3f8ae570ca93591ad012ec208d472efa3753895b76776c"), looks := true }, kinds := [], alts := [], laidByText := true, laidKinds := [.data, .data, .data, .sentinel, .sentinel], laidTests := true, laidLooks := .later }
def DeskPublishesMatchSpecUptoCardSaid : Prop := Claim7.holds Tryz.pinned (.plain (OpenSpec.upto deskPublishesMatchSpecSpec)) deskPublishesMatchSpecUptoCard
end Rows
end Go.Proofs.YtpaeopnlblhpoaaGreatDoor
