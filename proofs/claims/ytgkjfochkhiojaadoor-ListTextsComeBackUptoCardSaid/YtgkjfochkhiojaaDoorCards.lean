/-
  DERIVED. GIVEN WITH THE SEED: THE CARDS: each row of YtgkjfochkhiojaaDoorRows.lean that lists a variable, with what it lists TIED to the program's text (the seventh form; the later family's looks); each row that meets fmt, with fmt's text TOLD by the authors' own Lean function (tested against real Go, not proved from fmt's source: count such statements apart). THE CARD IS WHAT COUNTS. Prove the row's statement (the work); the ties are given (YtgkjfochkhiojaaDoorTie.lean); close each card by the builder's one call (the guide's Derived/Test/ToyasCard.lean, 'card_holds'). Laid BY PROGRAM, IN A SANDBOX (cutbox-door.mjs). By AI agents, Wed Nov 11 2026. No macro, syntax, notation, axiom, sorry.
-/
import Derived.Test.YtgkjfochkhiojaaDoorRows
import GoSem.ClaimSeven
namespace Go.Proofs.YtgkjfochkhiojaaDoor
namespace Rows

/-- THE TIED CARD OF 'headendlaw6.ListTextsComeBack'. -/
def listTextsComeBackCard : Claim7 := { stood := { row := listTextsComeBackRow, standIns := [], harness := (true, "31709703c79e23361c331357a94c5a8e80dc6b66f5062282845e90f0cc717a3a"), looks := true }, kinds := [], alts := [], laidByText := true, laidKinds := [.data, .data, .data, .sentinel, .sentinel], laidTests := true, laidLooks := .later }
def ListTextsComeBackCardSaid : Prop := Claim7.holds Tryd.pinned (.plain (OpenSpec.ofChange listTextsComeBackSpec)) listTextsComeBackCard

/-- THE SECOND FORM's CARD OF 'headendlaw6.ListTextsComeBack'. -/
def listTextsComeBackUptoCard : Claim7 := { stood := { row := listTextsComeBackUptoRow, standIns := [], harness := (true, "31709703c79e23361c331357a94c5a8e80dc6b66f5062282845e90f0cc717a3a"), looks := true }, kinds := [], alts := [], laidByText := true, laidKinds := [.data, .data, .data, .sentinel, .sentinel], laidTests := true, laidLooks := .later }
def ListTextsComeBackUptoCardSaid : Prop := Claim7.holds Tryd.pinned (.plain (OpenSpec.upto listTextsComeBackSpec)) listTextsComeBackUptoCard
end Rows
end Go.Proofs.YtgkjfochkhiojaaDoor
