/-
  DERIVED. GIVEN WITH THE SEED: THE CARDS: each row of YtlemjphdhapfpaaDoorRows.lean that lists a variable, with what it lists TIED to the program's text (the seventh form; the later family's looks); each row that meets fmt, with fmt's text TOLD by the authors' own Lean function (tested against real Go, not proved from fmt's source: count such statements apart). THE CARD IS WHAT COUNTS. Prove the row's statement (the work); the ties are given (YtlemjphdhapfpaaDoorTie.lean); close each card by the builder's one call (the guide's Derived/Test/ToyasCard.lean, 'card_holds'). Laid BY PROGRAM, IN A SANDBOX (cutbox-door.mjs). By AI agents, Wed Nov 11 2026. No macro, syntax, notation, axiom, sorry.
-/
import Derived.Test.YtlemjphdhapfpaaDoorRows
import GoSem.ClaimSeven
namespace Go.Proofs.YtlemjphdhapfpaaDoor
namespace Rows

/-- THE TIED CARD OF 'headendtop.TopKeysAreNeeded'. -/
def topKeysAreNeededCard : Claim7 := { stood := { row := topKeysAreNeededRow, standIns := [], harness := (true, "6fb5cd23f10321be787f88b97519334fcbd53503e5afef938c929c3e26c49fdb"), looks := false }, kinds := [], alts := [], laidByText := true, laidKinds := [.data, .data, .data], laidTests := true, laidLooks := .later }
def TopKeysAreNeededCardSaid : Prop := Claim7.holds Tryd.pinned (.plain (OpenSpec.ofChange topKeysAreNeededSpec)) topKeysAreNeededCard

/-- THE TIED CARD OF 'headendlaw12.DeskKeysAreNeeded'. -/
def deskKeysAreNeededCard : Claim7 := { stood := { row := deskKeysAreNeededRow, standIns := [], harness := (true, "6fb5cd23f10321be787f88b97519334fcbd53503e5afef938c929c3e26c49fdb"), looks := false }, kinds := [], alts := [], laidByText := true, laidKinds := [.data, .data, .data], laidTests := true, laidLooks := .later }
def DeskKeysAreNeededCardSaid : Prop := Claim7.holds Tryd.pinned (.plain (OpenSpec.ofChange deskKeysAreNeededSpec)) deskKeysAreNeededCard

/-- THE SECOND FORM's CARD OF 'headendtop.TopKeysAreNeeded'. -/
def topKeysAreNeededUptoCard : Claim7 := { stood := { row := topKeysAreNeededUptoRow, standIns := [], harness := (true, "6fb5cd23f10321be787f88b97519334fcbd53503e5afef938c929c3e26c49fdb"), looks := false }, kinds := [], alts := [], laidByText := true, laidKinds := [.data, .data, .data], laidTests := true, laidLooks := .later }
def TopKeysAreNeededUptoCardSaid : Prop := Claim7.holds Tryd.pinned (.plain (OpenSpec.upto topKeysAreNeededSpec)) topKeysAreNeededUptoCard

/-- THE SECOND FORM's CARD OF 'headendlaw12.DeskKeysAreNeeded'. -/
def deskKeysAreNeededUptoCard : Claim7 := { stood := { row := deskKeysAreNeededUptoRow, standIns := [], harness := (true, "6fb5cd23f10321be787f88b97519334fcbd53503e5afef938c929c3e26c49fdb"), looks := false }, kinds := [], alts := [], laidByText := true, laidKinds := [.data, .data, .data], laidTests := true, laidLooks := .later }
def DeskKeysAreNeededUptoCardSaid : Prop := Claim7.holds Tryd.pinned (.plain (OpenSpec.upto deskKeysAreNeededSpec)) deskKeysAreNeededUptoCard
end Rows
end Go.Proofs.YtlemjphdhapfpaaDoor
