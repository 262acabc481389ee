/-
  DERIVED. GIVEN WITH THE SEED: THE CARDS: each row of YtajmdlpanlbnjaaGreatDoorRows.lean that lists a variable, with what it lists TIED to the program's text (the seventh form; the later family's looks); each row that meets fmt, with fmt's text TOLD by the authors' own Lean function (tested against real Go, not proved from fmt's source: count such statements apart). THE CARD IS WHAT COUNTS. Prove the row's statement (the work); the ties are given (YtajmdlpanlbnjaaGreatDoorTie.lean); close each card by the builder's one call (the guide's Derived/Test/ToyasCard.lean, 'card_holds'). Laid BY PROGRAM, IN A SANDBOX (cutbox-door.mjs). By AI agents, Wed Nov 11 2026. No macro, syntax, notation, axiom, sorry.
-/
import Derived.Test.YtajmdlpanlbnjaaGreatDoorRows
import GoSem.ClaimSeven
namespace Go.Proofs.YtajmdlpanlbnjaaGreatDoor
namespace Rows

/-- THE TIED CARD OF 'headendlaw6.ListChecksMatchSpec'. -/
def listChecksMatchSpecCard : Claim7 := { stood := { row := listChecksMatchSpecRow, standIns := [], harness := (true, "298e31565a23b95bdd4c356471ea2f3d05a285548f962c1793903e0afb78346d"), looks := true }, kinds := [], alts := [], laidByText := true, laidKinds := [.data, .data, .data, .sentinel, .sentinel], laidTests := true, laidLooks := .later }
def ListChecksMatchSpecCardSaid : Prop := Claim7.holds Tryz.pinned (.plain (OpenSpec.ofChange listChecksMatchSpecSpec)) listChecksMatchSpecCard

/-- THE TIED CARD OF 'headendlaw6.ListDeltasMatchSpec'. -/
def listDeltasMatchSpecCard : Claim7 := { stood := { row := listDeltasMatchSpecRow, standIns := [], harness := (true, "298e31565a23b95bdd4c356471ea2f3d05a285548f962c1793903e0afb78346d"), looks := true }, kinds := [], alts := [], laidByText := true, laidKinds := [.data, .data, .data, .sentinel, .sentinel], laidTests := true, laidLooks := .later }
def ListDeltasMatchSpecCardSaid : Prop := Claim7.holds Tryz.pinned (.plain (OpenSpec.ofChange listDeltasMatchSpecSpec)) listDeltasMatchSpecCard

/-- THE TIED CARD OF 'headendlaw6.ListDeltasPatch'. -/
def listDeltasPatchCard : Claim7 := { stood := { row := listDeltasPatchRow, standIns := [], harness := (true, "298e31565a23b95bdd4c356471ea2f3d05a285548f962c1793903e0afb78346d"), looks := true }, kinds := [], alts := [], laidByText := true, laidKinds := [.data, .data, .data, .sentinel, .sentinel], laidTests := true, laidLooks := .later }
def ListDeltasPatchCardSaid : Prop := Claim7.holds Tryz.pinned (.plain (OpenSpec.ofChange listDeltasPatchSpec)) listDeltasPatchCard

/-- THE SECOND FORM's CARD OF 'headendlaw6.ListChecksMatchSpec'. -/
def listChecksMatchSpecUptoCard : Claim7 := { stood := { row := listChecksMatchSpecUptoRow, standIns := [], harness := (true, "298e31565a23b95bdd4c356471ea2f3d05a285548f962c1793903e0afb78346d"), looks := true }, kinds := [], alts := [], laidByText := true, laidKinds := [.data, .data, .data, .sentinel, .sentinel], laidTests := true, laidLooks := .later }
def ListChecksMatchSpecUptoCardSaid : Prop := Claim7.holds Tryz.pinned (.plain (OpenSpec.upto listChecksMatchSpecSpec)) listChecksMatchSpecUptoCard

/-- THE SECOND FORM's CARD OF 'headendlaw6.ListDeltasMatchSpec'. -/
def listDeltasMatchSpecUptoCard : Claim7 := { stood := { row := listDeltasMatchSpecUptoRow, standIns := [], harness := (true, "298e31565a23b95bdd4c356471ea2f3d05a285548f962c1793903e0afb78346d"), looks := true }, kinds := [], alts := [], laidByText := true, laidKinds := [.data, .data, .data, .sentinel, .sentinel], laidTests := true, laidLooks := .later }
def ListDeltasMatchSpecUptoCardSaid : Prop := Claim7.holds Tryz.pinned (.plain (OpenSpec.upto listDeltasMatchSpecSpec)) listDeltasMatchSpecUptoCard

/-- THE SECOND FORM's CARD OF 'headendlaw6.ListDeltasPatch'. -/
def listDeltasPatchUptoCard : Claim7 := { stood := { row := listDeltasPatchUptoRow, standIns := [], harness := (true, "298e31565a23b95bdd4c356471ea2f3d05a285548f962c1793903e0afb78346d"), looks := true }, kinds := [], alts := [], laidByText := true, laidKinds := [.data, .data, .data, .sentinel, .sentinel], laidTests := true, laidLooks := .later }
def ListDeltasPatchUptoCardSaid : Prop := Claim7.holds Tryz.pinned (.plain (OpenSpec.upto listDeltasPatchSpec)) listDeltasPatchUptoCard
end Rows
end Go.Proofs.YtajmdlpanlbnjaaGreatDoor
