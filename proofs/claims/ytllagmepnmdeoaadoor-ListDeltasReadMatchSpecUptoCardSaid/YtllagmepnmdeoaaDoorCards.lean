/-
  DERIVED. GIVEN WITH THE SEED: THE CARDS: each row of YtllagmepnmdeoaaDoorRows.lean that lists a variable, with what it lists TIED to the program's text (the seventh form; the later family's looks); each row that meets fmt, with fmt's text TOLD by the authors' own Lean function (tested against real Go, not proved from fmt's source: count such statements apart). THE CARD IS WHAT COUNTS. Prove the row's statement (the work); the ties are given (YtllagmepnmdeoaaDoorTie.lean); close each card by the builder's one call (the guide's Derived/Test/ToyasCard.lean, 'card_holds'). Laid BY PROGRAM, IN A SANDBOX (cutbox-door.mjs). By AI agents, Wed Nov 11 2026. No macro, syntax, notation, axiom, sorry.
-/
import Derived.Test.YtllagmepnmdeoaaDoorRows
import GoSem.ClaimSeven
namespace Go.Proofs.YtllagmepnmdeoaaDoor
namespace Rows

/-- THE TIED CARD OF 'headendlaw6.ListReadsMatchSpec'. -/
def listReadsMatchSpecCard : Claim7 := { stood := { row := listReadsMatchSpecRow, standIns := [], harness := (true, "98ca1ea898616afa6af037f17a2114448c779f767f3fbdfd333bd12760300320"), looks := true }, kinds := [], alts := [], laidByText := true, laidKinds := [.data, .data, .data, .sentinel, .sentinel], laidTests := true, laidLooks := .later }
def ListReadsMatchSpecCardSaid : Prop := Claim7.holds Tryd.pinned (.plain (OpenSpec.ofChange listReadsMatchSpecSpec)) listReadsMatchSpecCard

/-- THE TIED CARD OF 'headendlaw6.ListDeltasReadMatchSpec'. -/
def listDeltasReadMatchSpecCard : Claim7 := { stood := { row := listDeltasReadMatchSpecRow, standIns := [], harness := (true, "98ca1ea898616afa6af037f17a2114448c779f767f3fbdfd333bd12760300320"), looks := true }, kinds := [], alts := [], laidByText := true, laidKinds := [.data, .data, .data, .sentinel, .sentinel], laidTests := true, laidLooks := .later }
def ListDeltasReadMatchSpecCardSaid : Prop := Claim7.holds Tryd.pinned (.plain (OpenSpec.ofChange listDeltasReadMatchSpecSpec)) listDeltasReadMatchSpecCard

/-- THE SECOND FORM's CARD OF 'headendlaw6.ListReadsMatchSpec'. -/
def listReadsMatchSpecUptoCard : Claim7 := { stood := { row := listReadsMatchSpecUptoRow, standIns := [], harness := (true, "98ca1ea898616afa6af037f17a2114448c779f767f3fbdfd333bd12760300320"), looks := true }, kinds := [], alts := [], laidByText := true, laidKinds := [.data, .data, .data, .sentinel, .sentinel], laidTests := true, laidLooks := .later }
def ListReadsMatchSpecUptoCardSaid : Prop := Claim7.holds Tryd.pinned (.plain (OpenSpec.upto listReadsMatchSpecSpec)) listReadsMatchSpecUptoCard

/-- THE SECOND FORM's CARD OF 'headendlaw6.ListDeltasReadMatchSpec'. -/
def listDeltasReadMatchSpecUptoCard : Claim7 := { stood := { row := listDeltasReadMatchSpecUptoRow, standIns := [], harness := (true, "98ca1ea898616afa6af037f17a2114448c779f767f3fbdfd333bd12760300320"), looks := true }, kinds := [], alts := [], laidByText := true, laidKinds := [.data, .data, .data, .sentinel, .sentinel], laidTests := true, laidLooks := .later }
def ListDeltasReadMatchSpecUptoCardSaid : Prop := Claim7.holds Tryd.pinned (.plain (OpenSpec.upto listDeltasReadMatchSpecSpec)) listDeltasReadMatchSpecUptoCard
end Rows
end Go.Proofs.YtllagmepnmdeoaaDoor
