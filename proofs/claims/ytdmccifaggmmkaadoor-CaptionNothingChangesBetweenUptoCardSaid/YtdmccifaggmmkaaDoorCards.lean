/-
  DERIVED. GIVEN WITH THE SEED: THE CARDS: each row of YtdmccifaggmmkaaDoorRows.lean that lists a variable, with what it lists TIED to the program's text (the seventh form; the later family's looks); each row that meets fmt, with fmt's text TOLD by the authors' own Lean function (tested against real Go, not proved from fmt's source: count such statements apart). THE CARD IS WHAT COUNTS. Prove the row's statement (the work); the ties are given (YtdmccifaggmmkaaDoorTie.lean); close each card by the builder's one call (the guide's Derived/Test/ToyasCard.lean, 'card_holds'). Laid BY PROGRAM, IN A SANDBOX (cutbox-door.mjs). By AI agents, Wed Nov 11 2026. No macro, syntax, notation, axiom, sorry.
-/
import Derived.Test.YtdmccifaggmmkaaDoorRows
import GoSem.ClaimSeven
namespace Go.Proofs.YtdmccifaggmmkaaDoor
namespace Rows

/-- THE TIED CARD OF 'headendlaw9.CaptionRollsMatchSpec'. -/
def captionRollsMatchSpecCard : Claim7 := { stood := { row := captionRollsMatchSpecRow, standIns := [], harness := (true, "2f5cbb5e86e03344ada3fb6b8e7697c71d76338c0a3976be2f9835fbf061f29e"), looks := false }, kinds := [], alts := [], laidByText := true, laidKinds := [.data, .pinned], laidTests := true, laidLooks := .later }
def CaptionRollsMatchSpecCardSaid : Prop := Claim7.holds Tryd.pinned (.plain (OpenSpec.ofChange captionRollsMatchSpecSpec)) captionRollsMatchSpecCard

/-- THE TIED CARD OF 'headendlaw9.CaptionRollsShowEachWord'. -/
def captionRollsShowEachWordCard : Claim7 := { stood := { row := captionRollsShowEachWordRow, standIns := [], harness := (true, "2f5cbb5e86e03344ada3fb6b8e7697c71d76338c0a3976be2f9835fbf061f29e"), looks := false }, kinds := [], alts := [], laidByText := true, laidKinds := [.data, .pinned], laidTests := true, laidLooks := .later }
def CaptionRollsShowEachWordCardSaid : Prop := Claim7.holds Tryd.pinned (.plain (OpenSpec.ofChange captionRollsShowEachWordSpec)) captionRollsShowEachWordCard

/-- THE TIED CARD OF 'headendlaw9.CaptionTimesMatchSpec'. -/
def captionTimesMatchSpecCard : Claim7 := { stood := { row := captionTimesMatchSpecRow, standIns := [], harness := (true, "2f5cbb5e86e03344ada3fb6b8e7697c71d76338c0a3976be2f9835fbf061f29e"), looks := false }, kinds := [], alts := [], laidByText := true, laidKinds := [.data, .pinned], laidTests := true, laidLooks := .later }
def CaptionTimesMatchSpecCardSaid : Prop := Claim7.holds Tryd.pinned (.plain (OpenSpec.ofChange captionTimesMatchSpecSpec)) captionTimesMatchSpecCard

/-- THE TIED CARD OF 'headendlaw9.CaptionNothingChangesBetween'. -/
def captionNothingChangesBetweenCard : Claim7 := { stood := { row := captionNothingChangesBetweenRow, standIns := [], harness := (true, "2f5cbb5e86e03344ada3fb6b8e7697c71d76338c0a3976be2f9835fbf061f29e"), looks := false }, kinds := [], alts := [], laidByText := true, laidKinds := [.data, .pinned], laidTests := true, laidLooks := .later }
def CaptionNothingChangesBetweenCardSaid : Prop := Claim7.holds Tryd.pinned (.plain (OpenSpec.ofChange captionNothingChangesBetweenSpec)) captionNothingChangesBetweenCard

/-- THE SECOND FORM's CARD OF 'headendlaw9.CaptionRollsMatchSpec'. -/
def captionRollsMatchSpecUptoCard : Claim7 := { stood := { row := captionRollsMatchSpecUptoRow, standIns := [], harness := (true, "2f5cbb5e86e03344ada3fb6b8e7697c71d76338c0a3976be2f9835fbf061f29e"), looks := false }, kinds := [], alts := [], laidByText := true, laidKinds := [.data, .pinned], laidTests := true, laidLooks := .later }
def CaptionRollsMatchSpecUptoCardSaid : Prop := Claim7.holds Tryd.pinned (.plain (OpenSpec.upto captionRollsMatchSpecSpec)) captionRollsMatchSpecUptoCard

/-- THE SECOND FORM's CARD OF 'headendlaw9.CaptionRollsShowEachWord'. -/
def captionRollsShowEachWordUptoCard : Claim7 := { stood := { row := captionRollsShowEachWordUptoRow, standIns := [], harness := (true, "2f5cbb5e86e03344ada3fb6b8e7697c71d76338c0a3976be2f9835fbf061f29e"), looks := false }, kinds := [], alts := [], laidByText := true, laidKinds := [.data, .pinned], laidTests := true, laidLooks := .later }
def CaptionRollsShowEachWordUptoCardSaid : Prop := Claim7.holds Tryd.pinned (.plain (OpenSpec.upto captionRollsShowEachWordSpec)) captionRollsShowEachWordUptoCard

/-- THE SECOND FORM's CARD OF 'headendlaw9.CaptionTimesMatchSpec'. -/
def captionTimesMatchSpecUptoCard : Claim7 := { stood := { row := captionTimesMatchSpecUptoRow, standIns := [], harness := (true, "2f5cbb5e86e03344ada3fb6b8e7697c71d76338c0a3976be2f9835fbf061f29e"), looks := false }, kinds := [], alts := [], laidByText := true, laidKinds := [.data, .pinned], laidTests := true, laidLooks := .later }
def CaptionTimesMatchSpecUptoCardSaid : Prop := Claim7.holds Tryd.pinned (.plain (OpenSpec.upto captionTimesMatchSpecSpec)) captionTimesMatchSpecUptoCard

/-- THE SECOND FORM's CARD OF 'headendlaw9.CaptionNothingChangesBetween'. -/
def captionNothingChangesBetweenUptoCard : Claim7 := { stood := { row := captionNothingChangesBetweenUptoRow, standIns := [], harness := (true, "2f5cbb5e86e03344ada3fb6b8e7697c71d76338c0a3976be2f9835fbf061f29e"), looks := false }, kinds := [], alts := [], laidByText := true, laidKinds := [.data, .pinned], laidTests := true, laidLooks := .later }
def CaptionNothingChangesBetweenUptoCardSaid : Prop := Claim7.holds Tryd.pinned (.plain (OpenSpec.upto captionNothingChangesBetweenSpec)) captionNothingChangesBetweenUptoCard
end Rows
end Go.Proofs.YtdmccifaggmmkaaDoor
