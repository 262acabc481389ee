/-
  DERIVED. GIVEN WITH THE SEED: THE CARDS: each row of YtbeobbjiogbdlaaGreatDoorRows.lean that lists a variable, with what it lists TIED to the program's text (the seventh form; the later family's looks); each row that meets fmt, with fmt's text TOLD by the authors' own Lean function (tested against real Go, not proved from fmt's source: count such statements apart). THE CARD IS WHAT COUNTS. Prove the row's statement (the work); the ties are given (YtbeobbjiogbdlaaGreatDoorTie.lean); close each card by the builder's one call (the guide's Derived/Test/ToyasCard.lean, 'card_holds'). Laid BY PROGRAM, IN A SANDBOX (cutbox-door.mjs). By AI agents, Wed Nov 11 2026. No macro, syntax, notation, axiom, sorry.
-/
import Derived.Test.YtbeobbjiogbdlaaGreatDoorRows
import GoSem.ClaimSeven
namespace Go.Proofs.YtbeobbjiogbdlaaGreatDoor
namespace Rows

/-- THE TIED CARD OF 'headendtop.TopLicencesCoverLists'. -/
def topLicencesCoverListsCard : Claim7 := { stood := { row := topLicencesCoverListsRow, standIns := [], harness := (true, "7ec959f143a9c3f4b2ea2efba0359bc83c02ec7a6fb60a052e7e36675a7348a0"), looks := true }, kinds := [], alts := [], laidByText := true, laidKinds := [.data, .data, .data], laidTests := true, laidLooks := .later }
def TopLicencesCoverListsCardSaid : Prop := Claim7.holds Tryz.pinned (.plain (OpenSpec.ofChange topLicencesCoverListsSpec)) topLicencesCoverListsCard

/-- THE TIED CARD OF 'headendlaw12.DeskSubtitlesMatchSpec'. -/
def deskSubtitlesMatchSpecCard : Claim7 := { stood := { row := deskSubtitlesMatchSpecRow, standIns := [], harness := (true, "7ec959f143a9c3f4b2ea2efba0359bc83c02ec7a6fb60a052e7e36675a7348a0"), looks := true }, kinds := [], alts := [], laidByText := true, laidKinds := [.data, .data, .data, .data, .sentinel, .sentinel, .pinned], laidTests := true, laidLooks := .later }
def DeskSubtitlesMatchSpecCardSaid : Prop := Claim7.holds Tryz.pinned (.plain (OpenSpec.ofChange deskSubtitlesMatchSpecSpec)) deskSubtitlesMatchSpecCard

/-- THE TIED CARD OF 'headendtop.TopSubtitlesComeTogether'. -/
def topSubtitlesComeTogetherCard : Claim7 := { stood := { row := topSubtitlesComeTogetherRow, standIns := [], harness := (true, "7ec959f143a9c3f4b2ea2efba0359bc83c02ec7a6fb60a052e7e36675a7348a0"), looks := true }, kinds := [], alts := [], laidByText := true, laidKinds := [.data, .data, .data, .data, .sentinel, .sentinel, .pinned], laidTests := true, laidLooks := .later }
def TopSubtitlesComeTogetherCardSaid : Prop := Claim7.holds Tryz.pinned (.plain (OpenSpec.ofChange topSubtitlesComeTogetherSpec)) topSubtitlesComeTogetherCard

/-- THE SECOND FORM's CARD OF 'headendtop.TopLicencesCoverLists'. -/
def topLicencesCoverListsUptoCard : Claim7 := { stood := { row := topLicencesCoverListsUptoRow, standIns := [], harness := (true, "7ec959f143a9c3f4b2ea2efba0359bc83c02ec7a6fb60a052e7e36675a7348a0"), looks := true }, kinds := [], alts := [], laidByText := true, laidKinds := [.data, .data, .data], laidTests := true, laidLooks := .later }
def TopLicencesCoverListsUptoCardSaid : Prop := Claim7.holds Tryz.pinned (.plain (OpenSpec.upto topLicencesCoverListsSpec)) topLicencesCoverListsUptoCard

/-- THE SECOND FORM's CARD OF 'headendlaw12.DeskSubtitlesMatchSpec'. -/
def deskSubtitlesMatchSpecUptoCard : Claim7 := { stood := { row := deskSubtitlesMatchSpecUptoRow, standIns := [], harness := (true, "7ec959f143a9c3f4b2ea2efba0359bc83c02ec7a6fb60a052e7e36675a7348a0"), looks := true }, kinds := [], alts := [], laidByText := true, laidKinds := [.data, .data, .data, .data, .sentinel, .sentinel, .pinned], laidTests := true, laidLooks := .later }
def DeskSubtitlesMatchSpecUptoCardSaid : Prop := Claim7.holds Tryz.pinned (.plain (OpenSpec.upto deskSubtitlesMatchSpecSpec)) deskSubtitlesMatchSpecUptoCard

/-- THE SECOND FORM's CARD OF 'headendtop.TopSubtitlesComeTogether'. -/
def topSubtitlesComeTogetherUptoCard : Claim7 := { stood := { row := topSubtitlesComeTogetherUptoRow, standIns := [], harness := (true, "7ec959f143a9c3f4b2ea2efba0359bc83c02ec7a6fb60a052e7e36675a7348a0"), looks := true }, kinds := [], alts := [], laidByText := true, laidKinds := [.data, .data, .data, .data, .sentinel, .sentinel, .pinned], laidTests := true, laidLooks := .later }
def TopSubtitlesComeTogetherUptoCardSaid : Prop := Claim7.holds Tryz.pinned (.plain (OpenSpec.upto topSubtitlesComeTogetherSpec)) topSubtitlesComeTogetherUptoCard
end Rows
end Go.Proofs.YtbeobbjiogbdlaaGreatDoor
