/-
  DERIVED. GIVEN WITH THE SEED: THE CARDS: each row of YtniealifncgilaaDoorRows.lean that lists a variable, with what it lists TIED to the program's text (the seventh form; the later family's looks); each row that meets fmt, with fmt's text TOLD by the authors' own Lean function (tested against real Go, not proved from fmt's source: count such statements apart). THE CARD IS WHAT COUNTS. Prove the row's statement (the work); the ties are given (YtniealifncgilaaDoorTie.lean); close each card by the builder's one call (the guide's Derived/Test/ToyasCard.lean, 'card_holds'). Laid BY PROGRAM, IN A SANDBOX (cutbox-door.mjs). By AI agents, Wed Nov 11 2026. No macro, syntax, notation, axiom, sorry.
-/
import Derived.Test.YtniealifncgilaaDoorRows
import GoSem.ClaimSeven
namespace Go.Proofs.YtniealifncgilaaDoor
namespace Rows

/-- THE TIED CARD OF 'headendlaw9.CaptionBreaksMatchSpec'. -/
def captionBreaksMatchSpecCard : Claim7 := { stood := { row := captionBreaksMatchSpecRow, standIns := [], harness := (true, "b06d8747ee81cc35154e3a547460979e0e55c44cf5940ed927262cbcc7700f21"), looks := false }, kinds := [], alts := [], laidByText := true, laidKinds := [.data, .pinned], laidTests := true, laidLooks := .later }
def CaptionBreaksMatchSpecCardSaid : Prop := Claim7.holds Tryd.pinned (.plain (OpenSpec.ofChange captionBreaksMatchSpecSpec)) captionBreaksMatchSpecCard

/-- THE TIED CARD OF 'headendlaw9.CaptionBreaksKeepTheWords'. -/
def captionBreaksKeepTheWordsCard : Claim7 := { stood := { row := captionBreaksKeepTheWordsRow, standIns := [], harness := (true, "b06d8747ee81cc35154e3a547460979e0e55c44cf5940ed927262cbcc7700f21"), looks := false }, kinds := [], alts := [], laidByText := true, laidKinds := [.data, .pinned], laidTests := true, laidLooks := .later }
def CaptionBreaksKeepTheWordsCardSaid : Prop := Claim7.holds Tryd.pinned (.plain (OpenSpec.ofChange captionBreaksKeepTheWordsSpec)) captionBreaksKeepTheWordsCard

/-- THE TIED CARD OF 'headendlaw9.CaptionFindsMatchSpec'. -/
def captionFindsMatchSpecCard : Claim7 := { stood := { row := captionFindsMatchSpecRow, standIns := [], harness := (true, "b06d8747ee81cc35154e3a547460979e0e55c44cf5940ed927262cbcc7700f21"), looks := false }, kinds := [], alts := [], laidByText := true, laidKinds := [.data, .pinned], laidTests := true, laidLooks := .later }
def CaptionFindsMatchSpecCardSaid : Prop := Claim7.holds Tryd.pinned (.plain (OpenSpec.ofChange captionFindsMatchSpecSpec)) captionFindsMatchSpecCard

/-- THE TIED CARD OF 'headendlaw9.CaptionPlacesDoNotMeet'. -/
def captionPlacesDoNotMeetCard : Claim7 := { stood := { row := captionPlacesDoNotMeetRow, standIns := [], harness := (true, "b06d8747ee81cc35154e3a547460979e0e55c44cf5940ed927262cbcc7700f21"), looks := false }, kinds := [], alts := [], laidByText := true, laidKinds := [.data, .pinned], laidTests := true, laidLooks := .later }
def CaptionPlacesDoNotMeetCardSaid : Prop := Claim7.holds Tryd.pinned (.plain (OpenSpec.ofChange captionPlacesDoNotMeetSpec)) captionPlacesDoNotMeetCard

/-- THE TIED CARD OF 'headendlaw9.CaptionSpeedsMatchSpec'. -/
def captionSpeedsMatchSpecCard : Claim7 := { stood := { row := captionSpeedsMatchSpecRow, standIns := [], harness := (true, "b06d8747ee81cc35154e3a547460979e0e55c44cf5940ed927262cbcc7700f21"), looks := false }, kinds := [], alts := [], laidByText := true, laidKinds := [.data, .pinned], laidTests := true, laidLooks := .later }
def CaptionSpeedsMatchSpecCardSaid : Prop := Claim7.holds Tryd.pinned (.plain (OpenSpec.ofChange captionSpeedsMatchSpecSpec)) captionSpeedsMatchSpecCard

/-- THE TIED CARD OF 'headendlaw9.CaptionShiftsMatchSpec'. -/
def captionShiftsMatchSpecCard : Claim7 := { stood := { row := captionShiftsMatchSpecRow, standIns := [], harness := (true, "b06d8747ee81cc35154e3a547460979e0e55c44cf5940ed927262cbcc7700f21"), looks := false }, kinds := [], alts := [], laidByText := true, laidKinds := [.data, .pinned], laidTests := true, laidLooks := .later }
def CaptionShiftsMatchSpecCardSaid : Prop := Claim7.holds Tryd.pinned (.plain (OpenSpec.ofChange captionShiftsMatchSpecSpec)) captionShiftsMatchSpecCard

/-- THE TIED CARD OF 'headendlaw9.CaptionPlacesMatchSpec'. -/
def captionPlacesMatchSpecCard : Claim7 := { stood := { row := captionPlacesMatchSpecRow, standIns := [], harness := (true, "b06d8747ee81cc35154e3a547460979e0e55c44cf5940ed927262cbcc7700f21"), looks := false }, kinds := [], alts := [], laidByText := true, laidKinds := [.data, .pinned], laidTests := true, laidLooks := .later }
def CaptionPlacesMatchSpecCardSaid : Prop := Claim7.holds Tryd.pinned (.plain (OpenSpec.ofChange captionPlacesMatchSpecSpec)) captionPlacesMatchSpecCard

/-- THE TIED CARD OF 'headendlaw9.CaptionSlowIsSlow'. -/
def captionSlowIsSlowCard : Claim7 := { stood := { row := captionSlowIsSlowRow, standIns := [], harness := (true, "b06d8747ee81cc35154e3a547460979e0e55c44cf5940ed927262cbcc7700f21"), looks := false }, kinds := [], alts := [], laidByText := true, laidKinds := [.data, .pinned], laidTests := true, laidLooks := .later }
def CaptionSlowIsSlowCardSaid : Prop := Claim7.holds Tryd.pinned (.plain (OpenSpec.ofChange captionSlowIsSlowSpec)) captionSlowIsSlowCard

/-- THE TIED CARD OF 'headendlaw9.CaptionDriftsMatchSpec'. -/
def captionDriftsMatchSpecCard : Claim7 := { stood := { row := captionDriftsMatchSpecRow, standIns := [], harness := (true, "b06d8747ee81cc35154e3a547460979e0e55c44cf5940ed927262cbcc7700f21"), looks := false }, kinds := [], alts := [], laidByText := true, laidKinds := [.data, .pinned], laidTests := true, laidLooks := .later }
def CaptionDriftsMatchSpecCardSaid : Prop := Claim7.holds Tryd.pinned (.plain (OpenSpec.ofChange captionDriftsMatchSpecSpec)) captionDriftsMatchSpecCard

/-- THE TIED CARD OF 'headendlaw9.CaptionDriftsAreFound'. -/
def captionDriftsAreFoundCard : Claim7 := { stood := { row := captionDriftsAreFoundRow, standIns := [], harness := (true, "b06d8747ee81cc35154e3a547460979e0e55c44cf5940ed927262cbcc7700f21"), looks := false }, kinds := [], alts := [], laidByText := true, laidKinds := [.data, .pinned], laidTests := true, laidLooks := .later }
def CaptionDriftsAreFoundCardSaid : Prop := Claim7.holds Tryd.pinned (.plain (OpenSpec.ofChange captionDriftsAreFoundSpec)) captionDriftsAreFoundCard

/-- THE SECOND FORM's CARD OF 'headendlaw9.CaptionBreaksMatchSpec'. -/
def captionBreaksMatchSpecUptoCard : Claim7 := { stood := { row := captionBreaksMatchSpecUptoRow, standIns := [], harness := (true, "b06d8747ee81cc35154e3a547460979e0e55c44cf5940ed927262cbcc7700f21"), looks := false }, kinds := [], alts := [], laidByText := true, laidKinds := [.data, .pinned], laidTests := true, laidLooks := .later }
def CaptionBreaksMatchSpecUptoCardSaid : Prop := Claim7.holds Tryd.pinned (.plain (OpenSpec.upto captionBreaksMatchSpecSpec)) captionBreaksMatchSpecUptoCard

/-- THE SECOND FORM's CARD OF 'headendlaw9.CaptionBreaksKeepTheWords'. -/
def captionBreaksKeepTheWordsUptoCard : Claim7 := { stood := { row := captionBreaksKeepTheWordsUptoRow, standIns := [], harness := (true, "b06d8747ee81cc35154e3a547460979e0e55c44cf5940ed927262cbcc7700f21"), looks := false }, kinds := [], alts := [], laidByText := true, laidKinds := [.data, .pinned], laidTests := true, laidLooks := .later }
def CaptionBreaksKeepTheWordsUptoCardSaid : Prop := Claim7.holds Tryd.pinned (.plain (OpenSpec.upto captionBreaksKeepTheWordsSpec)) captionBreaksKeepTheWordsUptoCard

/-- THE SECOND FORM's CARD OF 'headendlaw9.CaptionFindsMatchSpec'. -/
def captionFindsMatchSpecUptoCard : Claim7 := { stood := { row := captionFindsMatchSpecUptoRow, standIns := [], harness := (true, "b06d8747ee81cc35154e3a547460979e0e55c44cf5940ed927262cbcc7700f21"), looks := false }, kinds := [], alts := [], laidByText := true, laidKinds := [.data, .pinned], laidTests := true, laidLooks := .later }
def CaptionFindsMatchSpecUptoCardSaid : Prop := Claim7.holds Tryd.pinned (.plain (OpenSpec.upto captionFindsMatchSpecSpec)) captionFindsMatchSpecUptoCard

/-- THE SECOND FORM's CARD OF 'headendlaw9.CaptionPlacesDoNotMeet'. -/
def captionPlacesDoNotMeetUptoCard : Claim7 := { stood := { row := captionPlacesDoNotMeetUptoRow, standIns := [], harness := (true, "b06d8747ee81cc35154e3a547460979e0e55c44cf5940ed927262cbcc7700f21"), looks := false }, kinds := [], alts := [], laidByText := true, laidKinds := [.data, .pinned], laidTests := true, laidLooks := .later }
def CaptionPlacesDoNotMeetUptoCardSaid : Prop := Claim7.holds Tryd.pinned (.plain (OpenSpec.upto captionPlacesDoNotMeetSpec)) captionPlacesDoNotMeetUptoCard

/-- THE SECOND FORM's CARD OF 'headendlaw9.CaptionSpeedsMatchSpec'. -/
def captionSpeedsMatchSpecUptoCard : Claim7 := { stood := { row := captionSpeedsMatchSpecUptoRow, standIns := [], harness := (true, "b06d8747ee81cc35154e3a547460979e0e55c44cf5940ed927262cbcc7700f21"), looks := false }, kinds := [], alts := [], laidByText := true, laidKinds := [.data, .pinned], laidTests := true, laidLooks := .later }
def CaptionSpeedsMatchSpecUptoCardSaid : Prop := Claim7.holds Tryd.pinned (.plain (OpenSpec.upto captionSpeedsMatchSpecSpec)) captionSpeedsMatchSpecUptoCard

/-- THE SECOND FORM's CARD OF 'headendlaw9.CaptionShiftsMatchSpec'. -/
def captionShiftsMatchSpecUptoCard : Claim7 := { stood := { row := captionShiftsMatchSpecUptoRow, standIns := [], harness := (true, "b06d8747ee81cc35154e3a547460979e0e55c44cf5940ed927262cbcc7700f21"), looks := false }, kinds := [], alts := [], laidByText := true, laidKinds := [.data, .pinned], laidTests := true, laidLooks := .later }
def CaptionShiftsMatchSpecUptoCardSaid : Prop := Claim7.holds Tryd.pinned (.plain (OpenSpec.upto captionShiftsMatchSpecSpec)) captionShiftsMatchSpecUptoCard

/-- THE SECOND FORM's CARD OF 'headendlaw9.CaptionPlacesMatchSpec'. -/
def captionPlacesMatchSpecUptoCard : Claim7 := { stood := { row := captionPlacesMatchSpecUptoRow, standIns := [], harness := (true, "b06d8747ee81cc35154e3a547460979e0e55c44cf5940ed927262cbcc7700f21"), looks := false }, kinds := [], alts := [], laidByText := true, laidKinds := [.data, .pinned], laidTests := true, laidLooks := .later }
def CaptionPlacesMatchSpecUptoCardSaid : Prop := Claim7.holds Tryd.pinned (.plain (OpenSpec.upto captionPlacesMatchSpecSpec)) captionPlacesMatchSpecUptoCard

/-- THE SECOND FORM's CARD OF 'headendlaw9.CaptionSlowIsSlow'. -/
def captionSlowIsSlowUptoCard : Claim7 := { stood := { row := captionSlowIsSlowUptoRow, standIns := [], harness := (true, "b06d8747ee81cc35154e3a547460979e0e55c44cf5940ed927262cbcc7700f21"), looks := false }, kinds := [], alts := [], laidByText := true, laidKinds := [.data, .pinned], laidTests := true, laidLooks := .later }
def CaptionSlowIsSlowUptoCardSaid : Prop := Claim7.holds Tryd.pinned (.plain (OpenSpec.upto captionSlowIsSlowSpec)) captionSlowIsSlowUptoCard

/-- THE SECOND FORM's CARD OF 'headendlaw9.CaptionDriftsMatchSpec'. -/
def captionDriftsMatchSpecUptoCard : Claim7 := { stood := { row := captionDriftsMatchSpecUptoRow, standIns := [], harness := (true, "b06d8747ee81cc35154e3a547460979e0e55c44cf5940ed927262cbcc7700f21"), looks := false }, kinds := [], alts := [], laidByText := true, laidKinds := [.data, .pinned], laidTests := true, laidLooks := .later }
def CaptionDriftsMatchSpecUptoCardSaid : Prop := Claim7.holds Tryd.pinned (.plain (OpenSpec.upto captionDriftsMatchSpecSpec)) captionDriftsMatchSpecUptoCard

/-- THE SECOND FORM's CARD OF 'headendlaw9.CaptionDriftsAreFound'. -/
def captionDriftsAreFoundUptoCard : Claim7 := { stood := { row := captionDriftsAreFoundUptoRow, standIns := [], harness := (true, "b06d8747ee81cc35154e3a547460979e0e55c44cf5940ed927262cbcc7700f21"), looks := false }, kinds := [], alts := [], laidByText := true, laidKinds := [.data, .pinned], laidTests := true, laidLooks := .later }
def CaptionDriftsAreFoundUptoCardSaid : Prop := Claim7.holds Tryd.pinned (.plain (OpenSpec.upto captionDriftsAreFoundSpec)) captionDriftsAreFoundUptoCard
end Rows
end Go.Proofs.YtniealifncgilaaDoor
