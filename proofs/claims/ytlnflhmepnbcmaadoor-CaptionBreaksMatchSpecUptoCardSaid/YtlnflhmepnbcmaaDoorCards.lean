/-
  DERIVED. GIVEN WITH THE SEED: THE CARDS: each row of YtlnflhmepnbcmaaDoorRows.lean that lists a variable, with what it lists TIED to the program's text (the seventh form; the later family's looks); each row that meets fmt, with fmt's text TOLD by the authors' own Lean function (tested against real Go, not proved from fmt's source: count such statements apart). THE CARD IS WHAT COUNTS. Prove the row's statement (the work); the ties are given (YtlnflhmepnbcmaaDoorTie.lean); close each card by the builder's one call (the guide's Derived/Test/ToyasCard.lean, 'card_holds'). Laid BY PROGRAM, IN A SANDBOX (cutbox-door.mjs). By AI agents, Wed Nov 11 2026. No macro, syntax, notation, axiom, sorry.
-/
import Derived.Test.YtlnflhmepnbcmaaDoorRows
import GoSem.ClaimSeven
namespace Go.Proofs.YtlnflhmepnbcmaaDoor
namespace Rows

/-- THE TIED CARD OF 'headendlaw9.CaptionBreaksMatchSpec'. -/
def captionBreaksMatchSpecCard : Claim7 := { stood := { row := captionBreaksMatchSpecRow, standIns := [], harness := (true, "c106f0a46f7d8ee7a2b66f02bd608fd07ba029120d083169715fdde62bdb29ca"), looks := false }, kinds := [], alts := [], laidByText := true, laidKinds := [.data, .pinned], laidTests := true, laidLooks := .later }
def CaptionBreaksMatchSpecCardSaid : Prop := Claim7.holds Tryd.pinned (.plain (OpenSpec.ofChange captionBreaksMatchSpecSpec)) captionBreaksMatchSpecCard

/-- THE TIED CARD OF 'headendlaw9.CaptionFindsMatchSpec'. -/
def captionFindsMatchSpecCard : Claim7 := { stood := { row := captionFindsMatchSpecRow, standIns := [], harness := (true, "c106f0a46f7d8ee7a2b66f02bd608fd07ba029120d083169715fdde62bdb29ca"), looks := false }, kinds := [], alts := [], laidByText := true, laidKinds := [.data, .pinned], laidTests := true, laidLooks := .later }
def CaptionFindsMatchSpecCardSaid : Prop := Claim7.holds Tryd.pinned (.plain (OpenSpec.ofChange captionFindsMatchSpecSpec)) captionFindsMatchSpecCard

/-- THE TIED CARD OF 'headendlaw9.CaptionPartsAreThere'. -/
def captionPartsAreThereCard : Claim7 := { stood := { row := captionPartsAreThereRow, standIns := [], harness := (true, "c106f0a46f7d8ee7a2b66f02bd608fd07ba029120d083169715fdde62bdb29ca"), looks := false }, kinds := [], alts := [], laidByText := true, laidKinds := [.data, .pinned], laidTests := true, laidLooks := .later }
def CaptionPartsAreThereCardSaid : Prop := Claim7.holds Tryd.pinned (.plain (OpenSpec.ofChange captionPartsAreThereSpec)) captionPartsAreThereCard

/-- THE TIED CARD OF 'headendlaw9.CaptionPartsComeTogether'. -/
def captionPartsComeTogetherCard : Claim7 := { stood := { row := captionPartsComeTogetherRow, standIns := [], harness := (true, "c106f0a46f7d8ee7a2b66f02bd608fd07ba029120d083169715fdde62bdb29ca"), looks := false }, kinds := [], alts := [], laidByText := true, laidKinds := [.data, .pinned], laidTests := true, laidLooks := .later }
def CaptionPartsComeTogetherCardSaid : Prop := Claim7.holds Tryd.pinned (.plain (OpenSpec.ofChange captionPartsComeTogetherSpec)) captionPartsComeTogetherCard

/-- THE TIED CARD OF 'headendlaw9.CaptionSplitsMatchSpec'. -/
def captionSplitsMatchSpecCard : Claim7 := { stood := { row := captionSplitsMatchSpecRow, standIns := [], harness := (true, "c106f0a46f7d8ee7a2b66f02bd608fd07ba029120d083169715fdde62bdb29ca"), looks := false }, kinds := [], alts := [], laidByText := true, laidKinds := [.data, .pinned], laidTests := true, laidLooks := .later }
def CaptionSplitsMatchSpecCardSaid : Prop := Claim7.holds Tryd.pinned (.plain (OpenSpec.ofChange captionSplitsMatchSpecSpec)) captionSplitsMatchSpecCard

/-- THE TIED CARD OF 'headendlaw9.CaptionJoinsMatchSpec'. -/
def captionJoinsMatchSpecCard : Claim7 := { stood := { row := captionJoinsMatchSpecRow, standIns := [], harness := (true, "c106f0a46f7d8ee7a2b66f02bd608fd07ba029120d083169715fdde62bdb29ca"), looks := false }, kinds := [], alts := [], laidByText := true, laidKinds := [.data, .pinned], laidTests := true, laidLooks := .later }
def CaptionJoinsMatchSpecCardSaid : Prop := Claim7.holds Tryd.pinned (.plain (OpenSpec.ofChange captionJoinsMatchSpecSpec)) captionJoinsMatchSpecCard

/-- THE SECOND FORM's CARD OF 'headendlaw9.CaptionBreaksMatchSpec'. -/
def captionBreaksMatchSpecUptoCard : Claim7 := { stood := { row := captionBreaksMatchSpecUptoRow, standIns := [], harness := (true, "c106f0a46f7d8ee7a2b66f02bd608fd07ba029120d083169715fdde62bdb29ca"), looks := false }, kinds := [], alts := [], laidByText := true, laidKinds := [.data, .pinned], laidTests := true, laidLooks := .later }
def CaptionBreaksMatchSpecUptoCardSaid : Prop := Claim7.holds Tryd.pinned (.plain (OpenSpec.upto captionBreaksMatchSpecSpec)) captionBreaksMatchSpecUptoCard

/-- THE SECOND FORM's CARD OF 'headendlaw9.CaptionFindsMatchSpec'. -/
def captionFindsMatchSpecUptoCard : Claim7 := { stood := { row := captionFindsMatchSpecUptoRow, standIns := [], harness := (true, "c106f0a46f7d8ee7a2b66f02bd608fd07ba029120d083169715fdde62bdb29ca"), looks := false }, kinds := [], alts := [], laidByText := true, laidKinds := [.data, .pinned], laidTests := true, laidLooks := .later }
def CaptionFindsMatchSpecUptoCardSaid : Prop := Claim7.holds Tryd.pinned (.plain (OpenSpec.upto captionFindsMatchSpecSpec)) captionFindsMatchSpecUptoCard

/-- THE SECOND FORM's CARD OF 'headendlaw9.CaptionPartsAreThere'. -/
def captionPartsAreThereUptoCard : Claim7 := { stood := { row := captionPartsAreThereUptoRow, standIns := [], harness := (true, "c106f0a46f7d8ee7a2b66f02bd608fd07ba029120d083169715fdde62bdb29ca"), looks := false }, kinds := [], alts := [], laidByText := true, laidKinds := [.data, .pinned], laidTests := true, laidLooks := .later }
def CaptionPartsAreThereUptoCardSaid : Prop := Claim7.holds Tryd.pinned (.plain (OpenSpec.upto captionPartsAreThereSpec)) captionPartsAreThereUptoCard

/-- THE SECOND FORM's CARD OF 'headendlaw9.CaptionPartsComeTogether'. -/
def captionPartsComeTogetherUptoCard : Claim7 := { stood := { row := captionPartsComeTogetherUptoRow, standIns := [], harness := (true, "c106f0a46f7d8ee7a2b66f02bd608fd07ba029120d083169715fdde62bdb29ca"), looks := false }, kinds := [], alts := [], laidByText := true, laidKinds := [.data, .pinned], laidTests := true, laidLooks := .later }
def CaptionPartsComeTogetherUptoCardSaid : Prop := Claim7.holds Tryd.pinned (.plain (OpenSpec.upto captionPartsComeTogetherSpec)) captionPartsComeTogetherUptoCard

/-- THE SECOND FORM's CARD OF 'headendlaw9.CaptionSplitsMatchSpec'. -/
def captionSplitsMatchSpecUptoCard : Claim7 := { stood := { row := captionSplitsMatchSpecUptoRow, standIns := [], harness := (true, "c106f0a46f7d8ee7a2b66f02bd608fd07ba029120d083169715fdde62bdb29ca"), looks := false }, kinds := [], alts := [], laidByText := true, laidKinds := [.data, .pinned], laidTests := true, laidLooks := .later }
def CaptionSplitsMatchSpecUptoCardSaid : Prop := Claim7.holds Tryd.pinned (.plain (OpenSpec.upto captionSplitsMatchSpecSpec)) captionSplitsMatchSpecUptoCard

/-- THE SECOND FORM's CARD OF 'headendlaw9.CaptionJoinsMatchSpec'. -/
def captionJoinsMatchSpecUptoCard : Claim7 := { stood := { row := captionJoinsMatchSpecUptoRow, standIns := [], harness := (true, "c106f0a46f7d8ee7a2b66f02bd608fd07ba029120d083169715fdde62bdb29ca"), looks := false }, kinds := [], alts := [], laidByText := true, laidKinds := [.data, .pinned], laidTests := true, laidLooks := .later }
def CaptionJoinsMatchSpecUptoCardSaid : Prop := Claim7.holds Tryd.pinned (.plain (OpenSpec.upto captionJoinsMatchSpecSpec)) captionJoinsMatchSpecUptoCard
end Rows
end Go.Proofs.YtlnflhmepnbcmaaDoor
