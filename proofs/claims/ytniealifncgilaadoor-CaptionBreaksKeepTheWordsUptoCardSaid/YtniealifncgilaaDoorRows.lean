/-
  NARROWER THAN 'FOR EVERY INPUT', by the rows' own cells (each row's printed sentence says how): CaptionBreaksMatchSpec: laid · CaptionBreaksKeepTheWords: laid · CaptionFindsMatchSpec: laid · CaptionPlacesDoNotMeet: laid · CaptionSpeedsMatchSpec: laid · CaptionShiftsMatchSpec: laid · CaptionPlacesMatchSpec: laid · CaptionSlowIsSlow: laid · CaptionDriftsMatchSpec: laid · CaptionDriftsAreFound: laid.
  DERIVED. THE GIVEN ROWS OF THIS SEAT. 10 by the template 'for every input the law returns true; each argument reads behind the call as it read before'; 0 by the template 'total and deterministic' (their statements: YtniealifncgilaaDoorTotals.lean).
  GIVEN WITH THE SEED: the statements are not yours to turn. If you find one false, say at which input.
  Laid BY PROGRAM, IN A SANDBOX (cutbox-rows.mjs): the forced cells as the released guide's own fill.sh prints them over the translation 22783eea5e79a2f6… (all of the seat's roots in one cut). By AI agents, Wed Nov 11 2026. No macro, syntax, notation, axiom, sorry.
-/
import Derived.Test.YtniealifncgilaaDoorChecked
import GoSem.PinnedTables
import GoSem.Claim
import GoSem.ClaimJoined
import GoSem.ClaimMapViews
import Derived.JoinedTies
import Derived.KernelRfl
namespace Go.Proofs.YtniealifncgilaaDoor
/- THE CELL 'sum', in the pinned program and in every row, IS THE sha256 OF THE DUMP (.gsa) THAT YtniealifncgilaaDoorProg.lean LOADS. Nothing in Lean hashes anything: it is a label: what it is worth is what the hold of that sum in a sandbox is worth. -/
noncomputable def Tryd.pinned : Pinned := { name := "ytniealifncgilaadoor", sum := "22783eea5e79a2f6760b320db6b74808ce983520bc4566dac65bc5fdc624a744", checked := Tryd.checked }
namespace Rows
def none {H : Type} : Left H := { results := [], args := [] }

/- WHAT THE LISTED PACKAGE-LEVEL VARIABLES READ AS WHEN THE CALL BEGINS. Each datum BY PROGRAM (the guide's laid-datum.mjs) off the statement by which the dump's own 'gosem.cut.vars' lays the variable. In a bare row this is a premise. The card (YtniealifncgilaaDoorCards.lean) ties it to the program's text. -/
def laid_unicode_utf8_acceptRanges {H : Type} : DataW H := .agg [.agg [.lit (.int .u8 128), .lit (.int .u8 191)], .agg [.lit (.int .u8 160), .lit (.int .u8 191)], .agg [.lit (.int .u8 128), .lit (.int .u8 159)], .agg [.lit (.int .u8 144), .lit (.int .u8 191)], .agg [.lit (.int .u8 128), .lit (.int .u8 143)], .agg [.lit (.int .u8 0), .lit (.int .u8 0)], .agg [.lit (.int .u8 0), .lit (.int .u8 0)], .agg [.lit (.int .u8 0), .lit (.int .u8 0)], .agg [.lit (.int .u8 0), .lit (.int .u8 0)], .agg [.lit (.int .u8 0), .lit (.int .u8 0)], .agg [.lit (.int .u8 0), .lit (.int .u8 0)], .agg [.lit (.int .u8 0), .lit (.int .u8 0)], .agg [.lit (.int .u8 0), .lit (.int .u8 0)], .agg [.lit (.int .u8 0), .lit (.int .u8 0)], .agg [.lit (.int .u8 0), .lit (.int .u8 0)], .agg [.lit (.int .u8 0), .lit (.int .u8 0)]]
/-- One of Go's own tables, pinned by name: the form's constant. -/
def laid_unicode_utf8_first : DataW Unit := Go.Pinned.utf8First

/-- 'headendlaw9.CaptionBreaksMatchSpec': WHATEVER THE INPUT: true; the input reads as it did. -/
def captionBreaksMatchSpecSpec : ChangeSpec := { name := "captionBreaksMatchSpec", fn := fun _ => fun
  | [d1, d2, d3] => { results := [.lit (.bool true)], args := [d1, d2, d3] }
  | _ => none }
def captionBreaksMatchSpecRow : OpenClaim := { program := "ytniealifncgilaadoor", sum := "22783eea5e79a2f6760b320db6b74808ce983520bc4566dac65bc5fdc624a744", func := "headend/headendlaw9.CaptionBreaksMatchSpec", spec := "captionBreaksMatchSpec", inPlace := ["internal/bytealg.IndexByteString", "internal/bytealg.IndexString", "internal/bytealg.CountString", "internal/abi.NoEscape", "internal/bytealg.MakeNoZero"], named := ["unicode/utf8.first", "unicode/utf8.acceptRanges", "internal/bytealg.MaxLen"], apart := false, laid := [("unicode/utf8.acceptRanges", laid_unicode_utf8_acceptRanges), ("unicode/utf8.first", laid_unicode_utf8_first)] }
def CaptionBreaksMatchSpecSaid : Prop := captionBreaksMatchSpecRow.holds Tryd.pinned (OpenSpec.ofChange captionBreaksMatchSpecSpec)

/-- ITS FALSE NEIGHBOUR: 'it returns false'. Refute it at one input. -/
def captionBreaksMatchSpecWrong : ChangeSpec := { name := "captionBreaksMatchSpec", fn := fun _ => fun
  | [d1, d2, d3] => { results := [.lit (.bool false)], args := [d1, d2, d3] }
  | _ => none }
def CaptionBreaksMatchSpecWrongFalsely : Prop := captionBreaksMatchSpecRow.holds Tryd.pinned (OpenSpec.ofChange captionBreaksMatchSpecWrong)

/-- 'headendlaw9.CaptionBreaksKeepTheWords': WHATEVER THE INPUT: true; the input reads as it did. -/
def captionBreaksKeepTheWordsSpec : ChangeSpec := { name := "captionBreaksKeepTheWords", fn := fun _ => fun
  | [d1, d2, d3] => { results := [.lit (.bool true)], args := [d1, d2, d3] }
  | _ => none }
def captionBreaksKeepTheWordsRow : OpenClaim := { program := "ytniealifncgilaadoor", sum := "22783eea5e79a2f6760b320db6b74808ce983520bc4566dac65bc5fdc624a744", func := "headend/headendlaw9.CaptionBreaksKeepTheWords", spec := "captionBreaksKeepTheWords", inPlace := ["internal/bytealg.IndexByteString", "internal/bytealg.IndexString", "internal/bytealg.CountString", "internal/abi.NoEscape", "internal/bytealg.MakeNoZero"], named := ["unicode/utf8.first", "unicode/utf8.acceptRanges", "internal/bytealg.MaxLen"], apart := false, laid := [("unicode/utf8.acceptRanges", laid_unicode_utf8_acceptRanges), ("unicode/utf8.first", laid_unicode_utf8_first)] }
def CaptionBreaksKeepTheWordsSaid : Prop := captionBreaksKeepTheWordsRow.holds Tryd.pinned (OpenSpec.ofChange captionBreaksKeepTheWordsSpec)

/-- ITS FALSE NEIGHBOUR: 'it returns false'. Refute it at one input. -/
def captionBreaksKeepTheWordsWrong : ChangeSpec := { name := "captionBreaksKeepTheWords", fn := fun _ => fun
  | [d1, d2, d3] => { results := [.lit (.bool false)], args := [d1, d2, d3] }
  | _ => none }
def CaptionBreaksKeepTheWordsWrongFalsely : Prop := captionBreaksKeepTheWordsRow.holds Tryd.pinned (OpenSpec.ofChange captionBreaksKeepTheWordsWrong)

/-- 'headendlaw9.CaptionFindsMatchSpec': WHATEVER THE INPUT: true; the input reads as it did. -/
def captionFindsMatchSpecSpec : ChangeSpec := { name := "captionFindsMatchSpec", fn := fun _ => fun
  | [d1, d2] => { results := [.lit (.bool true)], args := [d1, d2] }
  | _ => none }
def captionFindsMatchSpecRow : OpenClaim := { program := "ytniealifncgilaadoor", sum := "22783eea5e79a2f6760b320db6b74808ce983520bc4566dac65bc5fdc624a744", func := "headend/headendlaw9.CaptionFindsMatchSpec", spec := "captionFindsMatchSpec", inPlace := ["internal/bytealg.IndexByteString", "internal/bytealg.IndexString", "internal/bytealg.CountString", "internal/abi.NoEscape", "internal/bytealg.MakeNoZero"], named := ["unicode/utf8.first", "unicode/utf8.acceptRanges", "internal/bytealg.MaxLen"], apart := false, laid := [("unicode/utf8.acceptRanges", laid_unicode_utf8_acceptRanges), ("unicode/utf8.first", laid_unicode_utf8_first)] }
def CaptionFindsMatchSpecSaid : Prop := captionFindsMatchSpecRow.holds Tryd.pinned (OpenSpec.ofChange captionFindsMatchSpecSpec)

/-- ITS FALSE NEIGHBOUR: 'it returns false'. Refute it at one input. -/
def captionFindsMatchSpecWrong : ChangeSpec := { name := "captionFindsMatchSpec", fn := fun _ => fun
  | [d1, d2] => { results := [.lit (.bool false)], args := [d1, d2] }
  | _ => none }
def CaptionFindsMatchSpecWrongFalsely : Prop := captionFindsMatchSpecRow.holds Tryd.pinned (OpenSpec.ofChange captionFindsMatchSpecWrong)

/-- 'headendlaw9.CaptionPlacesDoNotMeet': WHATEVER THE INPUT: true; the input reads as it did. -/
def captionPlacesDoNotMeetSpec : ChangeSpec := { name := "captionPlacesDoNotMeet", fn := fun _ => fun
  | [d1, d2] => { results := [.lit (.bool true)], args := [d1, d2] }
  | _ => none }
def captionPlacesDoNotMeetRow : OpenClaim := { program := "ytniealifncgilaadoor", sum := "22783eea5e79a2f6760b320db6b74808ce983520bc4566dac65bc5fdc624a744", func := "headend/headendlaw9.CaptionPlacesDoNotMeet", spec := "captionPlacesDoNotMeet", inPlace := ["internal/bytealg.IndexByteString", "internal/bytealg.IndexString", "internal/bytealg.CountString", "internal/abi.NoEscape", "internal/bytealg.MakeNoZero"], named := ["unicode/utf8.first", "unicode/utf8.acceptRanges", "internal/bytealg.MaxLen"], apart := false, laid := [("unicode/utf8.acceptRanges", laid_unicode_utf8_acceptRanges), ("unicode/utf8.first", laid_unicode_utf8_first)] }
def CaptionPlacesDoNotMeetSaid : Prop := captionPlacesDoNotMeetRow.holds Tryd.pinned (OpenSpec.ofChange captionPlacesDoNotMeetSpec)

/-- ITS FALSE NEIGHBOUR: 'it returns false'. Refute it at one input. -/
def captionPlacesDoNotMeetWrong : ChangeSpec := { name := "captionPlacesDoNotMeet", fn := fun _ => fun
  | [d1, d2] => { results := [.lit (.bool false)], args := [d1, d2] }
  | _ => none }
def CaptionPlacesDoNotMeetWrongFalsely : Prop := captionPlacesDoNotMeetRow.holds Tryd.pinned (OpenSpec.ofChange captionPlacesDoNotMeetWrong)

/-- 'headendlaw9.CaptionSpeedsMatchSpec': WHATEVER THE INPUT: true; the input reads as it did. -/
def captionSpeedsMatchSpecSpec : ChangeSpec := { name := "captionSpeedsMatchSpec", fn := fun _ => fun
  | [d1, d2, d3] => { results := [.lit (.bool true)], args := [d1, d2, d3] }
  | _ => none }
def captionSpeedsMatchSpecRow : OpenClaim := { program := "ytniealifncgilaadoor", sum := "22783eea5e79a2f6760b320db6b74808ce983520bc4566dac65bc5fdc624a744", func := "headend/headendlaw9.CaptionSpeedsMatchSpec", spec := "captionSpeedsMatchSpec", inPlace := ["internal/bytealg.IndexByteString", "internal/bytealg.IndexString", "internal/bytealg.CountString", "internal/abi.NoEscape", "internal/bytealg.MakeNoZero"], named := ["unicode/utf8.first", "unicode/utf8.acceptRanges", "internal/bytealg.MaxLen"], apart := false, laid := [("unicode/utf8.acceptRanges", laid_unicode_utf8_acceptRanges), ("unicode/utf8.first", laid_unicode_utf8_first)] }
def CaptionSpeedsMatchSpecSaid : Prop := captionSpeedsMatchSpecRow.holds Tryd.pinned (OpenSpec.ofChange captionSpeedsMatchSpecSpec)

/-- ITS FALSE NEIGHBOUR: 'it returns false'. Refute it at one input. -/
def captionSpeedsMatchSpecWrong : ChangeSpec := { name := "captionSpeedsMatchSpec", fn := fun _ => fun
  | [d1, d2, d3] => { results := [.lit (.bool false)], args := [d1, d2, d3] }
  | _ => none }
def CaptionSpeedsMatchSpecWrongFalsely : Prop := captionSpeedsMatchSpecRow.holds Tryd.pinned (OpenSpec.ofChange captionSpeedsMatchSpecWrong)

/-- 'headendlaw9.CaptionShiftsMatchSpec': WHATEVER THE INPUT: true; the input reads as it did. -/
def captionShiftsMatchSpecSpec : ChangeSpec := { name := "captionShiftsMatchSpec", fn := fun _ => fun
  | [d1, d2, d3, d4] => { results := [.lit (.bool true)], args := [d1, d2, d3, d4] }
  | _ => none }
def captionShiftsMatchSpecRow : OpenClaim := { program := "ytniealifncgilaadoor", sum := "22783eea5e79a2f6760b320db6b74808ce983520bc4566dac65bc5fdc624a744", func := "headend/headendlaw9.CaptionShiftsMatchSpec", spec := "captionShiftsMatchSpec", inPlace := ["internal/bytealg.IndexByteString", "internal/bytealg.IndexString", "internal/bytealg.CountString", "internal/abi.NoEscape", "internal/bytealg.MakeNoZero"], unfollowed := true, recurses := true, named := ["unicode/utf8.first", "unicode/utf8.acceptRanges", "internal/bytealg.MaxLen"], apart := false, laid := [("unicode/utf8.acceptRanges", laid_unicode_utf8_acceptRanges), ("unicode/utf8.first", laid_unicode_utf8_first)] }
def CaptionShiftsMatchSpecSaid : Prop := captionShiftsMatchSpecRow.holds Tryd.pinned (OpenSpec.ofChange captionShiftsMatchSpecSpec)

/-- ITS FALSE NEIGHBOUR: 'it returns false'. Refute it at one input. -/
def captionShiftsMatchSpecWrong : ChangeSpec := { name := "captionShiftsMatchSpec", fn := fun _ => fun
  | [d1, d2, d3, d4] => { results := [.lit (.bool false)], args := [d1, d2, d3, d4] }
  | _ => none }
def CaptionShiftsMatchSpecWrongFalsely : Prop := captionShiftsMatchSpecRow.holds Tryd.pinned (OpenSpec.ofChange captionShiftsMatchSpecWrong)

/-- 'headendlaw9.CaptionPlacesMatchSpec': WHATEVER THE INPUT: true; the input reads as it did. -/
def captionPlacesMatchSpecSpec : ChangeSpec := { name := "captionPlacesMatchSpec", fn := fun _ => fun
  | [d1, d2, d3] => { results := [.lit (.bool true)], args := [d1, d2, d3] }
  | _ => none }
def captionPlacesMatchSpecRow : OpenClaim := { program := "ytniealifncgilaadoor", sum := "22783eea5e79a2f6760b320db6b74808ce983520bc4566dac65bc5fdc624a744", func := "headend/headendlaw9.CaptionPlacesMatchSpec", spec := "captionPlacesMatchSpec", inPlace := ["internal/bytealg.IndexByteString", "internal/bytealg.IndexString", "internal/bytealg.CountString", "internal/abi.NoEscape", "internal/bytealg.MakeNoZero"], named := ["unicode/utf8.first", "unicode/utf8.acceptRanges", "internal/bytealg.MaxLen"], apart := false, laid := [("unicode/utf8.acceptRanges", laid_unicode_utf8_acceptRanges), ("unicode/utf8.first", laid_unicode_utf8_first)] }
def CaptionPlacesMatchSpecSaid : Prop := captionPlacesMatchSpecRow.holds Tryd.pinned (OpenSpec.ofChange captionPlacesMatchSpecSpec)

/-- ITS FALSE NEIGHBOUR: 'it returns false'. Refute it at one input. -/
def captionPlacesMatchSpecWrong : ChangeSpec := { name := "captionPlacesMatchSpec", fn := fun _ => fun
  | [d1, d2, d3] => { results := [.lit (.bool false)], args := [d1, d2, d3] }
  | _ => none }
def CaptionPlacesMatchSpecWrongFalsely : Prop := captionPlacesMatchSpecRow.holds Tryd.pinned (OpenSpec.ofChange captionPlacesMatchSpecWrong)

/-- 'headendlaw9.CaptionSlowIsSlow': WHATEVER THE INPUT: true; the input reads as it did. -/
def captionSlowIsSlowSpec : ChangeSpec := { name := "captionSlowIsSlow", fn := fun _ => fun
  | [d1, d2, d3] => { results := [.lit (.bool true)], args := [d1, d2, d3] }
  | _ => none }
def captionSlowIsSlowRow : OpenClaim := { program := "ytniealifncgilaadoor", sum := "22783eea5e79a2f6760b320db6b74808ce983520bc4566dac65bc5fdc624a744", func := "headend/headendlaw9.CaptionSlowIsSlow", spec := "captionSlowIsSlow", inPlace := ["internal/bytealg.IndexByteString", "internal/bytealg.IndexString", "internal/bytealg.CountString", "internal/abi.NoEscape", "internal/bytealg.MakeNoZero"], named := ["unicode/utf8.first", "unicode/utf8.acceptRanges", "internal/bytealg.MaxLen"], apart := false, laid := [("unicode/utf8.acceptRanges", laid_unicode_utf8_acceptRanges), ("unicode/utf8.first", laid_unicode_utf8_first)] }
def CaptionSlowIsSlowSaid : Prop := captionSlowIsSlowRow.holds Tryd.pinned (OpenSpec.ofChange captionSlowIsSlowSpec)

/-- ITS FALSE NEIGHBOUR: 'it returns false'. Refute it at one input. -/
def captionSlowIsSlowWrong : ChangeSpec := { name := "captionSlowIsSlow", fn := fun _ => fun
  | [d1, d2, d3] => { results := [.lit (.bool false)], args := [d1, d2, d3] }
  | _ => none }
def CaptionSlowIsSlowWrongFalsely : Prop := captionSlowIsSlowRow.holds Tryd.pinned (OpenSpec.ofChange captionSlowIsSlowWrong)

/-- 'headendlaw9.CaptionDriftsMatchSpec': WHATEVER THE INPUT: true; the input reads as it did. -/
def captionDriftsMatchSpecSpec : ChangeSpec := { name := "captionDriftsMatchSpec", fn := fun _ => fun
  | [d1, d2] => { results := [.lit (.bool true)], args := [d1, d2] }
  | _ => none }
def captionDriftsMatchSpecRow : OpenClaim := { program := "ytniealifncgilaadoor", sum := "22783eea5e79a2f6760b320db6b74808ce983520bc4566dac65bc5fdc624a744", func := "headend/headendlaw9.CaptionDriftsMatchSpec", spec := "captionDriftsMatchSpec", inPlace := ["internal/bytealg.IndexByteString", "internal/bytealg.IndexString", "internal/bytealg.CountString", "internal/abi.NoEscape", "internal/bytealg.MakeNoZero"], unfollowed := true, recurses := true, named := ["unicode/utf8.first", "unicode/utf8.acceptRanges", "internal/bytealg.MaxLen"], apart := false, laid := [("unicode/utf8.acceptRanges", laid_unicode_utf8_acceptRanges), ("unicode/utf8.first", laid_unicode_utf8_first)] }
def CaptionDriftsMatchSpecSaid : Prop := captionDriftsMatchSpecRow.holds Tryd.pinned (OpenSpec.ofChange captionDriftsMatchSpecSpec)

/-- ITS FALSE NEIGHBOUR: 'it returns false'. Refute it at one input. -/
def captionDriftsMatchSpecWrong : ChangeSpec := { name := "captionDriftsMatchSpec", fn := fun _ => fun
  | [d1, d2] => { results := [.lit (.bool false)], args := [d1, d2] }
  | _ => none }
def CaptionDriftsMatchSpecWrongFalsely : Prop := captionDriftsMatchSpecRow.holds Tryd.pinned (OpenSpec.ofChange captionDriftsMatchSpecWrong)

/-- 'headendlaw9.CaptionDriftsAreFound': WHATEVER THE INPUT: true; the input reads as it did. -/
def captionDriftsAreFoundSpec : ChangeSpec := { name := "captionDriftsAreFound", fn := fun _ => fun
  | [d1, d2, d3] => { results := [.lit (.bool true)], args := [d1, d2, d3] }
  | _ => none }
def captionDriftsAreFoundRow : OpenClaim := { program := "ytniealifncgilaadoor", sum := "22783eea5e79a2f6760b320db6b74808ce983520bc4566dac65bc5fdc624a744", func := "headend/headendlaw9.CaptionDriftsAreFound", spec := "captionDriftsAreFound", inPlace := ["internal/bytealg.IndexByteString", "internal/bytealg.IndexString", "internal/bytealg.CountString", "internal/abi.NoEscape", "internal/bytealg.MakeNoZero"], unfollowed := true, recurses := true, named := ["unicode/utf8.first", "unicode/utf8.acceptRanges", "internal/bytealg.MaxLen"], apart := false, laid := [("unicode/utf8.acceptRanges", laid_unicode_utf8_acceptRanges), ("unicode/utf8.first", laid_unicode_utf8_first)] }
def CaptionDriftsAreFoundSaid : Prop := captionDriftsAreFoundRow.holds Tryd.pinned (OpenSpec.ofChange captionDriftsAreFoundSpec)

/-- ITS FALSE NEIGHBOUR: 'it returns false'. Refute it at one input. -/
def captionDriftsAreFoundWrong : ChangeSpec := { name := "captionDriftsAreFound", fn := fun _ => fun
  | [d1, d2, d3] => { results := [.lit (.bool false)], args := [d1, d2, d3] }
  | _ => none }
def CaptionDriftsAreFoundWrongFalsely : Prop := captionDriftsAreFoundRow.holds Tryd.pinned (OpenSpec.ofChange captionDriftsAreFoundWrong)

/- THE SECOND FORM. 'bulk': how many values and letters a reading holds, each counted each time it is reached (what is shared counts as often as it is met; a slice's spare places count too). A statement '..UptoSaid' is the law's where the arguments, and the package variables that the reading takes, are together of bulk at most 1048576: NARROWER than '..Said'. Prove '..Said' where nothing that the law and all that it calls make is longer than what came in: it says more and counts as full. Else prove '..UptoSaid'. A law counts once. -/
mutual
def uptoBulk {H : Type} : DataW H → Nat
  | .lit (.string bytes) => bytes.length + 1
  | .lit _ => 1
  | .nil => 1
  | .ptr d => uptoBulk d + 1
  | .slice elems spare => uptoBulkAll elems + uptoBulkAll spare + 1
  | .agg parts => uptoBulkAll parts + 1
  | .iface _ d => uptoBulk d + 1
  | .map entries => uptoBulkEntries entries + 1
  | .held _ => 1
def uptoBulkAll {H : Type} : List (DataW H) → Nat
  | [] => 0
  | d :: r => uptoBulk d + uptoBulkAll r
def uptoBulkEntries {H : Type} : List (Lit × DataW H) → Nat
  | [] => 0
  | x :: r => uptoBulkEntry x + uptoBulkEntries r
def uptoBulkEntry {H : Type} : Lit × DataW H → Nat
  | (.string bytes, d) => bytes.length + uptoBulk d + 1
  | (_, d) => uptoBulk d + 1
 end
def uptoSmall : (H : Type) → List (DataW H) → Bool := fun _ ds => decide (uptoBulkAll ds ≤ 1048576)
def OpenSpec.upto (s : _root_.Go.ChangeSpec) : _root_.Go.OpenSpec := { _root_.Go.OpenSpec.ofChange s with cond := some uptoSmall }

/-- 'headendlaw9.CaptionBreaksMatchSpec', WHERE WHAT IT READS IS OF BULK AT MOST 1048576: true; the input reads as it did. -/
def captionBreaksMatchSpecUptoRow : OpenClaim := { program := "ytniealifncgilaadoor", sum := "22783eea5e79a2f6760b320db6b74808ce983520bc4566dac65bc5fdc624a744", func := "headend/headendlaw9.CaptionBreaksMatchSpec", spec := "captionBreaksMatchSpec", inPlace := ["internal/bytealg.IndexByteString", "internal/bytealg.IndexString", "internal/bytealg.CountString", "internal/abi.NoEscape", "internal/bytealg.MakeNoZero"], named := ["unicode/utf8.first", "unicode/utf8.acceptRanges", "internal/bytealg.MaxLen"], apart := false, laid := [("unicode/utf8.acceptRanges", laid_unicode_utf8_acceptRanges), ("unicode/utf8.first", laid_unicode_utf8_first)], narrowed := true }
def CaptionBreaksMatchSpecUptoSaid : Prop := captionBreaksMatchSpecUptoRow.holds Tryd.pinned (OpenSpec.upto captionBreaksMatchSpecSpec)

/-- 'headendlaw9.CaptionBreaksKeepTheWords', WHERE WHAT IT READS IS OF BULK AT MOST 1048576: true; the input reads as it did. -/
def captionBreaksKeepTheWordsUptoRow : OpenClaim := { program := "ytniealifncgilaadoor", sum := "22783eea5e79a2f6760b320db6b74808ce983520bc4566dac65bc5fdc624a744", func := "headend/headendlaw9.CaptionBreaksKeepTheWords", spec := "captionBreaksKeepTheWords", inPlace := ["internal/bytealg.IndexByteString", "internal/bytealg.IndexString", "internal/bytealg.CountString", "internal/abi.NoEscape", "internal/bytealg.MakeNoZero"], named := ["unicode/utf8.first", "unicode/utf8.acceptRanges", "internal/bytealg.MaxLen"], apart := false, laid := [("unicode/utf8.acceptRanges", laid_unicode_utf8_acceptRanges), ("unicode/utf8.first", laid_unicode_utf8_first)], narrowed := true }
def CaptionBreaksKeepTheWordsUptoSaid : Prop := captionBreaksKeepTheWordsUptoRow.holds Tryd.pinned (OpenSpec.upto captionBreaksKeepTheWordsSpec)

/-- 'headendlaw9.CaptionFindsMatchSpec', WHERE WHAT IT READS IS OF BULK AT MOST 1048576: true; the input reads as it did. -/
def captionFindsMatchSpecUptoRow : OpenClaim := { program := "ytniealifncgilaadoor", sum := "22783eea5e79a2f6760b320db6b74808ce983520bc4566dac65bc5fdc624a744", func := "headend/headendlaw9.CaptionFindsMatchSpec", spec := "captionFindsMatchSpec", inPlace := ["internal/bytealg.IndexByteString", "internal/bytealg.IndexString", "internal/bytealg.CountString", "internal/abi.NoEscape", "internal/bytealg.MakeNoZero"], named := ["unicode/utf8.first", "unicode/utf8.acceptRanges", "internal/bytealg.MaxLen"], apart := false, laid := [("unicode/utf8.acceptRanges", laid_unicode_utf8_acceptRanges), ("unicode/utf8.first", laid_unicode_utf8_first)], narrowed := true }
def CaptionFindsMatchSpecUptoSaid : Prop := captionFindsMatchSpecUptoRow.holds Tryd.pinned (OpenSpec.upto captionFindsMatchSpecSpec)

/-- 'headendlaw9.CaptionPlacesDoNotMeet', WHERE WHAT IT READS IS OF BULK AT MOST 1048576: true; the input reads as it did. -/
def captionPlacesDoNotMeetUptoRow : OpenClaim := { program := "ytniealifncgilaadoor", sum := "22783eea5e79a2f6760b320db6b74808ce983520bc4566dac65bc5fdc624a744", func := "headend/headendlaw9.CaptionPlacesDoNotMeet", spec := "captionPlacesDoNotMeet", inPlace := ["internal/bytealg.IndexByteString", "internal/bytealg.IndexString", "internal/bytealg.CountString", "internal/abi.NoEscape", "internal/bytealg.MakeNoZero"], named := ["unicode/utf8.first", "unicode/utf8.acceptRanges", "internal/bytealg.MaxLen"], apart := false, laid := [("unicode/utf8.acceptRanges", laid_unicode_utf8_acceptRanges), ("unicode/utf8.first", laid_unicode_utf8_first)], narrowed := true }
def CaptionPlacesDoNotMeetUptoSaid : Prop := captionPlacesDoNotMeetUptoRow.holds Tryd.pinned (OpenSpec.upto captionPlacesDoNotMeetSpec)

/-- 'headendlaw9.CaptionSpeedsMatchSpec', WHERE WHAT IT READS IS OF BULK AT MOST 1048576: true; the input reads as it did. -/
def captionSpeedsMatchSpecUptoRow : OpenClaim := { program := "ytniealifncgilaadoor", sum := "22783eea5e79a2f6760b320db6b74808ce983520bc4566dac65bc5fdc624a744", func := "headend/headendlaw9.CaptionSpeedsMatchSpec", spec := "captionSpeedsMatchSpec", inPlace := ["internal/bytealg.IndexByteString", "internal/bytealg.IndexString", "internal/bytealg.CountString", "internal/abi.NoEscape", "internal/bytealg.MakeNoZero"], named := ["unicode/utf8.first", "unicode/utf8.acceptRanges", "internal/bytealg.MaxLen"], apart := false, laid := [("unicode/utf8.acceptRanges", laid_unicode_utf8_acceptRanges), ("unicode/utf8.first", laid_unicode_utf8_first)], narrowed := true }
def CaptionSpeedsMatchSpecUptoSaid : Prop := captionSpeedsMatchSpecUptoRow.holds Tryd.pinned (OpenSpec.upto captionSpeedsMatchSpecSpec)

/-- 'headendlaw9.CaptionShiftsMatchSpec', WHERE WHAT IT READS IS OF BULK AT MOST 1048576: true; the input reads as it did. -/
def captionShiftsMatchSpecUptoRow : OpenClaim := { program := "ytniealifncgilaadoor", sum := "22783eea5e79a2f6760b320db6b74808ce983520bc4566dac65bc5fdc624a744", func := "headend/headendlaw9.CaptionShiftsMatchSpec", spec := "captionShiftsMatchSpec", inPlace := ["internal/bytealg.IndexByteString", "internal/bytealg.IndexString", "internal/bytealg.CountString", "internal/abi.NoEscape", "internal/bytealg.MakeNoZero"], unfollowed := true, recurses := true, named := ["unicode/utf8.first", "unicode/utf8.acceptRanges", "internal/bytealg.MaxLen"], apart := false, laid := [("unicode/utf8.acceptRanges", laid_unicode_utf8_acceptRanges), ("unicode/utf8.first", laid_unicode_utf8_first)], narrowed := true }
def CaptionShiftsMatchSpecUptoSaid : Prop := captionShiftsMatchSpecUptoRow.holds Tryd.pinned (OpenSpec.upto captionShiftsMatchSpecSpec)

/-- 'headendlaw9.CaptionPlacesMatchSpec', WHERE WHAT IT READS IS OF BULK AT MOST 1048576: true; the input reads as it did. -/
def captionPlacesMatchSpecUptoRow : OpenClaim := { program := "ytniealifncgilaadoor", sum := "22783eea5e79a2f6760b320db6b74808ce983520bc4566dac65bc5fdc624a744", func := "headend/headendlaw9.CaptionPlacesMatchSpec", spec := "captionPlacesMatchSpec", inPlace := ["internal/bytealg.IndexByteString", "internal/bytealg.IndexString", "internal/bytealg.CountString", "internal/abi.NoEscape", "internal/bytealg.MakeNoZero"], named := ["unicode/utf8.first", "unicode/utf8.acceptRanges", "internal/bytealg.MaxLen"], apart := false, laid := [("unicode/utf8.acceptRanges", laid_unicode_utf8_acceptRanges), ("unicode/utf8.first", laid_unicode_utf8_first)], narrowed := true }
def CaptionPlacesMatchSpecUptoSaid : Prop := captionPlacesMatchSpecUptoRow.holds Tryd.pinned (OpenSpec.upto captionPlacesMatchSpecSpec)

/-- 'headendlaw9.CaptionSlowIsSlow', WHERE WHAT IT READS IS OF BULK AT MOST 1048576: true; the input reads as it did. -/
def captionSlowIsSlowUptoRow : OpenClaim := { program := "ytniealifncgilaadoor", sum := "22783eea5e79a2f6760b320db6b74808ce983520bc4566dac65bc5fdc624a744", func := "headend/headendlaw9.CaptionSlowIsSlow", spec := "captionSlowIsSlow", inPlace := ["internal/bytealg.IndexByteString", "internal/bytealg.IndexString", "internal/bytealg.CountString", "internal/abi.NoEscape", "internal/bytealg.MakeNoZero"], named := ["unicode/utf8.first", "unicode/utf8.acceptRanges", "internal/bytealg.MaxLen"], apart := false, laid := [("unicode/utf8.acceptRanges", laid_unicode_utf8_acceptRanges), ("unicode/utf8.first", laid_unicode_utf8_first)], narrowed := true }
def CaptionSlowIsSlowUptoSaid : Prop := captionSlowIsSlowUptoRow.holds Tryd.pinned (OpenSpec.upto captionSlowIsSlowSpec)

/-- 'headendlaw9.CaptionDriftsMatchSpec', WHERE WHAT IT READS IS OF BULK AT MOST 1048576: true; the input reads as it did. -/
def captionDriftsMatchSpecUptoRow : OpenClaim := { program := "ytniealifncgilaadoor", sum := "22783eea5e79a2f6760b320db6b74808ce983520bc4566dac65bc5fdc624a744", func := "headend/headendlaw9.CaptionDriftsMatchSpec", spec := "captionDriftsMatchSpec", inPlace := ["internal/bytealg.IndexByteString", "internal/bytealg.IndexString", "internal/bytealg.CountString", "internal/abi.NoEscape", "internal/bytealg.MakeNoZero"], unfollowed := true, recurses := true, named := ["unicode/utf8.first", "unicode/utf8.acceptRanges", "internal/bytealg.MaxLen"], apart := false, laid := [("unicode/utf8.acceptRanges", laid_unicode_utf8_acceptRanges), ("unicode/utf8.first", laid_unicode_utf8_first)], narrowed := true }
def CaptionDriftsMatchSpecUptoSaid : Prop := captionDriftsMatchSpecUptoRow.holds Tryd.pinned (OpenSpec.upto captionDriftsMatchSpecSpec)

/-- 'headendlaw9.CaptionDriftsAreFound', WHERE WHAT IT READS IS OF BULK AT MOST 1048576: true; the input reads as it did. -/
def captionDriftsAreFoundUptoRow : OpenClaim := { program := "ytniealifncgilaadoor", sum := "22783eea5e79a2f6760b320db6b74808ce983520bc4566dac65bc5fdc624a744", func := "headend/headendlaw9.CaptionDriftsAreFound", spec := "captionDriftsAreFound", inPlace := ["internal/bytealg.IndexByteString", "internal/bytealg.IndexString", "internal/bytealg.CountString", "internal/abi.NoEscape", "internal/bytealg.MakeNoZero"], unfollowed := true, recurses := true, named := ["unicode/utf8.first", "unicode/utf8.acceptRanges", "internal/bytealg.MaxLen"], apart := false, laid := [("unicode/utf8.acceptRanges", laid_unicode_utf8_acceptRanges), ("unicode/utf8.first", laid_unicode_utf8_first)], narrowed := true }
def CaptionDriftsAreFoundUptoSaid : Prop := captionDriftsAreFoundUptoRow.holds Tryd.pinned (OpenSpec.upto captionDriftsAreFoundSpec)

end Rows
end Go.Proofs.YtniealifncgilaaDoor
