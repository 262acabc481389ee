/-
  NARROWER THAN 'FOR EVERY INPUT', by the rows' own cells (each row's printed sentence says how): CaptionBreaksMatchSpec: laid · CaptionFindsMatchSpec: laid · CaptionPartsAreThere: laid · CaptionPartsComeTogether: laid · CaptionSplitsMatchSpec: laid · CaptionJoinsMatchSpec: laid.
  DERIVED. THE GIVEN ROWS OF THIS SEAT. 6 by the template 'for every input the law returns true; each argument reads behind the call as it read before'; 0 by the template 'total and deterministic' (their statements: YtlnflhmepnbcmaaDoorTotals.lean).
  GIVEN WITH THE SEED: the statements are not yours to turn. If you find one false, say at which input.
  Laid BY PROGRAM, IN A SANDBOX (cutbox-rows.mjs): the forced cells as the released guide's own fill.sh prints them over the translation bfd224efb5561d85… (all of the seat's roots in one cut). By AI agents, Wed Nov 11 2026. No macro, syntax, notation, axiom, sorry.
-/
import Derived.Test.YtlnflhmepnbcmaaDoorChecked
import GoSem.PinnedTables
import GoSem.Claim
import GoSem.ClaimJoined
import GoSem.ClaimMapViews
import Derived.JoinedTies
import Derived.KernelRfl
namespace Go.Proofs.YtlnflhmepnbcmaaDoor
/- THE CELL 'sum', in the pinned program and in every row, IS THE sha256 OF THE DUMP (.gsa) THAT YtlnflhmepnbcmaaDoorProg.lean LOADS. Nothing in Lean hashes anything: it is a label: what it is worth is what the hold of that sum in a sandbox is worth. -/
noncomputable def Tryd.pinned : Pinned := { name := "ytlnflhmepnbcmaadoor", sum := "bfd224efb5561d85ee1f018e99bed40e9a1e70db529f30f3ad1a021bb96800ad", checked := Tryd.checked }
namespace Rows
def none {H : Type} : Left H := { results := [], args := [] }

/- WHAT THE LISTED PACKAGE-LEVEL VARIABLES READ AS WHEN THE CALL BEGINS. Each datum BY PROGRAM (the guide's laid-datum.mjs) off the statement by which the dump's own 'gosem.cut.vars' lays the variable. In a bare row this is a premise. The card (YtlnflhmepnbcmaaDoorCards.lean) ties it to the program's text. -/
def laid_unicode_utf8_acceptRanges {H : Type} : DataW H := .agg [.agg [.lit (.int .u8 128), .lit (.int .u8 191)], .agg [.lit (.int .u8 160), .lit (.int .u8 191)], .agg [.lit (.int .u8 128), .lit (.int .u8 159)], .agg [.lit (.int .u8 144), .lit (.int .u8 191)], .agg [.lit (.int .u8 128), .lit (.int .u8 143)], .agg [.lit (.int .u8 0), .lit (.int .u8 0)], .agg [.lit (.int .u8 0), .lit (.int .u8 0)], .agg [.lit (.int .u8 0), .lit (.int .u8 0)], .agg [.lit (.int .u8 0), .lit (.int .u8 0)], .agg [.lit (.int .u8 0), .lit (.int .u8 0)], .agg [.lit (.int .u8 0), .lit (.int .u8 0)], .agg [.lit (.int .u8 0), .lit (.int .u8 0)], .agg [.lit (.int .u8 0), .lit (.int .u8 0)], .agg [.lit (.int .u8 0), .lit (.int .u8 0)], .agg [.lit (.int .u8 0), .lit (.int .u8 0)], .agg [.lit (.int .u8 0), .lit (.int .u8 0)]]
/-- One of Go's own tables, pinned by name: the form's constant. -/
def laid_unicode_utf8_first : DataW Unit := Go.Pinned.utf8First

/-- 'headendlaw9.CaptionBreaksMatchSpec': WHATEVER THE INPUT: true; the input reads as it did. -/
def captionBreaksMatchSpecSpec : ChangeSpec := { name := "captionBreaksMatchSpec", fn := fun _ => fun
  | [d1, d2, d3] => { results := [.lit (.bool true)], args := [d1, d2, d3] }
  | _ => none }
def captionBreaksMatchSpecRow : OpenClaim := { program := "ytlnflhmepnbcmaadoor", sum := "bfd224efb5561d85ee1f018e99bed40e9a1e70db529f30f3ad1a021bb96800ad", func := "headend/headendlaw9.CaptionBreaksMatchSpec", spec := "captionBreaksMatchSpec", inPlace := ["internal/bytealg.IndexByteString", "internal/bytealg.IndexString", "internal/bytealg.CountString", "internal/abi.NoEscape", "internal/bytealg.MakeNoZero"], named := ["unicode/utf8.first", "unicode/utf8.acceptRanges", "internal/bytealg.MaxLen"], apart := false, laid := [("unicode/utf8.acceptRanges", laid_unicode_utf8_acceptRanges), ("unicode/utf8.first", laid_unicode_utf8_first)] }
def CaptionBreaksMatchSpecSaid : Prop := captionBreaksMatchSpecRow.holds Tryd.pinned (OpenSpec.ofChange captionBreaksMatchSpecSpec)

/-- ITS FALSE NEIGHBOUR: 'it returns false'. Refute it at one input. -/
def captionBreaksMatchSpecWrong : ChangeSpec := { name := "captionBreaksMatchSpec", fn := fun _ => fun
  | [d1, d2, d3] => { results := [.lit (.bool false)], args := [d1, d2, d3] }
  | _ => none }
def CaptionBreaksMatchSpecWrongFalsely : Prop := captionBreaksMatchSpecRow.holds Tryd.pinned (OpenSpec.ofChange captionBreaksMatchSpecWrong)

/-- 'headendlaw9.CaptionFindsMatchSpec': WHATEVER THE INPUT: true; the input reads as it did. -/
def captionFindsMatchSpecSpec : ChangeSpec := { name := "captionFindsMatchSpec", fn := fun _ => fun
  | [d1, d2] => { results := [.lit (.bool true)], args := [d1, d2] }
  | _ => none }
def captionFindsMatchSpecRow : OpenClaim := { program := "ytlnflhmepnbcmaadoor", sum := "bfd224efb5561d85ee1f018e99bed40e9a1e70db529f30f3ad1a021bb96800ad", func := "headend/headendlaw9.CaptionFindsMatchSpec", spec := "captionFindsMatchSpec", inPlace := ["internal/bytealg.IndexByteString", "internal/bytealg.IndexString", "internal/bytealg.CountString", "internal/abi.NoEscape", "internal/bytealg.MakeNoZero"], named := ["unicode/utf8.first", "unicode/utf8.acceptRanges", "internal/bytealg.MaxLen"], apart := false, laid := [("unicode/utf8.acceptRanges", laid_unicode_utf8_acceptRanges), ("unicode/utf8.first", laid_unicode_utf8_first)] }
def CaptionFindsMatchSpecSaid : Prop := captionFindsMatchSpecRow.holds Tryd.pinned (OpenSpec.ofChange captionFindsMatchSpecSpec)

/-- ITS FALSE NEIGHBOUR: 'it returns false'. Refute it at one input. -/
def captionFindsMatchSpecWrong : ChangeSpec := { name := "captionFindsMatchSpec", fn := fun _ => fun
  | [d1, d2] => { results := [.lit (.bool false)], args := [d1, d2] }
  | _ => none }
def CaptionFindsMatchSpecWrongFalsely : Prop := captionFindsMatchSpecRow.holds Tryd.pinned (OpenSpec.ofChange captionFindsMatchSpecWrong)

/-- 'headendlaw9.CaptionPartsAreThere': WHATEVER THE INPUT: true; the input reads as it did. -/
def captionPartsAreThereSpec : ChangeSpec := { name := "captionPartsAreThere", fn := fun _ => fun
  | [d1, d2, d3] => { results := [.lit (.bool true)], args := [d1, d2, d3] }
  | _ => none }
def captionPartsAreThereRow : OpenClaim := { program := "ytlnflhmepnbcmaadoor", sum := "bfd224efb5561d85ee1f018e99bed40e9a1e70db529f30f3ad1a021bb96800ad", func := "headend/headendlaw9.CaptionPartsAreThere", spec := "captionPartsAreThere", inPlace := ["internal/bytealg.IndexByteString", "internal/bytealg.IndexString", "internal/bytealg.CountString", "internal/abi.NoEscape", "internal/bytealg.MakeNoZero"], unfollowed := true, recurses := true, named := ["unicode/utf8.first", "unicode/utf8.acceptRanges", "internal/bytealg.MaxLen"], apart := false, laid := [("unicode/utf8.acceptRanges", laid_unicode_utf8_acceptRanges), ("unicode/utf8.first", laid_unicode_utf8_first)] }
def CaptionPartsAreThereSaid : Prop := captionPartsAreThereRow.holds Tryd.pinned (OpenSpec.ofChange captionPartsAreThereSpec)

/-- ITS FALSE NEIGHBOUR: 'it returns false'. Refute it at one input. -/
def captionPartsAreThereWrong : ChangeSpec := { name := "captionPartsAreThere", fn := fun _ => fun
  | [d1, d2, d3] => { results := [.lit (.bool false)], args := [d1, d2, d3] }
  | _ => none }
def CaptionPartsAreThereWrongFalsely : Prop := captionPartsAreThereRow.holds Tryd.pinned (OpenSpec.ofChange captionPartsAreThereWrong)

/-- 'headendlaw9.CaptionPartsComeTogether': WHATEVER THE INPUT: true; the input reads as it did. -/
def captionPartsComeTogetherSpec : ChangeSpec := { name := "captionPartsComeTogether", fn := fun _ => fun
  | [d1, d2] => { results := [.lit (.bool true)], args := [d1, d2] }
  | _ => none }
def captionPartsComeTogetherRow : OpenClaim := { program := "ytlnflhmepnbcmaadoor", sum := "bfd224efb5561d85ee1f018e99bed40e9a1e70db529f30f3ad1a021bb96800ad", func := "headend/headendlaw9.CaptionPartsComeTogether", spec := "captionPartsComeTogether", inPlace := ["internal/bytealg.IndexByteString", "internal/bytealg.IndexString", "internal/bytealg.CountString", "internal/abi.NoEscape", "internal/bytealg.MakeNoZero"], unfollowed := true, recurses := true, named := ["unicode/utf8.first", "unicode/utf8.acceptRanges", "internal/bytealg.MaxLen"], apart := false, laid := [("unicode/utf8.acceptRanges", laid_unicode_utf8_acceptRanges), ("unicode/utf8.first", laid_unicode_utf8_first)] }
def CaptionPartsComeTogetherSaid : Prop := captionPartsComeTogetherRow.holds Tryd.pinned (OpenSpec.ofChange captionPartsComeTogetherSpec)

/-- ITS FALSE NEIGHBOUR: 'it returns false'. Refute it at one input. -/
def captionPartsComeTogetherWrong : ChangeSpec := { name := "captionPartsComeTogether", fn := fun _ => fun
  | [d1, d2] => { results := [.lit (.bool false)], args := [d1, d2] }
  | _ => none }
def CaptionPartsComeTogetherWrongFalsely : Prop := captionPartsComeTogetherRow.holds Tryd.pinned (OpenSpec.ofChange captionPartsComeTogetherWrong)

/-- 'headendlaw9.CaptionSplitsMatchSpec': WHATEVER THE INPUT: true; the input reads as it did. -/
def captionSplitsMatchSpecSpec : ChangeSpec := { name := "captionSplitsMatchSpec", fn := fun _ => fun
  | [d1, d2] => { results := [.lit (.bool true)], args := [d1, d2] }
  | _ => none }
def captionSplitsMatchSpecRow : OpenClaim := { program := "ytlnflhmepnbcmaadoor", sum := "bfd224efb5561d85ee1f018e99bed40e9a1e70db529f30f3ad1a021bb96800ad", func := "headend/headendlaw9.CaptionSplitsMatchSpec", spec := "captionSplitsMatchSpec", inPlace := ["internal/bytealg.IndexByteString", "internal/bytealg.IndexString", "slices.overlaps[headend/api.Caption]", "internal/bytealg.CountString", "internal/abi.NoEscape", "internal/bytealg.MakeNoZero"], unfollowed := true, recurses := true, named := ["unicode/utf8.first", "unicode/utf8.acceptRanges", "internal/bytealg.MaxLen"], apart := false, laid := [("unicode/utf8.acceptRanges", laid_unicode_utf8_acceptRanges), ("unicode/utf8.first", laid_unicode_utf8_first)] }
def CaptionSplitsMatchSpecSaid : Prop := captionSplitsMatchSpecRow.holds Tryd.pinned (OpenSpec.ofChange captionSplitsMatchSpecSpec)

/-- ITS FALSE NEIGHBOUR: 'it returns false'. Refute it at one input. -/
def captionSplitsMatchSpecWrong : ChangeSpec := { name := "captionSplitsMatchSpec", fn := fun _ => fun
  | [d1, d2] => { results := [.lit (.bool false)], args := [d1, d2] }
  | _ => none }
def CaptionSplitsMatchSpecWrongFalsely : Prop := captionSplitsMatchSpecRow.holds Tryd.pinned (OpenSpec.ofChange captionSplitsMatchSpecWrong)

/-- 'headendlaw9.CaptionJoinsMatchSpec': WHATEVER THE INPUT: true; the input reads as it did. -/
def captionJoinsMatchSpecSpec : ChangeSpec := { name := "captionJoinsMatchSpec", fn := fun _ => fun
  | [d1, d2] => { results := [.lit (.bool true)], args := [d1, d2] }
  | _ => none }
def captionJoinsMatchSpecRow : OpenClaim := { program := "ytlnflhmepnbcmaadoor", sum := "bfd224efb5561d85ee1f018e99bed40e9a1e70db529f30f3ad1a021bb96800ad", func := "headend/headendlaw9.CaptionJoinsMatchSpec", spec := "captionJoinsMatchSpec", inPlace := ["internal/bytealg.IndexByteString", "internal/bytealg.IndexString", "slices.overlaps[headend/api.Caption]", "internal/bytealg.CountString", "internal/abi.NoEscape", "internal/bytealg.MakeNoZero"], unfollowed := true, recurses := true, named := ["unicode/utf8.first", "unicode/utf8.acceptRanges", "internal/bytealg.MaxLen"], apart := false, laid := [("unicode/utf8.acceptRanges", laid_unicode_utf8_acceptRanges), ("unicode/utf8.first", laid_unicode_utf8_first)] }
def CaptionJoinsMatchSpecSaid : Prop := captionJoinsMatchSpecRow.holds Tryd.pinned (OpenSpec.ofChange captionJoinsMatchSpecSpec)

/-- ITS FALSE NEIGHBOUR: 'it returns false'. Refute it at one input. -/
def captionJoinsMatchSpecWrong : ChangeSpec := { name := "captionJoinsMatchSpec", fn := fun _ => fun
  | [d1, d2] => { results := [.lit (.bool false)], args := [d1, d2] }
  | _ => none }
def CaptionJoinsMatchSpecWrongFalsely : Prop := captionJoinsMatchSpecRow.holds Tryd.pinned (OpenSpec.ofChange captionJoinsMatchSpecWrong)

/- THE SECOND FORM. 'bulk': how many values and letters a reading holds, each counted each time it is reached (what is shared counts as often as it is met; a slice's spare places count too). A statement '..UptoSaid' is the law's where the arguments, and the package variables that the reading takes, are together of bulk at most 1048576: NARROWER than '..Said'. Prove '..Said' where nothing that the law and all that it calls make is longer than what came in: it says more and counts as full. Else prove '..UptoSaid'. A law counts once. -/
mutual
def uptoBulk {H : Type} : DataW H → Nat
  | .lit (.string bytes) => bytes.length + 1
  | .lit _ => 1
  | .nil => 1
  | .ptr d => uptoBulk d + 1
  | .slice elems spare => uptoBulkAll elems + uptoBulkAll spare + 1
  | .agg parts => uptoBulkAll parts + 1
  | .iface _ d => uptoBulk d + 1
  | .map entries => uptoBulkEntries entries + 1
  | .held _ => 1
def uptoBulkAll {H : Type} : List (DataW H) → Nat
  | [] => 0
  | d :: r => uptoBulk d + uptoBulkAll r
def uptoBulkEntries {H : Type} : List (Lit × DataW H) → Nat
  | [] => 0
  | x :: r => uptoBulkEntry x + uptoBulkEntries r
def uptoBulkEntry {H : Type} : Lit × DataW H → Nat
  | (.string bytes, d) => bytes.length + uptoBulk d + 1
  | (_, d) => uptoBulk d + 1
 end
def uptoSmall : (H : Type) → List (DataW H) → Bool := fun _ ds => decide (uptoBulkAll ds ≤ 1048576)
def OpenSpec.upto (s : _root_.Go.ChangeSpec) : _root_.Go.OpenSpec := { _root_.Go.OpenSpec.ofChange s with cond := some uptoSmall }

/-- 'headendlaw9.CaptionBreaksMatchSpec', WHERE WHAT IT READS IS OF BULK AT MOST 1048576: true; the input reads as it did. -/
def captionBreaksMatchSpecUptoRow : OpenClaim := { program := "ytlnflhmepnbcmaadoor", sum := "bfd224efb5561d85ee1f018e99bed40e9a1e70db529f30f3ad1a021bb96800ad", func := "headend/headendlaw9.CaptionBreaksMatchSpec", spec := "captionBreaksMatchSpec", inPlace := ["internal/bytealg.IndexByteString", "internal/bytealg.IndexString", "internal/bytealg.CountString", "internal/abi.NoEscape", "internal/bytealg.MakeNoZero"], named := ["unicode/utf8.first", "unicode/utf8.acceptRanges", "internal/bytealg.MaxLen"], apart := false, laid := [("unicode/utf8.acceptRanges", laid_unicode_utf8_acceptRanges), ("unicode/utf8.first", laid_unicode_utf8_first)], narrowed := true }
def CaptionBreaksMatchSpecUptoSaid : Prop := captionBreaksMatchSpecUptoRow.holds Tryd.pinned (OpenSpec.upto captionBreaksMatchSpecSpec)

/-- 'headendlaw9.CaptionFindsMatchSpec', WHERE WHAT IT READS IS OF BULK AT MOST 1048576: true; the input reads as it did. -/
def captionFindsMatchSpecUptoRow : OpenClaim := { program := "ytlnflhmepnbcmaadoor", sum := "bfd224efb5561d85ee1f018e99bed40e9a1e70db529f30f3ad1a021bb96800ad", func := "headend/headendlaw9.CaptionFindsMatchSpec", spec := "captionFindsMatchSpec", inPlace := ["internal/bytealg.IndexByteString", "internal/bytealg.IndexString", "internal/bytealg.CountString", "internal/abi.NoEscape", "internal/bytealg.MakeNoZero"], named := ["unicode/utf8.first", "unicode/utf8.acceptRanges", "internal/bytealg.MaxLen"], apart := false, laid := [("unicode/utf8.acceptRanges", laid_unicode_utf8_acceptRanges), ("unicode/utf8.first", laid_unicode_utf8_first)], narrowed := true }
def CaptionFindsMatchSpecUptoSaid : Prop := captionFindsMatchSpecUptoRow.holds Tryd.pinned (OpenSpec.upto captionFindsMatchSpecSpec)

/-- 'headendlaw9.CaptionPartsAreThere', WHERE WHAT IT READS IS OF BULK AT MOST 1048576: true; the input reads as it did. -/
def captionPartsAreThereUptoRow : OpenClaim := { program := "ytlnflhmepnbcmaadoor", sum := "bfd224efb5561d85ee1f018e99bed40e9a1e70db529f30f3ad1a021bb96800ad", func := "headend/headendlaw9.CaptionPartsAreThere", spec := "captionPartsAreThere", inPlace := ["internal/bytealg.IndexByteString", "internal/bytealg.IndexString", "internal/bytealg.CountString", "internal/abi.NoEscape", "internal/bytealg.MakeNoZero"], unfollowed := true, recurses := true, named := ["unicode/utf8.first", "unicode/utf8.acceptRanges", "internal/bytealg.MaxLen"], apart := false, laid := [("unicode/utf8.acceptRanges", laid_unicode_utf8_acceptRanges), ("unicode/utf8.first", laid_unicode_utf8_first)], narrowed := true }
def CaptionPartsAreThereUptoSaid : Prop := captionPartsAreThereUptoRow.holds Tryd.pinned (OpenSpec.upto captionPartsAreThereSpec)

/-- 'headendlaw9.CaptionPartsComeTogether', WHERE WHAT IT READS IS OF BULK AT MOST 1048576: true; the input reads as it did. -/
def captionPartsComeTogetherUptoRow : OpenClaim := { program := "ytlnflhmepnbcmaadoor", sum := "bfd224efb5561d85ee1f018e99bed40e9a1e70db529f30f3ad1a021bb96800ad", func := "headend/headendlaw9.CaptionPartsComeTogether", spec := "captionPartsComeTogether", inPlace := ["internal/bytealg.IndexByteString", "internal/bytealg.IndexString", "internal/bytealg.CountString", "internal/abi.NoEscape", "internal/bytealg.MakeNoZero"], unfollowed := true, recurses := true, named := ["unicode/utf8.first", "unicode/utf8.acceptRanges", "internal/bytealg.MaxLen"], apart := false, laid := [("unicode/utf8.acceptRanges", laid_unicode_utf8_acceptRanges), ("unicode/utf8.first", laid_unicode_utf8_first)], narrowed := true }
def CaptionPartsComeTogetherUptoSaid : Prop := captionPartsComeTogetherUptoRow.holds Tryd.pinned (OpenSpec.upto captionPartsComeTogetherSpec)

/-- 'headendlaw9.CaptionSplitsMatchSpec', WHERE WHAT IT READS IS OF BULK AT MOST 1048576: true; the input reads as it did. -/
def captionSplitsMatchSpecUptoRow : OpenClaim := { program := "ytlnflhmepnbcmaadoor", sum := "bfd224efb5561d85ee1f018e99bed40e9a1e70db529f30f3ad1a021bb96800ad", func := "headend/headendlaw9.CaptionSplitsMatchSpec", spec := "captionSplitsMatchSpec", inPlace := ["internal/bytealg.IndexByteString", "internal/bytealg.IndexString", "slices.overlaps[headend/api.Caption]", "internal/bytealg.CountString", "internal/abi.NoEscape", "internal/bytealg.MakeNoZero"], unfollowed := true, recurses := true, named := ["unicode/utf8.first", "unicode/utf8.acceptRanges", "internal/bytealg.MaxLen"], apart := false, laid := [("unicode/utf8.acceptRanges", laid_unicode_utf8_acceptRanges), ("unicode/utf8.first", laid_unicode_utf8_first)], narrowed := true }
def CaptionSplitsMatchSpecUptoSaid : Prop := captionSplitsMatchSpecUptoRow.holds Tryd.pinned (OpenSpec.upto captionSplitsMatchSpecSpec)

/-- 'headendlaw9.CaptionJoinsMatchSpec', WHERE WHAT IT READS IS OF BULK AT MOST 1048576: true; the input reads as it did. -/
def captionJoinsMatchSpecUptoRow : OpenClaim := { program := "ytlnflhmepnbcmaadoor", sum := "bfd224efb5561d85ee1f018e99bed40e9a1e70db529f30f3ad1a021bb96800ad", func := "headend/headendlaw9.CaptionJoinsMatchSpec", spec := "captionJoinsMatchSpec", inPlace := ["internal/bytealg.IndexByteString", "internal/bytealg.IndexString", "slices.overlaps[headend/api.Caption]", "internal/bytealg.CountString", "internal/abi.NoEscape", "internal/bytealg.MakeNoZero"], unfollowed := true, recurses := true, named := ["unicode/utf8.first", "unicode/utf8.acceptRanges", "internal/bytealg.MaxLen"], apart := false, laid := [("unicode/utf8.acceptRanges", laid_unicode_utf8_acceptRanges), ("unicode/utf8.first", laid_unicode_utf8_first)], narrowed := true }
def CaptionJoinsMatchSpecUptoSaid : Prop := captionJoinsMatchSpecUptoRow.holds Tryd.pinned (OpenSpec.upto captionJoinsMatchSpecSpec)

end Rows
end Go.Proofs.YtlnflhmepnbcmaaDoor
