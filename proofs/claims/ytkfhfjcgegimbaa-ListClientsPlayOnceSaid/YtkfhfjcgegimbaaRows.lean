/-
  No cell of these rows narrows 'for every input' (looked for: loops, veiled, ifaces, maps, wideKeys, modest, calm, conditions, laid).
  DERIVED. THE GIVEN ROWS OF THIS SEAT. 8 by the template 'for every input the law returns true; each argument reads behind the call as it read before'; 0 by the template 'total and deterministic' (their statements: YtkfhfjcgegimbaaTotals.lean).
  GIVEN WITH THE SEED: the statements are not yours to turn. If you find one false, say at which input.
  Laid BY PROGRAM, IN A SANDBOX (cutbox-rows.mjs): the forced cells as the released guide's own fill.sh prints them over the translation 71c79d17a7e77547… (all of the seat's roots in one cut). By AI agents, Wed Nov 11 2026. No macro, syntax, notation, axiom, sorry.
-/
import Derived.Test.YtkfhfjcgegimbaaChecked
import GoSem.Claim
import GoSem.ClaimJoined
import GoSem.ClaimMapViews
import Derived.JoinedTies
import Derived.KernelRfl
namespace Go.Proofs.Ytkfhfjcgegimbaa
/- THE CELL 'sum', in the pinned program and in every row, IS THE sha256 OF THE DUMP (.gsa) THAT YtkfhfjcgegimbaaProg.lean LOADS. Nothing in Lean hashes anything: it is a label: what it is worth is what the hold of that sum in a sandbox is worth. -/
noncomputable def Try.pinned : Pinned := { name := "ytkfhfjcgegimbaa", sum := "71c79d17a7e77547bcff74bb0edf392052467dbf38650c336d1d6872cc5be520", checked := Try.checked }
namespace Rows
def none {H : Type} : Left H := { results := [], args := [] }

/-- 'headendlaw6.ListAtsMatchSpec': WHATEVER THE INPUT: true; the input reads as it did. -/
def listAtsMatchSpecSpec : ChangeSpec := { name := "listAtsMatchSpec", fn := fun _ => fun
  | [d1, d2, d3] => { results := [.lit (.bool true)], args := [d1, d2, d3] }
  | _ => none }
def listAtsMatchSpecRow : OpenClaim := { program := "ytkfhfjcgegimbaa", sum := "71c79d17a7e77547bcff74bb0edf392052467dbf38650c336d1d6872cc5be520", func := "headend/headendlaw6.ListAtsMatchSpec", spec := "listAtsMatchSpec", apart := false }
def ListAtsMatchSpecSaid : Prop := listAtsMatchSpecRow.holds Try.pinned (OpenSpec.ofChange listAtsMatchSpecSpec)

/-- ITS FALSE NEIGHBOUR: 'it returns false'. Refute it at one input. -/
def listAtsMatchSpecWrong : ChangeSpec := { name := "listAtsMatchSpec", fn := fun _ => fun
  | [d1, d2, d3] => { results := [.lit (.bool false)], args := [d1, d2, d3] }
  | _ => none }
def ListAtsMatchSpecWrongFalsely : Prop := listAtsMatchSpecRow.holds Try.pinned (OpenSpec.ofChange listAtsMatchSpecWrong)

/-- 'headendlaw6.ListChangesMatchSpec': WHATEVER THE INPUT: true; the input reads as it did. -/
def listChangesMatchSpecSpec : ChangeSpec := { name := "listChangesMatchSpec", fn := fun _ => fun
  | [d1, d2, d3] => { results := [.lit (.bool true)], args := [d1, d2, d3] }
  | _ => none }
def listChangesMatchSpecRow : OpenClaim := { program := "ytkfhfjcgegimbaa", sum := "71c79d17a7e77547bcff74bb0edf392052467dbf38650c336d1d6872cc5be520", func := "headend/headendlaw6.ListChangesMatchSpec", spec := "listChangesMatchSpec", apart := false }
def ListChangesMatchSpecSaid : Prop := listChangesMatchSpecRow.holds Try.pinned (OpenSpec.ofChange listChangesMatchSpecSpec)

/-- ITS FALSE NEIGHBOUR: 'it returns false'. Refute it at one input. -/
def listChangesMatchSpecWrong : ChangeSpec := { name := "listChangesMatchSpec", fn := fun _ => fun
  | [d1, d2, d3] => { results := [.lit (.bool false)], args := [d1, d2, d3] }
  | _ => none }
def ListChangesMatchSpecWrongFalsely : Prop := listChangesMatchSpecRow.holds Try.pinned (OpenSpec.ofChange listChangesMatchSpecWrong)

/-- 'headendlaw6.ListFollowsMatchSpec': WHATEVER THE INPUT: true; the input reads as it did. -/
def listFollowsMatchSpecSpec : ChangeSpec := { name := "listFollowsMatchSpec", fn := fun _ => fun
  | [d1, d2] => { results := [.lit (.bool true)], args := [d1, d2] }
  | _ => none }
def listFollowsMatchSpecRow : OpenClaim := { program := "ytkfhfjcgegimbaa", sum := "71c79d17a7e77547bcff74bb0edf392052467dbf38650c336d1d6872cc5be520", func := "headend/headendlaw6.ListFollowsMatchSpec", spec := "listFollowsMatchSpec", unfollowed := true, recurses := true, apart := false }
def ListFollowsMatchSpecSaid : Prop := listFollowsMatchSpecRow.holds Try.pinned (OpenSpec.ofChange listFollowsMatchSpecSpec)

/-- ITS FALSE NEIGHBOUR: 'it returns false'. Refute it at one input. -/
def listFollowsMatchSpecWrong : ChangeSpec := { name := "listFollowsMatchSpec", fn := fun _ => fun
  | [d1, d2] => { results := [.lit (.bool false)], args := [d1, d2] }
  | _ => none }
def ListFollowsMatchSpecWrongFalsely : Prop := listFollowsMatchSpecRow.holds Try.pinned (OpenSpec.ofChange listFollowsMatchSpecWrong)

/-- 'headendlaw6.ListSwitchesMatchSpec': WHATEVER THE INPUT: true; the input reads as it did. -/
def listSwitchesMatchSpecSpec : ChangeSpec := { name := "listSwitchesMatchSpec", fn := fun _ => fun
  | [d1, d2, d3] => { results := [.lit (.bool true)], args := [d1, d2, d3] }
  | _ => none }
def listSwitchesMatchSpecRow : OpenClaim := { program := "ytkfhfjcgegimbaa", sum := "71c79d17a7e77547bcff74bb0edf392052467dbf38650c336d1d6872cc5be520", func := "headend/headendlaw6.ListSwitchesMatchSpec", spec := "listSwitchesMatchSpec", apart := false }
def ListSwitchesMatchSpecSaid : Prop := listSwitchesMatchSpecRow.holds Try.pinned (OpenSpec.ofChange listSwitchesMatchSpecSpec)

/-- ITS FALSE NEIGHBOUR: 'it returns false'. Refute it at one input. -/
def listSwitchesMatchSpecWrong : ChangeSpec := { name := "listSwitchesMatchSpec", fn := fun _ => fun
  | [d1, d2, d3] => { results := [.lit (.bool false)], args := [d1, d2, d3] }
  | _ => none }
def ListSwitchesMatchSpecWrongFalsely : Prop := listSwitchesMatchSpecRow.holds Try.pinned (OpenSpec.ofChange listSwitchesMatchSpecWrong)

/-- 'headendlaw6.ListSwitchesToItself': WHATEVER THE INPUT: true; the input reads as it did. -/
def listSwitchesToItselfSpec : ChangeSpec := { name := "listSwitchesToItself", fn := fun _ => fun
  | [d1, d2] => { results := [.lit (.bool true)], args := [d1, d2] }
  | _ => none }
def listSwitchesToItselfRow : OpenClaim := { program := "ytkfhfjcgegimbaa", sum := "71c79d17a7e77547bcff74bb0edf392052467dbf38650c336d1d6872cc5be520", func := "headend/headendlaw6.ListSwitchesToItself", spec := "listSwitchesToItself", apart := false }
def ListSwitchesToItselfSaid : Prop := listSwitchesToItselfRow.holds Try.pinned (OpenSpec.ofChange listSwitchesToItselfSpec)

/-- ITS FALSE NEIGHBOUR: 'it returns false'. Refute it at one input. -/
def listSwitchesToItselfWrong : ChangeSpec := { name := "listSwitchesToItself", fn := fun _ => fun
  | [d1, d2] => { results := [.lit (.bool false)], args := [d1, d2] }
  | _ => none }
def ListSwitchesToItselfWrongFalsely : Prop := listSwitchesToItselfRow.holds Try.pinned (OpenSpec.ofChange listSwitchesToItselfWrong)

/-- 'headendlaw6.ListChangesFollow': WHATEVER THE INPUT: true; the input reads as it did. -/
def listChangesFollowSpec : ChangeSpec := { name := "listChangesFollow", fn := fun _ => fun
  | [d1, d2] => { results := [.lit (.bool true)], args := [d1, d2] }
  | _ => none }
def listChangesFollowRow : OpenClaim := { program := "ytkfhfjcgegimbaa", sum := "71c79d17a7e77547bcff74bb0edf392052467dbf38650c336d1d6872cc5be520", func := "headend/headendlaw6.ListChangesFollow", spec := "listChangesFollow", unfollowed := true, recurses := true, apart := false }
def ListChangesFollowSaid : Prop := listChangesFollowRow.holds Try.pinned (OpenSpec.ofChange listChangesFollowSpec)

/-- ITS FALSE NEIGHBOUR: 'it returns false'. Refute it at one input. -/
def listChangesFollowWrong : ChangeSpec := { name := "listChangesFollow", fn := fun _ => fun
  | [d1, d2] => { results := [.lit (.bool false)], args := [d1, d2] }
  | _ => none }
def ListChangesFollowWrongFalsely : Prop := listChangesFollowRow.holds Try.pinned (OpenSpec.ofChange listChangesFollowWrong)

/-- 'headendlaw6.ListLoadsMatchSpec': WHATEVER THE INPUT: true; the input reads as it did. -/
def listLoadsMatchSpecSpec : ChangeSpec := { name := "listLoadsMatchSpec", fn := fun _ => fun
  | [d1, d2, d3] => { results := [.lit (.bool true)], args := [d1, d2, d3] }
  | _ => none }
def listLoadsMatchSpecRow : OpenClaim := { program := "ytkfhfjcgegimbaa", sum := "71c79d17a7e77547bcff74bb0edf392052467dbf38650c336d1d6872cc5be520", func := "headend/headendlaw6.ListLoadsMatchSpec", spec := "listLoadsMatchSpec", unfollowed := true, recurses := true, apart := false }
def ListLoadsMatchSpecSaid : Prop := listLoadsMatchSpecRow.holds Try.pinned (OpenSpec.ofChange listLoadsMatchSpecSpec)

/-- ITS FALSE NEIGHBOUR: 'it returns false'. Refute it at one input. -/
def listLoadsMatchSpecWrong : ChangeSpec := { name := "listLoadsMatchSpec", fn := fun _ => fun
  | [d1, d2, d3] => { results := [.lit (.bool false)], args := [d1, d2, d3] }
  | _ => none }
def ListLoadsMatchSpecWrongFalsely : Prop := listLoadsMatchSpecRow.holds Try.pinned (OpenSpec.ofChange listLoadsMatchSpecWrong)

/-- 'headendlaw6.ListClientsPlayOnce': WHATEVER THE INPUT: true; the input reads as it did. -/
def listClientsPlayOnceSpec : ChangeSpec := { name := "listClientsPlayOnce", fn := fun _ => fun
  | [d1, d2, d3, d4, d5] => { results := [.lit (.bool true)], args := [d1, d2, d3, d4, d5] }
  | _ => none }
def listClientsPlayOnceRow : OpenClaim := { program := "ytkfhfjcgegimbaa", sum := "71c79d17a7e77547bcff74bb0edf392052467dbf38650c336d1d6872cc5be520", func := "headend/headendlaw6.ListClientsPlayOnce", spec := "listClientsPlayOnce", unfollowed := true, recurses := true, apart := false }
def ListClientsPlayOnceSaid : Prop := listClientsPlayOnceRow.holds Try.pinned (OpenSpec.ofChange listClientsPlayOnceSpec)

/-- ITS FALSE NEIGHBOUR: 'it returns false'. Refute it at one input. -/
def listClientsPlayOnceWrong : ChangeSpec := { name := "listClientsPlayOnce", fn := fun _ => fun
  | [d1, d2, d3, d4, d5] => { results := [.lit (.bool false)], args := [d1, d2, d3, d4, d5] }
  | _ => none }
def ListClientsPlayOnceWrongFalsely : Prop := listClientsPlayOnceRow.holds Try.pinned (OpenSpec.ofChange listClientsPlayOnceWrong)

/- THE SECOND FORM. 'bulk': how many values and letters a reading holds, each counted each time it is reached (what is shared counts as often as it is met; a slice's spare places count too). A statement '..UptoSaid' is the law's where the arguments, and the package variables that the reading takes, are together of bulk at most 1048576: NARROWER than '..Said'. Prove '..Said' where nothing that the law and all that it calls make is longer than what came in: it says more and counts as full. Else prove '..UptoSaid'. A law counts once. -/
mutual
def uptoBulk {H : Type} : DataW H → Nat
  | .lit (.string bytes) => bytes.length + 1
  | .lit _ => 1
  | .nil => 1
  | .ptr d => uptoBulk d + 1
  | .slice elems spare => uptoBulkAll elems + uptoBulkAll spare + 1
  | .agg parts => uptoBulkAll parts + 1
  | .iface _ d => uptoBulk d + 1
  | .map entries => uptoBulkEntries entries + 1
  | .held _ => 1
def uptoBulkAll {H : Type} : List (DataW H) → Nat
  | [] => 0
  | d :: r => uptoBulk d + uptoBulkAll r
def uptoBulkEntries {H : Type} : List (Lit × DataW H) → Nat
  | [] => 0
  | x :: r => uptoBulkEntry x + uptoBulkEntries r
def uptoBulkEntry {H : Type} : Lit × DataW H → Nat
  | (.string bytes, d) => bytes.length + uptoBulk d + 1
  | (_, d) => uptoBulk d + 1
 end
def uptoSmall : (H : Type) → List (DataW H) → Bool := fun _ ds => decide (uptoBulkAll ds ≤ 1048576)
def OpenSpec.upto (s : _root_.Go.ChangeSpec) : _root_.Go.OpenSpec := { _root_.Go.OpenSpec.ofChange s with cond := some uptoSmall }

/-- 'headendlaw6.ListAtsMatchSpec', WHERE WHAT IT READS IS OF BULK AT MOST 1048576: true; the input reads as it did. -/
def listAtsMatchSpecUptoRow : OpenClaim := { program := "ytkfhfjcgegimbaa", sum := "71c79d17a7e77547bcff74bb0edf392052467dbf38650c336d1d6872cc5be520", func := "headend/headendlaw6.ListAtsMatchSpec", spec := "listAtsMatchSpec", apart := false, narrowed := true }
def ListAtsMatchSpecUptoSaid : Prop := listAtsMatchSpecUptoRow.holds Try.pinned (OpenSpec.upto listAtsMatchSpecSpec)

/-- 'headendlaw6.ListChangesMatchSpec', WHERE WHAT IT READS IS OF BULK AT MOST 1048576: true; the input reads as it did. -/
def listChangesMatchSpecUptoRow : OpenClaim := { program := "ytkfhfjcgegimbaa", sum := "71c79d17a7e77547bcff74bb0edf392052467dbf38650c336d1d6872cc5be520", func := "headend/headendlaw6.ListChangesMatchSpec", spec := "listChangesMatchSpec", apart := false, narrowed := true }
def ListChangesMatchSpecUptoSaid : Prop := listChangesMatchSpecUptoRow.holds Try.pinned (OpenSpec.upto listChangesMatchSpecSpec)

/-- 'headendlaw6.ListFollowsMatchSpec', WHERE WHAT IT READS IS OF BULK AT MOST 1048576: true; the input reads as it did. -/
def listFollowsMatchSpecUptoRow : OpenClaim := { program := "ytkfhfjcgegimbaa", sum := "71c79d17a7e77547bcff74bb0edf392052467dbf38650c336d1d6872cc5be520", func := "headend/headendlaw6.ListFollowsMatchSpec", spec := "listFollowsMatchSpec", unfollowed := true, recurses := true, apart := false, narrowed := true }
def ListFollowsMatchSpecUptoSaid : Prop := listFollowsMatchSpecUptoRow.holds Try.pinned (OpenSpec.upto listFollowsMatchSpecSpec)

/-- 'headendlaw6.ListSwitchesMatchSpec', WHERE WHAT IT READS IS OF BULK AT MOST 1048576: true; the input reads as it did. -/
def listSwitchesMatchSpecUptoRow : OpenClaim := { program := "ytkfhfjcgegimbaa", sum := "71c79d17a7e77547bcff74bb0edf392052467dbf38650c336d1d6872cc5be520", func := "headend/headendlaw6.ListSwitchesMatchSpec", spec := "listSwitchesMatchSpec", apart := false, narrowed := true }
def ListSwitchesMatchSpecUptoSaid : Prop := listSwitchesMatchSpecUptoRow.holds Try.pinned (OpenSpec.upto listSwitchesMatchSpecSpec)

/-- 'headendlaw6.ListSwitchesToItself', WHERE WHAT IT READS IS OF BULK AT MOST 1048576: true; the input reads as it did. -/
def listSwitchesToItselfUptoRow : OpenClaim := { program := "ytkfhfjcgegimbaa", sum := "71c79d17a7e77547bcff74bb0edf392052467dbf38650c336d1d6872cc5be520", func := "headend/headendlaw6.ListSwitchesToItself", spec := "listSwitchesToItself", apart := false, narrowed := true }
def ListSwitchesToItselfUptoSaid : Prop := listSwitchesToItselfUptoRow.holds Try.pinned (OpenSpec.upto listSwitchesToItselfSpec)

/-- 'headendlaw6.ListChangesFollow', WHERE WHAT IT READS IS OF BULK AT MOST 1048576: true; the input reads as it did. -/
def listChangesFollowUptoRow : OpenClaim := { program := "ytkfhfjcgegimbaa", sum := "71c79d17a7e77547bcff74bb0edf392052467dbf38650c336d1d6872cc5be520", func := "headend/headendlaw6.ListChangesFollow", spec := "listChangesFollow", unfollowed := true, recurses := true, apart := false, narrowed := true }
def ListChangesFollowUptoSaid : Prop := listChangesFollowUptoRow.holds Try.pinned (OpenSpec.upto listChangesFollowSpec)

/-- 'headendlaw6.ListLoadsMatchSpec', WHERE WHAT IT READS IS OF BULK AT MOST 1048576: true; the input reads as it did. -/
def listLoadsMatchSpecUptoRow : OpenClaim := { program := "ytkfhfjcgegimbaa", sum := "71c79d17a7e77547bcff74bb0edf392052467dbf38650c336d1d6872cc5be520", func := "headend/headendlaw6.ListLoadsMatchSpec", spec := "listLoadsMatchSpec", unfollowed := true, recurses := true, apart := false, narrowed := true }
def ListLoadsMatchSpecUptoSaid : Prop := listLoadsMatchSpecUptoRow.holds Try.pinned (OpenSpec.upto listLoadsMatchSpecSpec)

/-- 'headendlaw6.ListClientsPlayOnce', WHERE WHAT IT READS IS OF BULK AT MOST 1048576: true; the input reads as it did. -/
def listClientsPlayOnceUptoRow : OpenClaim := { program := "ytkfhfjcgegimbaa", sum := "71c79d17a7e77547bcff74bb0edf392052467dbf38650c336d1d6872cc5be520", func := "headend/headendlaw6.ListClientsPlayOnce", spec := "listClientsPlayOnce", unfollowed := true, recurses := true, apart := false, narrowed := true }
def ListClientsPlayOnceUptoSaid : Prop := listClientsPlayOnceUptoRow.holds Try.pinned (OpenSpec.upto listClientsPlayOnceSpec)

end Rows
end Go.Proofs.Ytkfhfjcgegimbaa
