/-
  No cell of these rows narrows 'for every input' (looked for: loops, veiled, ifaces, maps, wideKeys, modest, calm, conditions, laid).
  DERIVED. THE GIVEN ROWS OF THIS SEAT. 3 by the template 'for every input the law returns true; each argument reads behind the call as it read before'; 0 by the template 'total and deterministic' (their statements: YtnkaadiofjoacaaTotals.lean).
  GIVEN WITH THE SEED: the statements are not yours to turn. If you find one false, say at which input.
  Laid BY PROGRAM, IN A SANDBOX (cutbox-rows.mjs): the forced cells as the released guide's own fill.sh prints them over the translation 8f5d9239fc965b69… (all of the seat's roots in one cut). By AI agents, Wed Nov 11 2026. No macro, syntax, notation, axiom, sorry.
-/
import Derived.Test.YtnkaadiofjoacaaChecked
import GoSem.Claim
import GoSem.ClaimJoined
import GoSem.ClaimMapViews
import Derived.JoinedTies
import Derived.KernelRfl
namespace Go.Proofs.Ytnkaadiofjoacaa
/- THE CELL 'sum', in the pinned program and in every row, IS THE sha256 OF THE DUMP (.gsa) THAT YtnkaadiofjoacaaProg.lean LOADS. Nothing in Lean hashes anything: it is a label: what it is worth is what the hold of that sum in a sandbox is worth. -/
noncomputable def Try.pinned : Pinned := { name := "ytnkaadiofjoacaa", sum := "8f5d9239fc965b69d7eb5127a5b32b3cd1ae94ac9b2e96e5265f6b0b3bfc7e4c", checked := Try.checked }
namespace Rows
def none {H : Type} : Left H := { results := [], args := [] }

/-- 'headendlaw12.DeskWatchedAreCounted': WHATEVER THE INPUT: true; the input reads as it did. -/
def deskWatchedAreCountedSpec : ChangeSpec := { name := "deskWatchedAreCounted", fn := fun _ => fun
  | [d1, d2, d3, d4] => { results := [.lit (.bool true)], args := [d1, d2, d3, d4] }
  | _ => none }
def deskWatchedAreCountedRow : OpenClaim := { program := "ytnkaadiofjoacaa", sum := "8f5d9239fc965b69d7eb5127a5b32b3cd1ae94ac9b2e96e5265f6b0b3bfc7e4c", func := "headend/headendlaw12.DeskWatchedAreCounted", spec := "deskWatchedAreCounted", inPlace := ["internal/bytealg.abigen_runtime_cmpstring"], recurses := true, apart := false }
def DeskWatchedAreCountedSaid : Prop := deskWatchedAreCountedRow.holds Try.pinned (OpenSpec.ofChange deskWatchedAreCountedSpec)

/-- ITS FALSE NEIGHBOUR: 'it returns false'. Refute it at one input. -/
def deskWatchedAreCountedWrong : ChangeSpec := { name := "deskWatchedAreCounted", fn := fun _ => fun
  | [d1, d2, d3, d4] => { results := [.lit (.bool false)], args := [d1, d2, d3, d4] }
  | _ => none }
def DeskWatchedAreCountedWrongFalsely : Prop := deskWatchedAreCountedRow.holds Try.pinned (OpenSpec.ofChange deskWatchedAreCountedWrong)

/-- 'headendlaw12.DeskWatchedMatchesSpec': WHATEVER THE INPUT: true; the input reads as it did. -/
def deskWatchedMatchesSpecSpec : ChangeSpec := { name := "deskWatchedMatchesSpec", fn := fun _ => fun
  | [d1, d2, d3] => { results := [.lit (.bool true)], args := [d1, d2, d3] }
  | _ => none }
def deskWatchedMatchesSpecRow : OpenClaim := { program := "ytnkaadiofjoacaa", sum := "8f5d9239fc965b69d7eb5127a5b32b3cd1ae94ac9b2e96e5265f6b0b3bfc7e4c", func := "headend/headendlaw12.DeskWatchedMatchesSpec", spec := "deskWatchedMatchesSpec", inPlace := ["internal/bytealg.abigen_runtime_cmpstring"], recurses := true, apart := false }
def DeskWatchedMatchesSpecSaid : Prop := deskWatchedMatchesSpecRow.holds Try.pinned (OpenSpec.ofChange deskWatchedMatchesSpecSpec)

/-- ITS FALSE NEIGHBOUR: 'it returns false'. Refute it at one input. -/
def deskWatchedMatchesSpecWrong : ChangeSpec := { name := "deskWatchedMatchesSpec", fn := fun _ => fun
  | [d1, d2, d3] => { results := [.lit (.bool false)], args := [d1, d2, d3] }
  | _ => none }
def DeskWatchedMatchesSpecWrongFalsely : Prop := deskWatchedMatchesSpecRow.holds Try.pinned (OpenSpec.ofChange deskWatchedMatchesSpecWrong)

/-- 'headendlaw12.DeskFiguresMatchSpec': WHATEVER THE INPUT: true; the input reads as it did. -/
def deskFiguresMatchSpecSpec : ChangeSpec := { name := "deskFiguresMatchSpec", fn := fun _ => fun
  | [d1, d2, d3, d4] => { results := [.lit (.bool true)], args := [d1, d2, d3, d4] }
  | _ => none }
def deskFiguresMatchSpecRow : OpenClaim := { program := "ytnkaadiofjoacaa", sum := "8f5d9239fc965b69d7eb5127a5b32b3cd1ae94ac9b2e96e5265f6b0b3bfc7e4c", func := "headend/headendlaw12.DeskFiguresMatchSpec", spec := "deskFiguresMatchSpec", inPlace := ["internal/bytealg.abigen_runtime_cmpstring"], unfollowed := true, recurses := true, apart := false }
def DeskFiguresMatchSpecSaid : Prop := deskFiguresMatchSpecRow.holds Try.pinned (OpenSpec.ofChange deskFiguresMatchSpecSpec)

/-- ITS FALSE NEIGHBOUR: 'it returns false'. Refute it at one input. -/
def deskFiguresMatchSpecWrong : ChangeSpec := { name := "deskFiguresMatchSpec", fn := fun _ => fun
  | [d1, d2, d3, d4] => { results := [.lit (.bool false)], args := [d1, d2, d3, d4] }
  | _ => none }
def DeskFiguresMatchSpecWrongFalsely : Prop := deskFiguresMatchSpecRow.holds Try.pinned (OpenSpec.ofChange deskFiguresMatchSpecWrong)

/- THE SECOND FORM. 'bulk': how many values and letters a reading holds, each counted each time it is reached (what is shared counts as often as it is met; a slice's spare places count too). A statement '..UptoSaid' is the law's where the arguments, and the package variables that the reading takes, are together of bulk at most 1048576: NARROWER than '..Said'. Prove '..Said' where nothing that the law and all that it calls make is longer than what came in: it says more and counts as full. Else prove '..UptoSaid'. A law counts once. -/
mutual
def uptoBulk {H : Type} : DataW H → Nat
  | .lit (.string bytes) => bytes.length + 1
  | .lit _ => 1
  | .nil => 1
  | .ptr d => uptoBulk d + 1
  | .slice elems spare => uptoBulkAll elems + uptoBulkAll spare + 1
  | .agg parts => uptoBulkAll parts + 1
  | .iface _ d => uptoBulk d + 1
  | .map entries => uptoBulkEntries entries + 1
  | .held _ => 1
def uptoBulkAll {H : Type} : List (DataW H) → Nat
  | [] => 0
  | d :: r => uptoBulk d + uptoBulkAll r
def uptoBulkEntries {H : Type} : List (Lit × DataW H) → Nat
  | [] => 0
  | x :: r => uptoBulkEntry x + uptoBulkEntries r
def uptoBulkEntry {H : Type} : Lit × DataW H → Nat
  | (.string bytes, d) => bytes.length + uptoBulk d + 1
  | (_, d) => uptoBulk d + 1
 end
def uptoSmall : (H : Type) → List (DataW H) → Bool := fun _ ds => decide (uptoBulkAll ds ≤ 1048576)
def OpenSpec.upto (s : _root_.Go.ChangeSpec) : _root_.Go.OpenSpec := { _root_.Go.OpenSpec.ofChange s with cond := some uptoSmall }

/-- 'headendlaw12.DeskWatchedAreCounted', WHERE WHAT IT READS IS OF BULK AT MOST 1048576: true; the input reads as it did. -/
def deskWatchedAreCountedUptoRow : OpenClaim := { program := "ytnkaadiofjoacaa", sum := "8f5d9239fc965b69d7eb5127a5b32b3cd1ae94ac9b2e96e5265f6b0b3bfc7e4c", func := "headend/headendlaw12.DeskWatchedAreCounted", spec := "deskWatchedAreCounted", inPlace := ["internal/bytealg.abigen_runtime_cmpstring"], recurses := true, apart := false, narrowed := true }
def DeskWatchedAreCountedUptoSaid : Prop := deskWatchedAreCountedUptoRow.holds Try.pinned (OpenSpec.upto deskWatchedAreCountedSpec)

/-- 'headendlaw12.DeskWatchedMatchesSpec', WHERE WHAT IT READS IS OF BULK AT MOST 1048576: true; the input reads as it did. -/
def deskWatchedMatchesSpecUptoRow : OpenClaim := { program := "ytnkaadiofjoacaa", sum := "8f5d9239fc965b69d7eb5127a5b32b3cd1ae94ac9b2e96e5265f6b0b3bfc7e4c", func := "headend/headendlaw12.DeskWatchedMatchesSpec", spec := "deskWatchedMatchesSpec", inPlace := ["internal/bytealg.abigen_runtime_cmpstring"], recurses := true, apart := false, narrowed := true }
def DeskWatchedMatchesSpecUptoSaid : Prop := deskWatchedMatchesSpecUptoRow.holds Try.pinned (OpenSpec.upto deskWatchedMatchesSpecSpec)

/-- 'headendlaw12.DeskFiguresMatchSpec', WHERE WHAT IT READS IS OF BULK AT MOST 1048576: true; the input reads as it did. -/
def deskFiguresMatchSpecUptoRow : OpenClaim := { program := "ytnkaadiofjoacaa", sum := "8f5d9239fc965b69d7eb5127a5b32b3cd1ae94ac9b2e96e5265f6b0b3bfc7e4c", func := "headend/headendlaw12.DeskFiguresMatchSpec", spec := "deskFiguresMatchSpec", inPlace := ["internal/bytealg.abigen_runtime_cmpstring"], unfollowed := true, recurses := true, apart := false, narrowed := true }
def DeskFiguresMatchSpecUptoSaid : Prop := deskFiguresMatchSpecUptoRow.holds Try.pinned (OpenSpec.upto deskFiguresMatchSpecSpec)

end Rows
end Go.Proofs.Ytnkaadiofjoacaa
