/- What is proved here: what the law of There and StateAt returns on plain data (no statement of the seat). -/
import Derived.Test.YtnkaadiofjoacaaB6
namespace Go.Proofs.Ytnkaadiofjoacaa
open Go Go.RowKit
set_option linter.unusedVariables false
set_option linter.unusedSimpArgs false

namespace M

def encLTm1 (l : List Beat) (q : Int) (x : ByteArray) (t : Int) : List AV := [.sl (l.map eBeat), vI q, vS x, vI t]

def encLTm (a : (List Beat) × Int × ByteArray × Int) : List AV := encLTm1 a.1 a.2.1 a.2.2.1 a.2.2.2

theorem encLTm_inj (a a' : (List Beat) × Int × ByteArray × Int) (h : encLTm a = encLTm a') : a = a' := by
  simp only [encLTm, encLTm1] at h
  try simp [strs_inj, ints_inj, bools_inj, eL_eIs_inj, eBeats_inj, eBeat_iff, eL_eBeats_inj, eSpans_inj, eSpan_iff, eHoles_inj, eHole_iff, eLevels_inj, eLevel_iff, eFigss_inj, eFigs_iff, eRatios_inj, eRatio_iff, eReps_inj, eRep_iff, eStays_inj, eStay_iff] at h
  grind

theorem unLTm (l : List Beat) (q : Int) (x : ByteArray) (t : Int) : unenc encLTm ([AV.sl (List.map eBeat l), (vI q), (vS x), (vI t)]) = some (l, q, x, t) := unenc_of encLTm_inj (l, q, x, t) rfl

def resLTm1 (l : List Beat) (q : Int) (x : ByteArray) (t : Int) : AV × Heap := (vB true, [])

def preLTm1 (l : List Beat) (q : Int) (x : ByteArray) (t : Int) : Bool := true

end M
end Go.Proofs.Ytnkaadiofjoacaa
