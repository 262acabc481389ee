/- What is proved here: characters of captions, and how fast they are, of both (no statement of the seat). -/
import Derived.Test.YtlnflhmepnbcmaaDoorC9
namespace Go.Proofs.YtlnflhmepnbcmaaDoor
open Go Go.RowKit
set_option linter.unusedVariables false
set_option linter.unusedSimpArgs false

/-- The characters of lines. -/
def F.chF (a : Int) (ls : List ByteArray) : Int := ls.foldl (fun a s => IntKind.i64.wrap (a + F.runes s)) a

namespace M

noncomputable def enRCh : Env := envH ty noG lks [oRun] [] [] []

theorem enRCh_ok : EnvOK Tryd.prog enRCh := by
  refine envH_ok lks_ok ty_ok ?_ ?_
  · simp only [List.forall_mem_cons]
    exact ⟨okRun, by simp⟩
  · simp

theorem evRCh (s : ByteArray) : (runF enRCh false Tryd.f66 [vS s]).val =
  Option.bind (unenc encRun [(vS s)]) fun (z : ByteArray) => bif decide (ByteArray.size z ≤ (4294967280 : Nat)) then some ((vI (F.runes z)), []) else none := by kernel_rfl

def encRCh1 (s : ByteArray) : List AV := [vS s]

def encRCh (a : ByteArray) : List AV := encRCh1 a

theorem encRCh_inj (a a' : ByteArray) (h : encRCh a = encRCh a') : a = a' := by
  simp only [encRCh, encRCh1] at h
  try simp [strs_inj, ints_inj, bools_inj, eL_eIs_inj, eCaps_inj, eCap_iff, eL_eCaps_inj, eMchs_inj, eMch_iff, eWrds_inj, eWrd_iff, eFnds_inj, eFnd_iff, eRatios_inj, eRatio_iff, eWays_inj, eWay_iff] at h
  grind

theorem unRCh (s : ByteArray) : unenc encRCh ([(vS s)]) = some (s) := unenc_of encRCh_inj (s) rfl

def resRCh1 (s : ByteArray) : AV × Heap := (vI (F.runes s), [])

def preRCh1 (s : ByteArray) : Bool := decide (s.size ≤ 4294967280)

noncomputable def oRCh : Orc := orc 66 true encRCh (fun a => preRCh1 a) fun a => resRCh1 a

theorem okRCh : OrcOK Tryd.prog noG oRCh := by
  refine mk_ok Tryd.f66 (keep := false) (by kernel_rfl) (by kernel_rfl) enRCh_ok mixed (no_loops (by kernel_rfl)) (by first | exact fun _ _ => ⟨rfl, rfl⟩ | (intro h; cases h)) ?_
  rintro s hpre hok
  show (runF enRCh false _ (encRCh1 _)).val = some (resRCh1 _)
  unfold encRCh1 resRCh1
  rw [evRCh]
  simp only [preRCh1] at hpre
  simp only [unRun, preRun1, etaCap, etaMch, etaWrd, etaFnd, etaRatio, etaWay, Option.bind_some, List.length_map, unStrs, unInts, unBools, uneL_eIs, unCaps, uneL_eCaps, unMchs, unWrds, unFnds, unRatios, unWays, F.lt, F.le, cond_true, cond_false, Bool.and_true, Bool.true_and, hpre]

def stChs (ls : List ByteArray) (a : Int) (k : Nat) : St := ⟨[(9, vI k), (8, vI ls.length), (7, .sl (ls.map eStr)), (3, vI a)], []⟩

def stChs1 (a : (List ByteArray) × Int × Nat) : St := stChs a.1 a.2.1 a.2.2

theorem stChs_inj (a a' : (List ByteArray) × Int × Nat) (h : stChs1 a = stChs1 a') : a = a' := by
  simp only [stChs1, stChs] at h
  try simp [strs_inj, ints_inj, bools_inj, eL_eIs_inj, eCaps_inj, eCap_iff, eL_eCaps_inj, eMchs_inj, eMch_iff, eWrds_inj, eWrd_iff, eFnds_inj, eFnd_iff, eRatios_inj, eRatio_iff, eWays_inj, eWay_iff] at h
  grind

theorem unstChs (ls : List ByteArray) (a : Int) (k : Nat) : unenc stChs1 (St.mk [(9, (vI (↑k : Int))), (8, (vI (↑(List.length ls) : Int))), (7, AV.sl (List.map eStr ls)), (3, (vI a))] []) = some (ls, a, k) := unenc_of stChs_inj (ls, a, k) rfl

theorem unstChs0 (ls : List ByteArray)  : unenc stChs1 (St.mk [(9, (vI (0 : Int))), (8, (vI (↑(List.length ls) : Int))), (7, AV.sl (List.map eStr ls)), (3, (vI (0 : Int)))] []) = some (ls, 0, 0) := unenc_of stChs_inj (ls, 0, 0) rfl

def outChs (ls : List ByteArray) (a : Int) (k : Nat) : T (Ex × St) := .ret (.exit 0, ⟨[(3, vI (F.chF a (ls.drop k)))], []⟩)

noncomputable def prlChs (ls : List ByteArray) (a : Int) (k : Nat) : Bool := decide (ls.length ≤ 9223372036854775807) && decide (k ≤ ls.length) && F.smL ls

noncomputable def lpChs : Nat × (St → T (Ex × St)) := (3, lpo [9, 8, 7, 3] [] stChs1 (fun a => prlChs a.1 a.2.1 a.2.2) fun a => outChs a.1 a.2.1 a.2.2)

noncomputable def enChs : Env := envH ty noG lks [oRun] [] [] [lpChs]

theorem enChs_ok : EnvOK Tryd.prog enChs := by
  refine envH_ok lks_ok ty_ok ?_ ?_
  · simp only [List.forall_mem_cons]
    exact ⟨okRun, by simp⟩
  · simp

theorem cap_lines {c : Cap} (h : OkA (.agg (eCap c))) : c.lines.length ≤ 9223372036854775807 := by
  have h := okA_agg h
  simp only [eCap, List.forall_mem_cons] at h
  simpa using (okA_sl h.2.2.1).1

def encChs1 (c : Cap) : List AV := [.agg (eCap c)]

def encChs (a : Cap) : List AV := encChs1 a

theorem encChs_inj (a a' : Cap) (h : encChs a = encChs a') : a = a' := by
  simp only [encChs, encChs1] at h
  try simp [strs_inj, ints_inj, bools_inj, eL_eIs_inj, eCaps_inj, eCap_iff, eL_eCaps_inj, eMchs_inj, eMch_iff, eWrds_inj, eWrd_iff, eFnds_inj, eFnd_iff, eRatios_inj, eRatio_iff, eWays_inj, eWay_iff] at h
  grind

theorem unChs (c : Cap) : unenc encChs ([AV.agg [(vI c.fr), (vI c.to), AV.sl (List.map eStr c.lines), (vI c.row), (vB c.bef), (vB c.aft)]]) = some (c) := unenc_of encChs_inj (c) rfl

theorem unChsw (c_fr : Int) (c_to : Int) (c_lines : List ByteArray) (c_row : Int) (c_bef : Bool) (c_aft : Bool) : unenc encChs ([AV.agg [(vI c_fr), (vI c_to), AV.sl (List.map eStr c_lines), (vI c_row), (vB c_bef), (vB c_aft)]]) = some ((Cap.mk c_fr c_to c_lines c_row c_bef c_aft)) := unenc_of encChs_inj ((Cap.mk c_fr c_to c_lines c_row c_bef c_aft)) rfl

def resChs1 (c : Cap) : AV × Heap := (vI (F.chF 0 c.lines), [])

def preChs1 (c : Cap) : Bool := F.smL c.lines

def stRd (ls : List ByteArray) (a : Int) (k : Nat) : St := ⟨[(9, vI k), (8, vI ls.length), (7, .sl (ls.map eStr)), (3, vI a)], []⟩

def stRd1 (a : (List ByteArray) × Int × Nat) : St := stRd a.1 a.2.1 a.2.2

theorem stRd_inj (a a' : (List ByteArray) × Int × Nat) (h : stRd1 a = stRd1 a') : a = a' := by
  simp only [stRd1, stRd] at h
  try simp [strs_inj, ints_inj, bools_inj, eL_eIs_inj, eCaps_inj, eCap_iff, eL_eCaps_inj, eMchs_inj, eMch_iff, eWrds_inj, eWrd_iff, eFnds_inj, eFnd_iff, eRatios_inj, eRatio_iff, eWays_inj, eWay_iff] at h
  grind

theorem unstRd (ls : List ByteArray) (a : Int) (k : Nat) : unenc stRd1 (St.mk [(9, (vI (↑k : Int))), (8, (vI (↑(List.length ls) : Int))), (7, AV.sl (List.map eStr ls)), (3, (vI a))] []) = some (ls, a, k) := unenc_of stRd_inj (ls, a, k) rfl

theorem unstRd0 (ls : List ByteArray)  : unenc stRd1 (St.mk [(9, (vI (0 : Int))), (8, (vI (↑(List.length ls) : Int))), (7, AV.sl (List.map eStr ls)), (3, (vI (0 : Int)))] []) = some (ls, 0, 0) := unenc_of stRd_inj (ls, 0, 0) rfl

def outRd (ls : List ByteArray) (a : Int) (k : Nat) : T (Ex × St) := .ret (.exit 0, ⟨[(3, vI (F.chF a (ls.drop k)))], []⟩)

noncomputable def prlRd (ls : List ByteArray) (a : Int) (k : Nat) : Bool := decide (ls.length ≤ 9223372036854775807) && decide (k ≤ ls.length) && F.smL ls

noncomputable def lpRd : Nat × (St → T (Ex × St)) := (3, lpo [9, 8, 7, 3] [] stRd1 (fun a => prlRd a.1 a.2.1 a.2.2) fun a => outRd a.1 a.2.1 a.2.2)

noncomputable def enRd : Env := envH ty noG lks [oRCh] [] [] [lpRd]

theorem enRd_ok : EnvOK Tryd.prog enRd := by
  refine envH_ok lks_ok ty_ok ?_ ?_
  · simp only [List.forall_mem_cons]
    exact ⟨okRCh, by simp⟩
  · simp

def encRd1 (c : Cap) : List AV := [.agg (eCap c)]

def encRd (a : Cap) : List AV := encRd1 a

theorem encRd_inj (a a' : Cap) (h : encRd a = encRd a') : a = a' := by
  simp only [encRd, encRd1] at h
  try simp [strs_inj, ints_inj, bools_inj, eL_eIs_inj, eCaps_inj, eCap_iff, eL_eCaps_inj, eMchs_inj, eMch_iff, eWrds_inj, eWrd_iff, eFnds_inj, eFnd_iff, eRatios_inj, eRatio_iff, eWays_inj, eWay_iff] at h
  grind

theorem unRd (c : Cap) : unenc encRd ([AV.agg [(vI c.fr), (vI c.to), AV.sl (List.map eStr c.lines), (vI c.row), (vB c.bef), (vB c.aft)]]) = some (c) := unenc_of encRd_inj (c) rfl

theorem unRdw (c_fr : Int) (c_to : Int) (c_lines : List ByteArray) (c_row : Int) (c_bef : Bool) (c_aft : Bool) : unenc encRd ([AV.agg [(vI c_fr), (vI c_to), AV.sl (List.map eStr c_lines), (vI c_row), (vB c_bef), (vB c_aft)]]) = some ((Cap.mk c_fr c_to c_lines c_row c_bef c_aft)) := unenc_of encRd_inj ((Cap.mk c_fr c_to c_lines c_row c_bef c_aft)) rfl

def resRd1 (c : Cap) : AV × Heap := (vI (F.chF 0 c.lines), [])

def preRd1 (c : Cap) : Bool := F.smL c.lines

end M
end Go.Proofs.YtlnflhmepnbcmaaDoor
