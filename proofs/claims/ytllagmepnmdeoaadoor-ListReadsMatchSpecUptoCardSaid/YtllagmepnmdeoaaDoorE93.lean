/- What is proved here: Read is as specified for any string, with the lines of errors. -/
import Derived.Test.YtllagmepnmdeoaaDoorE92
import Derived.Test.YtllagmepnmdeoaaDoorE29
namespace Go.Proofs.YtllagmepnmdeoaaDoor
open Go Go.RowKit
set_option linter.unusedVariables false
set_option linter.unusedSimpArgs false

namespace M


noncomputable def enRRe : Env := envH ty noG lks [oRrd] [] [] []

theorem enRRe_ok : EnvOK Tryd.prog enRRe := by
  refine envH_ok lks_ok ty_ok ?_ ?_
  · simp only [List.forall_mem_cons]
    exact ⟨okRrd, by simp⟩
  · simp

theorem evRRe (s : ByteArray) : (runF enRRe false Tryd.f6 [vS s]).val =
  Option.bind (unenc encRrd [(vS s), (vB false)]) fun (z : ByteArray × Bool) => some (AV.tup [AV.agg [(vI (F.rrT z.fst z.snd).fst.target), (vI (F.rrT z.fst
  z.snd).fst.first), (vI (F.rrT z.fst z.snd).fst.breaks), AV.sl (List.map eEnt (F.rrT z.fst z.snd).fst.entries), (vB (F.rrT z.fst z.snd).fst.ended)], (vI (F.rrT z.fst
  z.snd).snd.snd.fst), (vI (F.rrT z.fst z.snd).snd.snd.snd)], []) := (runFR_val).symm.trans (by kernel_rfl)

def encRRe1 (s : ByteArray) : List AV := [vS s]

def encRRe (a : ByteArray) : List AV := encRRe1 a

theorem encRRe_inj (a a' : ByteArray) (h : encRRe a = encRRe a') : a = a' := by
  simp only [encRRe, encRRe1] at h
  try simp [strs_inj, ints_inj, ents_inj, eEnt_iff, eLst_iff, eSnds_inj, eStrms_inj] at h
  grind

theorem unRRe (s : ByteArray) : unenc encRRe ([(vS s)]) = some (s) := unenc_of encRRe_inj (s) rfl

def resRRe1 (s : ByteArray) : AV × Heap := (.tup [.agg (eLst (F.rrT s false).1), vI (F.rrT s false).2.2.1, vI (F.rrT s false).2.2.2], [])

def preRRe1 (s : ByteArray) : Bool := true

noncomputable def oRRe : Orc := orc 6 false encRRe (fun a => preRRe1 a) fun a => resRRe1 a

theorem okRRe : OrcOK Tryd.prog noG oRRe := by
  refine mk_ok Tryd.f6 (keep := false) (by kernel_rfl) (by kernel_rfl) enRRe_ok mixed (no_loops (by kernel_rfl)) (by first | exact fun _ _ => ⟨rfl, rfl⟩ | (intro h; cases h)) ?_
  rintro s hpre hok
  show (runF enRRe false _ (encRRe1 _)).val = some (resRRe1 _)
  unfold encRRe1 resRRe1
  rw [evRRe]
  simp only [unRrd, preRrd1, etaEnt, etaLst, etaSnd, etaStrm, etaMas, Option.bind_some, List.length_map, unStrs, unInts, unBools, unEnts, unItms, unTrns, cond_true, cond_false, Bool.and_true, Bool.true_and]
  rfl

noncomputable def enLRM : Env := envH ty noG lks [oRea, oRRe, oSmL, oAwk] [] [] []

theorem enLRM_ok : EnvOK Tryd.prog enLRM := by
  refine envH_ok lks_ok ty_ok ?_ ?_
  · simp only [List.forall_mem_cons]
    exact ⟨okRea, okRRe, okSmL, okAwk, by simp⟩
  · simp

theorem evLRM (s : ByteArray) : (runF enLRM false Tryd.f3 [vS s]).val =
  Option.bind (unenc encRea [(vS s)]) fun (z : ByteArray) => Option.bind (unenc encRRe [(vS s)]) fun (z_1 : ByteArray) => Option.bind (unenc encSmL [AV.agg [(vI (F.rdT
  z).fst.target), (vI (F.rdT z).fst.first), (vI (F.rdT z).fst.breaks), AV.sl (List.map eEnt (F.rdT z).fst.entries), (vB (F.rdT z).fst.ended)], AV.agg [(vI (F.rrT z_1
  false).fst.target), (vI (F.rrT z_1 false).fst.first), (vI (F.rrT z_1 false).fst.breaks), AV.sl (List.map eEnt (F.rrT z_1 false).fst.entries), (vB (F.rrT z_1
  false).fst.ended)]]) fun (z_2 : Lst × Lst) => bif bif bif F.sameL z_2.fst z_2.snd then (F.rdT z).snd.fst == (F.rrT z_1 false).snd.snd.fst else false then (F.rdT z).snd.snd
  == (F.rrT z_1 false).snd.snd.snd else false then Option.bind (unenc encAwk []) fun (z : Unit) => some ((vB true), []) else some ((vB false), []) := (runFR_val).symm.trans (by kernel_rfl)

def encLRM1 (s : ByteArray) : List AV := [vS s]

def encLRM (a : ByteArray) : List AV := encLRM1 a

theorem encLRM_inj (a a' : ByteArray) (h : encLRM a = encLRM a') : a = a' := by
  simp only [encLRM, encLRM1] at h
  try simp [strs_inj, ints_inj, ents_inj, eEnt_iff, eLst_iff, eSnds_inj, eStrms_inj] at h
  grind

theorem unLRM (s : ByteArray) : unenc encLRM ([(vS s)]) = some (s) := unenc_of encLRM_inj (s) rfl

def resLRM1 (s : ByteArray) : AV × Heap := (vB true, [])

def preLRM1 (s : ByteArray) : Bool := true

noncomputable def oLRM : Orc := orc 3 true encLRM (fun a => preLRM1 a) fun a => resLRM1 a

theorem okLRM : OrcOK Tryd.prog noG oLRM := by
  refine mk_ok Tryd.f3 (keep := false) (by kernel_rfl) (by kernel_rfl) enLRM_ok mixed (no_loops (by kernel_rfl)) (by first | exact fun _ _ => ⟨rfl, rfl⟩ | (intro h; cases h)) ?_
  rintro s hpre hok
  show (runF enLRM false _ (encLRM1 _)).val = some (resLRM1 _)
  unfold encLRM1 resLRM1
  rw [evLRM]
  obtain ⟨h1, h2, h3⟩ := F.rd_rr s
  simp only [unRea, unRRe, unSmL, unAwk, unSmLw, preRea1, preRRe1, preSmL1, preAwk1, etaEnt, etaLst, etaSnd, etaStrm, etaMas, Option.bind_some, List.length_map, unStrs, unInts, unBools, unEnts, unItms, unTrns, cond_true, cond_false, Bool.and_true, Bool.true_and]
  rw [h1, h2, h3, F.sameL_refl, beq_self_eq_true, beq_self_eq_true]
  rfl

end M
end Go.Proofs.YtllagmepnmdeoaaDoor
