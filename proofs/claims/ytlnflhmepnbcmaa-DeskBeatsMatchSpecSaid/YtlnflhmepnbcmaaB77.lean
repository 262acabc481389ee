/- What is proved here: the law DeskBeatsMatchSpec on plain data (no statement of the seat). -/
import Derived.Test.YtlnflhmepnbcmaaB75
import Derived.Test.YtlnflhmepnbcmaaB76
namespace Go.Proofs.Ytlnflhmepnbcmaa
open Go Go.RowKit
set_option linter.unusedVariables false
set_option linter.unusedSimpArgs false

namespace M

noncomputable def enLBs : Env := envH ty noG lks [oMb, oRm, oChb, oRhb, oEqBe, oMs, oRMs, oEqHo, oWk] [] [] []

theorem enLBs_ok : EnvOK Try.prog enLBs := by
  refine envH_ok lks_ok ty_ok ?_ ?_
  · simp only [List.forall_mem_cons]
    exact ⟨okMb, okRm, okChb, okRhb, okEqBe, okMs, okRMs, okEqHo, okWk, by simp⟩
  · simp

theorem evLBs (a : List Beat) (b : List Beat) : (runF enLBs false Try.f3 [.sl (a.map eBeat), .sl (b.map eBeat)]).val =
  Option.bind (unenc encMb [AV.sl (List.map eBeat a), AV.sl (List.map eBeat b)]) fun (z : List Beat × List Beat) => Option.bind (unenc encRm [AV.sl (List.map eBeat a), AV.sl
  (List.map eBeat b)]) fun (z_1 : List Beat × List Beat) => Option.bind (unenc encChb [AV.sl (List.map eBeat a)]) fun (z_2 : List Beat) => Option.bind (unenc encRhb [AV.sl
  (List.map eBeat a)]) fun (z_3 : List Beat) => bif !bif F.checkB z_2 != F.checkB z_3 then true else (F.mergeB z.fst z.snd).snd != (F.mergeR z_1.fst z_1.snd).snd then
  Option.bind (unenc encEqBe [AV.sl (List.map eBeat (F.mergeB z.fst z.snd).fst), AV.sl (List.map eBeat (F.mergeR z_1.fst z_1.snd).fst)]) fun (z : List Beat × List Beat) =>
  bif !F.eqL eqBeat z.fst z.snd then some ((vB false), []) else Option.bind (unenc encMs [AV.sl (List.map eBeat a)]) fun (z : List Beat) => Option.bind (unenc encRMs [AV.sl
  (List.map eBeat a)]) fun (z_4 : List Beat) => bif (F.missing z).snd == (F.missing z_4).snd then Option.bind (unenc encEqHo [AV.sl (List.map eHole (F.missing z).fst), AV.sl
  (List.map eHole (F.missing z_4).fst)]) fun (z : List Hole × List Hole) => bif F.eqL eqHole z.fst z.snd then Option.bind (unenc encWk []) fun (z : Unit) => some ((vB true),
  []) else some ((vB false), []) else some ((vB false), []) else some ((vB false), []) := (runFR_val).symm.trans (by kernel_rfl)

def encLBs1 (a : List Beat) (b : List Beat) : List AV := [.sl (a.map eBeat), .sl (b.map eBeat)]

def encLBs (a : (List Beat) × (List Beat)) : List AV := encLBs1 a.1 a.2

theorem encLBs_inj (a a' : (List Beat) × (List Beat)) (h : encLBs a = encLBs a') : a = a' := by
  simp only [encLBs, encLBs1] at h
  try simp [strs_inj, ints_inj, bools_inj, eBeats_inj, eBeat_iff, eL_eBeats_inj, eSpans_inj, eSpan_iff, eHoles_inj, eHole_iff, eLevels_inj, eLevel_iff, eFigss_inj, eFigs_iff, eRatios_inj, eRatio_iff, eReps_inj, eRep_iff, eStays_inj, eStay_iff] at h
  grind

theorem unLBs (a : List Beat) (b : List Beat) : unenc encLBs ([AV.sl (List.map eBeat a), AV.sl (List.map eBeat b)]) = some (a, b) := unenc_of encLBs_inj (a, b) rfl

def resLBs1 (a : List Beat) (b : List Beat) : AV × Heap := (vB true, [])

def preLBs1 (a : List Beat) (b : List Beat) : Bool := true

noncomputable def oLBs : Orc := orc 3 false encLBs (fun a => preLBs1 a.1 a.2) fun a => resLBs1 a.1 a.2

theorem okLBs : OrcOK Try.prog noG oLBs := by
  refine mk_ok Try.f3 (keep := false) (by kernel_rfl) (by kernel_rfl) enLBs_ok mixed (no_loops (by kernel_rfl)) (by first | exact fun _ _ => ⟨rfl, rfl⟩ | (intro h; cases h)) ?_
  rintro ⟨a, b⟩ hpre hok
  show (runF enLBs false _ (encLBs1 _ _)).val = some (resLBs1 _ _)
  unfold encLBs1 resLBs1
  rw [evLBs]
  simp only [unMb, unRm, unChb, unRhb, unEqBe, unMs, unRMs, unEqHo, unWk, preMb1, preRm1, preChb1, preRhb1, preEqBe1, preMs1, preRMs1, preEqHo1, preWk1, etaBeat, etaSpan, etaHole, etaLevel, etaFigs, etaRatio, etaRep, etaStay, Option.bind_some, List.length_map, unStrs, unInts, unBools, unBeats, uneL_eBeats, unSpans, unHoles, unLevels, unFigss, unRatios, unReps, unStays, F.lt, F.le, cond_true, cond_false, Bool.and_true, Bool.true_and, F.merge_eq, bne_self_eq_false, beq_self_eq_true, F.eqL_refl eqBeat_refl, F.eqL_refl eqHole_refl, Bool.not_true, Bool.not_false]

end M
end Go.Proofs.Ytlnflhmepnbcmaa
