/- What is proved here: what the law of There and StateAt returns on plain data (no statement of the seat). -/
import Derived.Test.YthchmcmnodaneaaB6
namespace Go.Proofs.Ythchmcmnodaneaa
open Go Go.RowKit
set_option linter.unusedVariables false
set_option linter.unusedSimpArgs false

namespace M

noncomputable def enLTm : Env := envH ty noG lks [oThr, oRTh, oEqSp, oSta, oRst, oWrk] [] [] []

theorem enLTm_ok : EnvOK Try.prog enLTm := by
  refine envH_ok lks_ok ty_ok ?_ ?_
  · simp only [List.forall_mem_cons]
    exact ⟨okThr, okRTh, okEqSp, okSta, okRst, okWrk, by simp⟩
  · simp

theorem evLTm (l : List Beat) (q : Int) (x : ByteArray) (t : Int) : (runF enLTm false Try.f3 [.sl (l.map eBeat), vI q, vS x, vI t]).val =
    Option.bind (unenc encThr [AV.sl (List.map eBeat l), AV.v (Value.int IntKind.i64 q), AV.v (Value.string x)]) fun (z : List Beat × Int × ByteArray) =>
      Option.bind (unenc encRTh [AV.sl (List.map eBeat l), AV.v (Value.int IntKind.i64 q), AV.v (Value.string x)]) fun (z_1 : List Beat × Int × ByteArray) =>
        bif !(F.there z.fst z.snd.fst z.snd.snd).snd != (F.rthere z_1.fst z_1.snd.fst z_1.snd.snd).snd then
          Option.bind
            (unenc encEqSp [AV.sl (List.map eSpan (F.there z.fst z.snd.fst z.snd.snd).fst), AV.sl (List.map eSpan (F.rthere z_1.fst z_1.snd.fst z_1.snd.snd).fst)])
            fun (z_2 : List Span × List Span) =>
            bif bif (F.there z.fst z.snd.fst z.snd.snd).snd != (F.rthere z_1.fst z_1.snd.fst z_1.snd.snd).snd then true else !F.eqL eqSpan z_2.fst z_2.snd then
              some (AV.v (Value.bool false), [])
            else
              Option.bind (unenc encSta [AV.sl (List.map eBeat l), AV.v (Value.int IntKind.i64 q), AV.v (Value.string x), AV.v (Value.int IntKind.i64 t)])
                fun (z : List Beat × Int × ByteArray × Int) =>
                Option.bind (unenc encRst [AV.sl (List.map eBeat l), AV.v (Value.int IntKind.i64 q), AV.v (Value.string x), AV.v (Value.int IntKind.i64 t)])
                  fun (z_3 : List Beat × Int × ByteArray × Int) =>
                  bif
                      bif
                          bif
                              (F.stateAt z.fst z.snd.fst z.snd.snd.fst z.snd.snd.snd).snd.snd ==
                                (F.rstateAt z_3.fst z_3.snd.fst z_3.snd.snd.fst z_3.snd.snd.snd).snd.snd then
                            ByteArray.toList (F.stateAt z.fst z.snd.fst z.snd.snd.fst z.snd.snd.snd).fst.session ==
                                ByteArray.toList (F.rstateAt z_3.fst z_3.snd.fst z_3.snd.snd.fst z_3.snd.snd.snd).fst.session &&
                              ((F.stateAt z.fst z.snd.fst z.snd.snd.fst z.snd.snd.snd).fst.no ==
                                  (F.rstateAt z_3.fst z_3.snd.fst z_3.snd.snd.fst z_3.snd.snd.snd).fst.no &&
                                ((F.stateAt z.fst z.snd.fst z.snd.snd.fst z.snd.snd.snd).fst.time ==
                                    (F.rstateAt z_3.fst z_3.snd.fst z_3.snd.snd.fst z_3.snd.snd.snd).fst.time &&
                                  ((F.stateAt z.fst z.snd.fst z.snd.snd.fst z.snd.snd.snd).fst.state ==
                                      (F.rstateAt z_3.fst z_3.snd.fst z_3.snd.snd.fst z_3.snd.snd.snd).fst.state &&
                                    ((F.stateAt z.fst z.snd.fst z.snd.snd.fst z.snd.snd.snd).fst.rate ==
                                        (F.rstateAt z_3.fst z_3.snd.fst z_3.snd.snd.fst z_3.snd.snd.snd).fst.rate &&
                                      true))))
                          else false then
                        (F.stateAt z.fst z.snd.fst z.snd.snd.fst z.snd.snd.snd).snd.fst == (F.rstateAt z_3.fst z_3.snd.fst z_3.snd.snd.fst z_3.snd.snd.snd).snd.fst
                      else false then
                    Option.bind (unenc encWrk []) fun (z_4 : Unit) =>
                      some
                        (AV.v
                            (Value.bool
                              (bif
                                  bif
                                      bif
                                          (F.stateAt z.fst z.snd.fst z.snd.snd.fst z.snd.snd.snd).snd.snd ==
                                            (F.rstateAt z_3.fst z_3.snd.fst z_3.snd.snd.fst z_3.snd.snd.snd).snd.snd then
                                        ByteArray.toList (F.stateAt z.fst z.snd.fst z.snd.snd.fst z.snd.snd.snd).fst.session ==
                                            ByteArray.toList (F.rstateAt z_3.fst z_3.snd.fst z_3.snd.snd.fst z_3.snd.snd.snd).fst.session &&
                                          ((F.stateAt z.fst z.snd.fst z.snd.snd.fst z.snd.snd.snd).fst.no ==
                                              (F.rstateAt z_3.fst z_3.snd.fst z_3.snd.snd.fst z_3.snd.snd.snd).fst.no &&
                                            ((F.stateAt z.fst z.snd.fst z.snd.snd.fst z.snd.snd.snd).fst.time ==
                                                (F.rstateAt z_3.fst z_3.snd.fst z_3.snd.snd.fst z_3.snd.snd.snd).fst.time &&
                                              ((F.stateAt z.fst z.snd.fst z.snd.snd.fst z.snd.snd.snd).fst.state ==
                                                  (F.rstateAt z_3.fst z_3.snd.fst z_3.snd.snd.fst z_3.snd.snd.snd).fst.state &&
                                                ((F.stateAt z.fst z.snd.fst z.snd.snd.fst z.snd.snd.snd).fst.rate ==
                                                    (F.rstateAt z_3.fst z_3.snd.fst z_3.snd.snd.fst z_3.snd.snd.snd).fst.rate &&
                                                  true))))
                                      else false then
                                    (F.stateAt z.fst z.snd.fst z.snd.snd.fst z.snd.snd.snd).snd.fst ==
                                      (F.rstateAt z_3.fst z_3.snd.fst z_3.snd.snd.fst z_3.snd.snd.snd).snd.fst
                                  else false then
                                true
                              else false)),
                          [])
                  else some (AV.v (Value.bool false), [])
        else bif !(F.there z.fst z.snd.fst z.snd.snd).snd != (F.rthere z_1.fst z_1.snd.fst z_1.snd.snd).snd then none else some (AV.v (Value.bool false), []) := by kernel_rfl

def encLTm1 (l : List Beat) (q : Int) (x : ByteArray) (t : Int) : List AV := [.sl (l.map eBeat), vI q, vS x, vI t]

def encLTm (a : (List Beat) × Int × ByteArray × Int) : List AV := encLTm1 a.1 a.2.1 a.2.2.1 a.2.2.2

theorem encLTm_inj (a a' : (List Beat) × Int × ByteArray × Int) (h : encLTm a = encLTm a') : a = a' := by
  simp only [encLTm, encLTm1] at h
  try simp [strs_inj, ints_inj, bools_inj, eBeats_inj, eBeat_iff, eSpans_inj, eSpan_iff, eHoles_inj, eHole_iff, eLevels_inj, eLevel_iff, eFigss_inj, eFigs_iff, eRatios_inj, eRatio_iff, eReps_inj, eRep_iff, eStays_inj, eStay_iff] at h
  grind

theorem unLTm (l : List Beat) (q : Int) (x : ByteArray) (t : Int) : unenc encLTm ([AV.sl (List.map eBeat l), AV.v (Value.int IntKind.i64 q), AV.v (Value.string x), AV.v (Value.int IntKind.i64 t)]) = some (l, q, x, t) := unenc_of encLTm_inj (l, q, x, t) rfl

def resLTm1 (l : List Beat) (q : Int) (x : ByteArray) (t : Int) : AV × Heap := (vB true, [])

def preLTm1 (l : List Beat) (q : Int) (x : ByteArray) (t : Int) : Bool := true

noncomputable def oLTm : Orc := orc 3 true encLTm (fun a => preLTm1 a.1 a.2.1 a.2.2.1 a.2.2.2) fun a => resLTm1 a.1 a.2.1 a.2.2.1 a.2.2.2

theorem okLTm : OrcOK Try.prog noG oLTm := by
  refine mk_ok Try.f3 (keep := false) (by kernel_rfl) (by kernel_rfl) enLTm_ok mixed (no_loops (by kernel_rfl)) (by first | exact fun _ _ => ⟨rfl, rfl⟩ | (intro h; cases h)) ?_
  rintro ⟨l, q, x, t⟩ hpre hok
  show (runF enLTm false _ (encLTm1 _ _ _ _)).val = some (resLTm1 _ _ _ _)
  unfold encLTm1 resLTm1
  rw [evLTm]
  simp only [unThr, unRTh, unEqSp, unSta, unRst, unWrk, preThr1, preRTh1, preEqSp1, preSta1, preRst1, preWrk1, etaBeat, etaSpan, etaHole, etaLevel, etaFigs, etaRatio, etaRep, etaStay, Option.bind_some, List.length_map, unStrs, unInts, unBools, unBeats, unSpans, unHoles, unLevels, unFigss, unRatios, unReps, unStays, F.lt, F.le, cond_true, cond_false, Bool.and_true, Bool.true_and, F.there_all, F.stateAt_all, F.eqL_refl eqSpan_refl, bne_self_eq_false, beq_self_eq_true, Bool.not_true, Bool.not_false]

end M
end Go.Proofs.Ythchmcmnodaneaa
