/- What is proved here: the law DeskBeatsMergeInAnyOrder on plain data (no statement of the seat). -/
import Derived.Test.YtlnflhmepnbcmaaB75
import Derived.Test.YtlnflhmepnbcmaaB81
namespace Go.Proofs.Ytlnflhmepnbcmaa
open Go Go.RowKit
set_option linter.unusedVariables false
set_option linter.unusedSimpArgs false

namespace F

theorem clash_comm {a b : List Beat} (h : Clash (a ++ b)) : Clash (b ++ a) := by
  obtain ⟨x, y, hx, hy, h3⟩ := h
  exact ⟨x, y, List.mem_append.2 (List.mem_append.1 hx).symm, List.mem_append.2 (List.mem_append.1 hy).symm, h3⟩

theorem merge_comm {a b : List Beat} (h1 : checkB a = 0) (h2 : checkB b = 0) : mergeB b a = mergeB a b := by
  unfold mergeB
  rw [M.bne0 h1, M.bne0 h2]
  simp only [cond_false]
  unfold merge2
  cases h : clL (both a b)
  · have h' : clL (both b a) = false := by
      cases h' : clL (both b a)
      · rfl
      · rw [both_clash.2 (clash_comm (both_clash.1 h'))] at h; cases h
    have e : both b a = both a b := SS.uniq (both_ss h') (both_ss h) fun z => by rw [both_mem, both_mem, or_comm]
    rw [h', e]
  · rw [both_clash.2 (clash_comm (both_clash.1 h))]; rfl

theorem merge_bad {a b : List Beat} (h : (mergeB a b).2 ≠ 0) : (mergeB a b).1 = [] := by
  revert h
  unfold mergeB merge2
  cases checkB a != 0
  · cases checkB b != 0
    · cases clL (both a b)
      · cases checkB (both a b) != 0
        · intro h; exact absurd rfl h
        · intro _; rfl
      · intro _; rfl
    · intro _; rfl
  · intro _; rfl

theorem merge_again {a b : List Beat} (h1 : checkB a = 0) (h2 : checkB b = 0) (h : (mergeB a b).2 = 0) : mergeB (mergeB a b).1 b = ((mergeB a b).1, 0) := by
  have e : mergeB a b = merge2 (both a b) := by
    unfold mergeB; rw [M.bne0 h1, M.bne0 h2]; rfl
  rw [e] at h ⊢
  unfold merge2 at h ⊢
  cases hc : clL (both a b)
  · rw [hc] at h
    simp only [cond_false] at h ⊢
    by_cases hx : checkB (both a b) = 0
    · rw [M.bne0 hx]
      simp only [cond_false]
      unfold mergeB
      rw [M.bne0 hx, M.bne0 h2]
      simp only [cond_false]
      have hnc : clL (both (both a b) b) = false := by
        cases h' : clL (both (both a b) b)
        · rfl
        · obtain ⟨x, y, hx', hy', h3⟩ := both_clash.1 h'
          have key : ∀ z, z ∈ both a b ++ b → z ∈ a ++ b := fun z hz => by
            rcases List.mem_append.1 hz with hz | hz
            · exact List.mem_append.2 (both_mem.1 hz)
            · exact List.mem_append.2 (.inr hz)
          rw [both_clash.2 ⟨x, y, key x hx', key y hy', h3⟩] at hc
          cases hc
      have e2 : both (both a b) b = both a b := SS.uniq (both_ss hnc) (both_ss hc) fun z => by
        rw [both_mem, both_mem]
        constructor
        · rintro (h | h)
          · exact h
          · exact .inr h
        · exact .inl
      unfold merge2
      rw [e2, hc, M.bne0 hx]
      rfl
    · rw [M.bne1 hx] at h; exact absurd h hx
  · rw [hc] at h; cases h

end F

namespace M

noncomputable def enLMo : Env := envH ty noG lks [oRhb, oMb, oEqBe, oWrk, oRp] [] [] []

theorem enLMo_ok : EnvOK Try.prog enLMo := by
  refine envH_ok lks_ok ty_ok ?_ ?_
  · simp only [List.forall_mem_cons]
    exact ⟨okRhb, okMb, okEqBe, okWrk, okRp, by simp⟩
  · simp

theorem evLMo (a : List Beat) (b : List Beat) (q : Int) (w : Span) : (runF enLMo false Try.f4 [.sl (a.map eBeat), .sl (b.map eBeat), vI q, .agg (eSpan w)]).val =
  Option.bind (unenc encRhb [AV.sl (List.map eBeat a)]) fun (z : List Beat) => bif !F.checkB z != (0 : Int) then Option.bind (unenc encRhb [AV.sl (List.map eBeat b)]) fun (z
  : List Beat) => bif F.checkB z != (0 : Int) then Option.bind (unenc encWrk []) fun (z : Unit) => some ((vB true), []) else Option.bind (unenc encMb [AV.sl (List.map eBeat
  a), AV.sl (List.map eBeat b)]) fun (z : List Beat × List Beat) => Option.bind (unenc encMb [AV.sl (List.map eBeat b), AV.sl (List.map eBeat a)]) fun (z_1 : List Beat ×
  List Beat) => bif !(F.mergeB z.fst z.snd).snd != (F.mergeB z_1.fst z_1.snd).snd then Option.bind (unenc encEqBe [AV.sl (List.map eBeat (F.mergeB z.fst z.snd).fst), AV.sl
  (List.map eBeat (F.mergeB z_1.fst z_1.snd).fst)]) fun (z_2 : List Beat × List Beat) => bif !!F.eqL eqBeat z_2.fst z_2.snd then Option.bind (unenc encWrk []) fun (z_3 :
  Unit) => bif (F.mergeB z.fst z.snd).snd != (0 : Int) then some ((vB ((↑(List.length (List.map eBeat (F.mergeB z.fst z.snd).fst)) : Int) == (0 : Int))), []) else
  Option.bind (unenc encMb [AV.sl (List.map eBeat (F.mergeB z.fst z.snd).fst), AV.sl (List.map eBeat b)]) fun (z_4 : List Beat × List Beat) => bif !(F.mergeB z_4.fst
  z_4.snd).snd != (0 : Int) then Option.bind (unenc encEqBe [AV.sl (List.map eBeat (F.mergeB z.fst z.snd).fst), AV.sl (List.map eBeat (F.mergeB z_4.fst z_4.snd).fst)]) fun
  (z_5 : List Beat × List Beat) => bif !F.eqL eqBeat z_5.fst z_5.snd then some ((vB false), []) else Option.bind (unenc encRp [AV.sl (List.map eBeat (F.mergeB z.fst
  z.snd).fst), (vI q), AV.agg [(vI w.fr), (vI w.to)]]) fun (z : List Beat × Int × Span) => Option.bind (unenc encRp [AV.sl (List.map eBeat (F.mergeB z_1.fst z_1.snd).fst),
  (vI q), AV.agg [(vI w.fr), (vI w.to)]]) fun (z_6 : List Beat × Int × Span) => some ((vB (bif (F.report z.fst z.snd.fst z.snd.snd).snd == (F.report z_6.fst z_6.snd.fst
  z_6.snd.snd).snd then (F.report z.fst z.snd.fst z.snd.snd).fst.sessions == (F.report z_6.fst z_6.snd.fst z_6.snd.snd).fst.sessions && ((F.report z.fst z.snd.fst
  z.snd.snd).fst.failed == (F.report z_6.fst z_6.snd.fst z_6.snd.snd).fst.failed && ((F.report z.fst z.snd.fst z.snd.snd).fst.w50 == (F.report z_6.fst z_6.snd.fst
  z_6.snd.snd).fst.w50 && ((F.report z.fst z.snd.fst z.snd.snd).fst.w95 == (F.report z_6.fst z_6.snd.fst z_6.snd.snd).fst.w95 && ((F.report z.fst z.snd.fst
  z.snd.snd).fst.stalled.num == (F.report z_6.fst z_6.snd.fst z_6.snd.snd).fst.stalled.num && ((F.report z.fst z.snd.fst z.snd.snd).fst.stalled.den == (F.report z_6.fst
  z_6.snd.fst z_6.snd.snd).fst.stalled.den && ((F.report z.fst z.snd.fst z.snd.snd).fst.mean.num == (F.report z_6.fst z_6.snd.fst z_6.snd.snd).fst.mean.num && ((F.report
  z.fst z.snd.fst z.snd.snd).fst.mean.den == (F.report z_6.fst z_6.snd.fst z_6.snd.snd).fst.mean.den && true))))))) else false)), []) else some ((vB false), []) else some
  ((vB false), []) else some ((vB false), []) else Option.bind (unenc encWrk []) fun (z : Unit) => some ((vB true), []) := (runFR_val).symm.trans (by kernel_rfl)

def encLMo1 (a : List Beat) (b : List Beat) (q : Int) (w : Span) : List AV := [.sl (a.map eBeat), .sl (b.map eBeat), vI q, .agg (eSpan w)]

def encLMo (a : (List Beat) × (List Beat) × Int × Span) : List AV := encLMo1 a.1 a.2.1 a.2.2.1 a.2.2.2

theorem encLMo_inj (a a' : (List Beat) × (List Beat) × Int × Span) (h : encLMo a = encLMo a') : a = a' := by
  simp only [encLMo, encLMo1] at h
  try simp [strs_inj, ints_inj, bools_inj, eBeats_inj, eBeat_iff, eL_eBeats_inj, eSpans_inj, eSpan_iff, eHoles_inj, eHole_iff, eLevels_inj, eLevel_iff, eFigss_inj, eFigs_iff, eRatios_inj, eRatio_iff, eReps_inj, eRep_iff, eStays_inj, eStay_iff] at h
  grind

theorem unLMo (a : List Beat) (b : List Beat) (q : Int) (w : Span) : unenc encLMo ([AV.sl (List.map eBeat a), AV.sl (List.map eBeat b), (vI q), AV.agg [(vI w.fr), (vI w.to)]]) = some (a, b, q, w) := unenc_of encLMo_inj (a, b, q, w) rfl

theorem unLMow (a : List Beat) (b : List Beat) (q : Int) (w_fr : Int) (w_to : Int) : unenc encLMo ([AV.sl (List.map eBeat a), AV.sl (List.map eBeat b), (vI q), AV.agg [(vI w_fr), (vI w_to)]]) = some (a, b, q, (Span.mk w_fr w_to)) := unenc_of encLMo_inj (a, b, q, (Span.mk w_fr w_to)) rfl

def resLMo1 (a : List Beat) (b : List Beat) (q : Int) (w : Span) : AV × Heap := (vB true, [])

def preLMo1 (a : List Beat) (b : List Beat) (q : Int) (w : Span) : Bool := true

noncomputable def oLMo : Orc := orc 4 false encLMo (fun a => preLMo1 a.1 a.2.1 a.2.2.1 a.2.2.2) fun a => resLMo1 a.1 a.2.1 a.2.2.1 a.2.2.2

theorem okLMo : OrcOK Try.prog noG oLMo := by
  refine mk_ok Try.f4 (keep := false) (by kernel_rfl) (by kernel_rfl) enLMo_ok mixed (no_loops (by kernel_rfl)) (by first | exact fun _ _ => ⟨rfl, rfl⟩ | (intro h; cases h)) ?_
  rintro ⟨a, b, q, w⟩ hpre hok
  show (runF enLMo false _ (encLMo1 _ _ _ _)).val = some (resLMo1 _ _ _ _)
  unfold encLMo1 resLMo1
  rw [evLMo]
  simp only [unRhb, unMb, unEqBe, unWrk, unRp, unRpw, preRhb1, preMb1, preEqBe1, preWrk1, preRp1, etaBeat, etaSpan, etaHole, etaLevel, etaFigs, etaRatio, etaRep, etaStay, Option.bind_some, List.length_map, unStrs, unInts, unBools, unBeats, uneL_eBeats, unSpans, unHoles, unLevels, unFigss, unRatios, unReps, unStays, F.lt, F.le, cond_true, cond_false, Bool.and_true, Bool.true_and]
  by_cases h1 : F.checkB a = 0
  case neg => simp only [bne1 h1, Bool.not_true, cond_false]
  by_cases h2 : F.checkB b = 0
  case neg => simp only [bne0 h1, bne1 h2, Bool.not_false, cond_true]
  have e1 := F.merge_comm h1 h2
  have e2 := @F.merge_again a b h1 h2
  have e3 := @F.merge_bad a b
  simp only [bne0 h1, bne0 h2, Bool.not_false, cond_true, cond_false, e1, bne_self_eq_false, F.eqL_refl eqBeat_refl, Bool.not_true, Bool.not_not]
  by_cases h3 : (F.mergeB a b).2 = 0
  · simp only [bne0 h3, cond_false, e2 h3, bne_self_eq_false, Bool.not_false, cond_true, F.eqL_refl eqBeat_refl, Bool.not_true, beq_self_eq_true, Bool.and_self]
  · simp only [bne1 h3, cond_true, e3 h3]
    rfl

end M
end Go.Proofs.Ytlnflhmepnbcmaa
