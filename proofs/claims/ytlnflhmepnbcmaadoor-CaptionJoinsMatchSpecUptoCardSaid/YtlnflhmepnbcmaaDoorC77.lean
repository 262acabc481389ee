/- What is proved here: the law of Join. -/
import Derived.Test.YtlnflhmepnbcmaaDoorC76
namespace Go.Proofs.YtlnflhmepnbcmaaDoor
open Go Go.RowKit
set_option linter.unusedVariables false
set_option linter.unusedSimpArgs false

namespace M

noncomputable def enLJo : Env := envH ty noG lks [oJ, oRJ, oSa, oAwk] [] [] []

theorem enLJo_ok : EnvOK Tryd.prog enLJo := by
  refine envH_ok lks_ok ty_ok ?_ ?_
  · simp only [List.forall_mem_cons]
    exact ⟨okJ, okRJ, okSa, okAwk, by simp⟩
  · simp

theorem evLJo (l : List (List Cap)) (bs : List Int) : (runF enLJo false Tryd.f8 [.sl (l.map eL_eCap), .sl (bs.map eI)]).val =
  Option.bind (unenc encJ [AV.sl (List.map eL_eCap l), AV.sl (List.map eI bs)]) fun (z : List (List Cap) × List Int) => bif F.smLL z.fst then Option.bind (unenc encRJ [AV.sl
  (List.map eL_eCap l), AV.sl (List.map eI bs)]) fun (z_1 : List (List Cap) × List Int) => bif F.smLL z_1.fst then bif (F.joinL z.fst z.snd).snd == (F.joinL z_1.fst
  z_1.snd).snd then Option.bind (unenc encSa [AV.sl (List.map eCap (F.joinL z.fst z.snd).fst), AV.sl (List.map eCap (F.joinL z_1.fst z_1.snd).fst)]) fun (z_2 : List Cap ×
  List Cap) => bif bif (F.joinL z.fst z.snd).snd == (F.joinL z_1.fst z_1.snd).snd then F.sameCL z_2.fst z_2.snd else false then Option.bind (unenc encAwk []) fun (z_3 :
  Unit) => some ((vB (bif bif (F.joinL z.fst z.snd).snd == (F.joinL z_1.fst z_1.snd).snd then F.sameCL z_2.fst z_2.snd else false then true else false)), []) else some ((vB
  false), []) else some ((vB false), []) else none else none := by kernel_rfl

def encLJo1 (l : List (List Cap)) (bs : List Int) : List AV := [.sl (l.map eL_eCap), .sl (bs.map eI)]

def encLJo (a : (List (List Cap)) × (List Int)) : List AV := encLJo1 a.1 a.2

theorem encLJo_inj (a a' : (List (List Cap)) × (List Int)) (h : encLJo a = encLJo a') : a = a' := by
  simp only [encLJo, encLJo1] at h
  try simp [strs_inj, ints_inj, bools_inj, eCaps_inj, eCap_iff, eL_eCaps_inj, eMchs_inj, eMch_iff, eWrds_inj, eWrd_iff, eFnds_inj, eFnd_iff, eRatios_inj, eRatio_iff, eWays_inj, eWay_iff] at h
  grind

theorem unLJo (l : List (List Cap)) (bs : List Int) : unenc encLJo ([AV.sl (List.map eL_eCap l), AV.sl (List.map eI bs)]) = some (l, bs) := unenc_of encLJo_inj (l, bs) rfl

def resLJo1 (l : List (List Cap)) (bs : List Int) : AV × Heap := (vB true, [])

def preLJo1 (l : List (List Cap)) (bs : List Int) : Bool := F.smLL l

noncomputable def oLJo : Orc := orc 8 false encLJo (fun a => preLJo1 a.1 a.2) fun a => resLJo1 a.1 a.2

theorem okLJo : OrcOK Tryd.prog noG oLJo := by
  refine mk_ok Tryd.f8 (keep := false) (by kernel_rfl) (by kernel_rfl) enLJo_ok mixed (no_loops (by kernel_rfl)) (by first | exact fun _ _ => ⟨rfl, rfl⟩ | (intro h; cases h)) ?_
  rintro ⟨l, bs⟩ hpre hok
  show (runF enLJo false _ (encLJo1 _ _)).val = some (resLJo1 _ _)
  unfold encLJo1 resLJo1
  rw [evLJo]
  simp only [preLJo1] at hpre
  simp only [unJ, unRJ, unSa, unAwk, preJ1, preRJ1, preSa1, preAwk1, etaCap, etaMch, etaWrd, etaFnd, etaRatio, etaWay, Option.bind_some, List.length_map, unStrs, unInts, unBools, unCaps, uneL_eCaps, unMchs, unWrds, unFnds, unRatios, unWays, F.lt, F.le, cond_true, cond_false, Bool.and_true, Bool.true_and, hpre, F.sameCL_refl, bne_self_eq_false, beq_self_eq_true, bne, Bool.not_true, Bool.not_false]

end M
end Go.Proofs.YtlnflhmepnbcmaaDoor
