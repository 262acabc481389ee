/- What is proved here: the law of Split. -/
import Derived.Test.YtlnflhmepnbcmaaDoorC72
namespace Go.Proofs.YtlnflhmepnbcmaaDoor
open Go Go.RowKit
set_option linter.unusedVariables false
set_option linter.unusedSimpArgs false

theorem F.sameLL_refl (a : List (List Cap)) : F.sameLL a a = true := by
  unfold F.sameLL
  rw [decide_eq_true rfl, Bool.true_and]
  refine List.all_eq_true.2 fun p hp => ?_
  have : p.1 = p.2 := by
    obtain ⟨i, hi⟩ := List.getElem?_of_mem hp
    rw [List.getElem?_zip_eq_some] at hi
    exact Option.some.inj (hi.1.symm.trans hi.2)
  rw [this]
  exact F.sameCL_refl _

namespace M

noncomputable def enLSp : Env := envH ty noG lks [oSp, oRS, oSLs, oAwk] [] [] []

theorem enLSp_ok : EnvOK Tryd.prog enLSp := by
  refine envH_ok lks_ok ty_ok ?_ ?_
  · simp only [List.forall_mem_cons]
    exact ⟨okSp, okRS, okSLs, okAwk, by simp⟩
  · simp

theorem evLSp (l : List Cap) (bs : List Int) : (runF enLSp false Tryd.f7 [.sl (l.map eCap), .sl (bs.map eI)]).val =
  Option.bind (unenc encSp [AV.sl (List.map eCap l), AV.sl (List.map eI bs)]) fun (z : List Cap × List Int) => bif F.smC z.fst then Option.bind (unenc encRS [AV.sl (List.map
  eCap l), AV.sl (List.map eI bs)]) fun (z_1 : List Cap × List Int) => bif F.smC z_1.fst then bif (F.cutL z.fst z.snd).snd == (F.cutL z_1.fst z_1.snd).snd then Option.bind
  (unenc encSLs [AV.sl (List.map eL_eCap (F.cutL z.fst z.snd).fst), AV.sl (List.map eL_eCap (F.cutL z_1.fst z_1.snd).fst)]) fun (z_2 : List (List Cap) × List (List Cap)) =>
  bif bif (F.cutL z.fst z.snd).snd == (F.cutL z_1.fst z_1.snd).snd then F.sameLL z_2.fst z_2.snd else false then Option.bind (unenc encAwk []) fun (z_3 : Unit) => some ((vB
  (bif bif (F.cutL z.fst z.snd).snd == (F.cutL z_1.fst z_1.snd).snd then F.sameLL z_2.fst z_2.snd else false then true else false)), []) else some ((vB false), []) else some
  ((vB false), []) else none else none := by kernel_rfl

def encLSp1 (l : List Cap) (bs : List Int) : List AV := [.sl (l.map eCap), .sl (bs.map eI)]

def encLSp (a : (List Cap) × (List Int)) : List AV := encLSp1 a.1 a.2

theorem encLSp_inj (a a' : (List Cap) × (List Int)) (h : encLSp a = encLSp a') : a = a' := by
  simp only [encLSp, encLSp1] at h
  try simp [strs_inj, ints_inj, bools_inj, eCaps_inj, eCap_iff, eL_eCaps_inj, eMchs_inj, eMch_iff, eWrds_inj, eWrd_iff, eFnds_inj, eFnd_iff, eRatios_inj, eRatio_iff, eWays_inj, eWay_iff] at h
  grind

theorem unLSp (l : List Cap) (bs : List Int) : unenc encLSp ([AV.sl (List.map eCap l), AV.sl (List.map eI bs)]) = some (l, bs) := unenc_of encLSp_inj (l, bs) rfl

def resLSp1 (l : List Cap) (bs : List Int) : AV × Heap := (vB true, [])

def preLSp1 (l : List Cap) (bs : List Int) : Bool := F.smC l

noncomputable def oLSp : Orc := orc 7 false encLSp (fun a => preLSp1 a.1 a.2) fun a => resLSp1 a.1 a.2

theorem okLSp : OrcOK Tryd.prog noG oLSp := by
  refine mk_ok Tryd.f7 (keep := false) (by kernel_rfl) (by kernel_rfl) enLSp_ok mixed (no_loops (by kernel_rfl)) (by first | exact fun _ _ => ⟨rfl, rfl⟩ | (intro h; cases h)) ?_
  rintro ⟨l, bs⟩ hpre hok
  show (runF enLSp false _ (encLSp1 _ _)).val = some (resLSp1 _ _)
  unfold encLSp1 resLSp1
  rw [evLSp]
  simp only [preLSp1] at hpre
  simp only [unSp, unRS, unSLs, unAwk, preSp1, preRS1, preSLs1, preAwk1, etaCap, etaMch, etaWrd, etaFnd, etaRatio, etaWay, Option.bind_some, List.length_map, unStrs, unInts, unBools, unCaps, uneL_eCaps, unMchs, unWrds, unFnds, unRatios, unWays, F.lt, F.le, cond_true, cond_false, Bool.and_true, Bool.true_and, hpre, F.sameLL_refl, bne_self_eq_false, beq_self_eq_true, bne, Bool.not_true, Bool.not_false]

end M
end Go.Proofs.YtlnflhmepnbcmaaDoor
