/- What is proved here: the law that Roll is as specified. -/
import Derived.Test.YtdmccifaggmmkaaDoorC47
import Derived.Test.YtdmccifaggmmkaaDoorC33
namespace Go.Proofs.YtdmccifaggmmkaaDoor
open Go Go.RowKit
set_option linter.unusedVariables false
set_option linter.unusedSimpArgs false
namespace M

noncomputable def enLRo : Env := envH ty noG lks [oRl, oRRl, oSa, oAwk] [] [] []

theorem enLRo_ok : EnvOK Tryd.prog enLRo := by
  refine envH_ok lks_ok ty_ok ?_ ?_
  · simp only [List.forall_mem_cons]
    exact ⟨okRl, okRRl, okSa, okAwk, by simp⟩
  · simp

theorem evLRo (l : List Wrd) (w : Int) (r : Int) (h : Int) : (runF enLRo false Tryd.f3 [.sl (l.map eWrd), vI w, vI r, vI h]).val =
  Option.bind (unenc encRl [AV.sl (List.map eWrd l), (vI w), (vI r), (vI h)]) fun (z : List Wrd × Int × Int × Int) => bif F.smW z.fst then Option.bind (unenc encRRl [AV.sl
  (List.map eWrd l), (vI w), (vI r), (vI h)]) fun (z_1 : List Wrd × Int × Int × Int) => bif F.smW z_1.fst then bif (F.roll z.fst z.snd.fst z.snd.snd.fst z.snd.snd.snd).snd
  == (F.roll z_1.fst z_1.snd.fst z_1.snd.snd.fst z_1.snd.snd.snd).snd then Option.bind (unenc encSa [AV.sl (List.map eCap (F.roll z.fst z.snd.fst z.snd.snd.fst
  z.snd.snd.snd).fst), AV.sl (List.map eCap (F.roll z_1.fst z_1.snd.fst z_1.snd.snd.fst z_1.snd.snd.snd).fst)]) fun (z : List Cap × List Cap) => bif F.sameCL z.fst z.snd
  then Option.bind (unenc encAwk []) fun (z : Unit) => some ((vB true), []) else some ((vB false), []) else some ((vB false), []) else none else none := (runFR_val).symm.trans (by kernel_rfl)

def encLRo1 (l : List Wrd) (w : Int) (r : Int) (h : Int) : List AV := [.sl (l.map eWrd), vI w, vI r, vI h]

def encLRo (a : (List Wrd) × Int × Int × Int) : List AV := encLRo1 a.1 a.2.1 a.2.2.1 a.2.2.2

theorem encLRo_inj (a a' : (List Wrd) × Int × Int × Int) (h : encLRo a = encLRo a') : a = a' := by
  simp only [encLRo, encLRo1] at h
  try simp [strs_inj, ints_inj, bools_inj, eCaps_inj, eCap_iff, eL_eCaps_inj, eMchs_inj, eMch_iff, eWrds_inj, eWrd_iff, eFnds_inj, eFnd_iff, eRatios_inj, eRatio_iff, eWays_inj, eWay_iff] at h
  grind

theorem unLRo (l : List Wrd) (w : Int) (r : Int) (h : Int) : unenc encLRo ([AV.sl (List.map eWrd l), (vI w), (vI r), (vI h)]) = some (l, w, r, h) := unenc_of encLRo_inj (l, w, r, h) rfl

def resLRo1 (l : List Wrd) (w : Int) (r : Int) (h : Int) : AV × Heap := (vB true, [])

def preLRo1 (l : List Wrd) (w : Int) (r : Int) (h : Int) : Bool := F.smW l

noncomputable def oLRo : Orc := orc 3 false encLRo (fun a => preLRo1 a.1 a.2.1 a.2.2.1 a.2.2.2) fun a => resLRo1 a.1 a.2.1 a.2.2.1 a.2.2.2

theorem okLRo : OrcOK Tryd.prog noG oLRo := by
  refine mk_ok Tryd.f3 (keep := false) (by kernel_rfl) (by kernel_rfl) enLRo_ok mixed (no_loops (by kernel_rfl)) (by first | exact fun _ _ => ⟨rfl, rfl⟩ | (intro h; cases h)) ?_
  rintro ⟨l, w, r, h⟩ hpre hok
  show (runF enLRo false _ (encLRo1 _ _ _ _)).val = some (resLRo1 _ _ _ _)
  unfold encLRo1 resLRo1
  rw [evLRo]
  simp only [preLRo1] at hpre
  simp only [unRl, unRRl, unSa, unAwk, preRl1, preRRl1, preSa1, preAwk1, etaCap, etaMch, etaWrd, etaFnd, etaRatio, etaWay, Option.bind_some, List.length_map, unStrs, unInts, unBools, unCaps, uneL_eCaps, unMchs, unWrds, unFnds, unRatios, unWays, F.lt, F.le, cond_true, cond_false, Bool.and_true, Bool.true_and, hpre, F.sameCL_refl, bne_self_eq_false, beq_self_eq_true, bne, Bool.not_true, Bool.not_false]

end M
end Go.Proofs.YtdmccifaggmmkaaDoor
