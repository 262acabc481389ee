/- What is proved here: the law CaptionLongReadsMatchSpec. -/
import Derived.Test.YthcfbeckhgngiaaGreatDoorC138
import Derived.Test.YthcfbeckhgngiaaGreatDoorC33
namespace Go.Proofs.YthcfbeckhgngiaaGreatDoor
open Go Go.RowKit
set_option linter.unusedVariables false
set_option linter.unusedSimpArgs false

namespace M

noncomputable def enLLr : Env := envH ty noG lks [oRLo, oRLg, oSa, oAwk] [] [] []

theorem enLLr_ok : EnvOK Tryz.prog enLLr := by
  refine envH_ok lks_ok ty_ok ?_ ?_
  · simp only [List.forall_mem_cons]
    exact ⟨okRLo, okRLg, okSa, okAwk, by simp⟩
  · simp

theorem evLLr (s : ByteArray) : (runF enLLr false Tryz.f3 [vS s]).val =
  Option.bind (unenc encRLo [(vS s)]) fun (z : ByteArray) => bif F.small z then Option.bind (unenc encRLg [(vS s)]) fun (z_1 : ByteArray) => bif F.small z_1 then bif bif
  (F.rdLo z).snd.snd == (F.rdLo z_1).snd.snd then (F.rdLo z).snd.fst == (F.rdLo z_1).snd.fst else false then Option.bind (unenc encSa [AV.sl (List.map eCap (F.rdLo z).fst),
  AV.sl (List.map eCap (F.rdLo z_1).fst)]) fun (z_2 : List Cap × List Cap) => bif bif bif (F.rdLo z).snd.snd == (F.rdLo z_1).snd.snd then (F.rdLo z).snd.fst == (F.rdLo
  z_1).snd.fst else false then F.sameCL z_2.fst z_2.snd else false then Option.bind (unenc encAwk []) fun (z_3 : Unit) => some ((vB (bif bif bif (F.rdLo z).snd.snd ==
  (F.rdLo z_1).snd.snd then (F.rdLo z).snd.fst == (F.rdLo z_1).snd.fst else false then F.sameCL z_2.fst z_2.snd else false then true else false)), []) else some ((vB false),
  []) else some ((vB false), []) else none else none := by kernel_rfl

def encLLr1 (s : ByteArray) : List AV := [vS s]

def encLLr (a : ByteArray) : List AV := encLLr1 a

theorem encLLr_inj (a a' : ByteArray) (h : encLLr a = encLLr a') : a = a' := by
  simp only [encLLr, encLLr1] at h
  try simp [strs_inj, ints_inj, bools_inj, eL_eIs_inj, eCaps_inj, eCap_iff, eL_eCaps_inj, eMchs_inj, eMch_iff, eWrds_inj, eWrd_iff, eFnds_inj, eFnd_iff, eRatios_inj, eRatio_iff, eWays_inj, eWay_iff] at h
  grind

theorem unLLr (s : ByteArray) : unenc encLLr ([(vS s)]) = some (s) := unenc_of encLLr_inj (s) rfl

def resLLr1 (s : ByteArray) : AV × Heap := (vB true, [])

def preLLr1 (s : ByteArray) : Bool := F.small s

noncomputable def oLLr : Orc := orc 3 false encLLr (fun a => preLLr1 a) fun a => resLLr1 a

theorem okLLr : OrcOK Tryz.prog noG oLLr := by
  refine mk_ok Tryz.f3 (keep := false) (by kernel_rfl) (by kernel_rfl) enLLr_ok mixed (no_loops (by kernel_rfl)) (by first | exact fun _ _ => ⟨rfl, rfl⟩ | (intro h; cases h)) ?_
  rintro s hpre hok
  show (runF enLLr false _ (encLLr1 _)).val = some (resLLr1 _)
  unfold encLLr1 resLLr1
  rw [evLLr]
  simp only [preLLr1] at hpre
  simp only [unRLo, unRLg, unSa, unAwk, preRLo1, preRLg1, preSa1, preAwk1, etaCap, etaMch, etaWrd, etaFnd, etaRatio, etaWay, Option.bind_some, List.length_map, unStrs, unInts, unBools, uneL_eIs, unCaps, uneL_eCaps, unMchs, unWrds, unFnds, unRatios, unWays, F.lt, F.le, cond_true, cond_false, Bool.and_true, Bool.true_and, hpre, F.sameCL_refl, bne_self_eq_false, beq_self_eq_true]
  try rfl

end M
end Go.Proofs.YthcfbeckhgngiaaGreatDoor
