/- What is proved here: the law CaptionLongTextsMatchSpec. -/
import Derived.Test.YthcfbeckhgngiaaGreatDoorC152
import Derived.Test.YthcfbeckhgngiaaGreatDoorC153
import Derived.Test.YthcfbeckhgngiaaGreatDoorC33
namespace Go.Proofs.YthcfbeckhgngiaaGreatDoor
open Go Go.RowKit
set_option linter.unusedVariables false
set_option linter.unusedSimpArgs false

theorem F.longS_small (l : List Cap) : F.small (F.longS l) = true := by
  have e0 : F.small (⟨⟨[]⟩⟩ : ByteArray) = true := rfl
  have hb : ∀ s, F.small (F.bndS s) = true := fun s => by
    unfold F.bndS
    cases h : decide (200000 < s.size)
    · exact decide_eq_true (by have : ¬ 200000 < s.size := of_decide_eq_false h
                               simp only [cond_false]; omega)
    · exact e0
  unfold F.longS
  cases F.chkC l != 0
  · exact hb _
  · exact e0

namespace M

noncomputable def enLLt : Env := envH ty noG lks [oLgp, oRLw, oRLo, oSa, oAwk] [] [] []

theorem enLLt_ok : EnvOK Tryz.prog enLLt := by
  refine envH_ok lks_ok ty_ok ?_ ?_
  · simp only [List.forall_mem_cons]
    exact ⟨okLgp, okRLw, okRLo, okSa, okAwk, by simp⟩
  · simp

theorem evLLt (l : List Cap) : (runF enLLt false Tryz.f4 [.sl (l.map eCap)]).val =
  Option.bind (unenc encLgp [AV.sl (List.map eCap l)]) fun (z : List Cap) => bif F.smC z then Option.bind (unenc encRLw [AV.sl (List.map eCap l)]) fun (z_1 : List Cap) =>
  bif F.smC z_1 then bif !bif F.longF z != F.longF z_1 then true else !ByteArray.toList (F.longS z) == ByteArray.toList (F.longS z_1) then Option.bind (unenc encAwk []) fun
  (z_2 : Unit) => bif bif bif F.longF z != F.longF z_1 then true else !ByteArray.toList (F.longS z) == ByteArray.toList (F.longS z_1) then true else false then some ((vB
  false), []) else bif F.longF z != (0 : Int) then some ((vB true), []) else Option.bind (unenc encRLo [(vS (F.longS z))]) fun (z : ByteArray) => bif F.small z then bif bif
  (F.rdLo z).snd.snd == (0 : Int) then (F.rdLo z).snd.fst == (0 : Int) else false then Option.bind (unenc encSa [AV.sl (List.map eCap l), AV.sl (List.map eCap (F.rdLo
  z).fst)]) fun (z_3 : List Cap × List Cap) => some ((vB (bif bif (F.rdLo z).snd.snd == (0 : Int) then (F.rdLo z).snd.fst == (0 : Int) else false then F.sameCL z_3.fst
  z_3.snd else false)), []) else some ((vB false), []) else none else bif !bif F.longF z != F.longF z_1 then true else !ByteArray.toList (F.longS z) == ByteArray.toList
  (F.longS z_1) then none else some ((vB false), []) else none else none := by kernel_rfl

def encLLt1 (l : List Cap) : List AV := [.sl (l.map eCap)]

def encLLt (a : (List Cap)) : List AV := encLLt1 a

theorem encLLt_inj (a a' : (List Cap)) (h : encLLt a = encLLt a') : a = a' := by
  simp only [encLLt, encLLt1] at h
  try simp [strs_inj, ints_inj, bools_inj, eL_eIs_inj, eCaps_inj, eCap_iff, eL_eCaps_inj, eMchs_inj, eMch_iff, eWrds_inj, eWrd_iff, eFnds_inj, eFnd_iff, eRatios_inj, eRatio_iff, eWays_inj, eWay_iff] at h
  grind

theorem unLLt (l : List Cap) : unenc encLLt ([AV.sl (List.map eCap l)]) = some (l) := unenc_of encLLt_inj (l) rfl

def resLLt1 (l : List Cap) : AV × Heap := (vB true, [])

def preLLt1 (l : List Cap) : Bool := F.smC l

noncomputable def oLLt : Orc := orc 4 false encLLt (fun a => preLLt1 a) fun a => resLLt1 a

theorem okLLt : OrcOK Tryz.prog noG oLLt := by
  refine mk_ok Tryz.f4 (keep := false) (by kernel_rfl) (by kernel_rfl) enLLt_ok mixed (no_loops (by kernel_rfl)) (by first | exact fun _ _ => ⟨rfl, rfl⟩ | (intro h; cases h)) ?_
  rintro l hpre hok
  show (runF enLLt false _ (encLLt1 _)).val = some (resLLt1 _)
  unfold encLLt1 resLLt1
  rw [evLLt]
  simp only [preLLt1] at hpre
  simp only [unLgp, unRLw, unRLo, unSa, unAwk, preLgp1, preRLw1, preRLo1, preSa1, preAwk1, etaCap, etaMch, etaWrd, etaFnd, etaRatio, etaWay, Option.bind_some, List.length_map, unStrs, unInts, unBools, uneL_eIs, unCaps, uneL_eCaps, unMchs, unWrds, unFnds, unRatios, unWays, F.lt, F.le, cond_true, cond_false, Bool.and_true, Bool.true_and, hpre, bne_self_eq_false, beq_self_eq_true, F.longS_small]
  by_cases h : F.longF l = 0
  · have hb := F.long_back h
    simp only [hb, h, F.sameCL_refl]
    try rfl
  · rw [bne1 h]
    try rfl

end M
end Go.Proofs.YthcfbeckhgngiaaGreatDoor
