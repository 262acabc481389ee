/- What is proved here: the law CaptionShortTextsMatchSpec. -/
import Derived.Test.YthcfbeckhgngiaaDoorC147
import Derived.Test.YthcfbeckhgngiaaDoorC148
import Derived.Test.YthcfbeckhgngiaaDoorC33
namespace Go.Proofs.YthcfbeckhgngiaaDoor
open Go Go.RowKit
set_option linter.unusedVariables false
set_option linter.unusedSimpArgs false

theorem F.shortS_small (l : List Cap) : F.small (F.shortS l) = true := by
  have e0 : F.small (⟨⟨[]⟩⟩ : ByteArray) = true := rfl
  have hb : ∀ s, F.small (F.bndS s) = true := fun s => by
    unfold F.bndS
    cases h : decide (200000 < s.size)
    · exact decide_eq_true (by have : ¬ 200000 < s.size := of_decide_eq_false h
                               simp only [cond_false]; omega)
    · exact e0
  unfold F.shortS
  cases F.chkC l != 0
  · cases F.shS l 0
    · exact e0
    · exact hb _
  · exact e0

namespace M

noncomputable def enLSt : Env := envH ty noG lks [oShp, oRSh, oChC, oRhC, oRSt, oSa, oAwk] [] [] []

theorem enLSt_ok : EnvOK Tryd.prog enLSt := by
  refine envH_ok lks_ok ty_ok ?_ ?_
  · simp only [List.forall_mem_cons]
    exact ⟨okShp, okRSh, okChC, okRhC, okRSt, okSa, okAwk, by simp⟩
  · simp

theorem evLSt (l : List Cap) : (runF enLSt false Tryd.f4 [.sl (l.map eCap)]).val =
  Option.bind (unenc encShp [AV.sl (List.map eCap l)]) fun (z : List Cap) => bif F.smC z then Option.bind (unenc encRSh [AV.sl (List.map eCap l)]) fun (z_1 : List Cap) =>
  bif F.smC z_1 then Option.bind (unenc encChC [AV.sl (List.map eCap l)]) fun (z_2 : List Cap) => bif F.smC z_2 then Option.bind (unenc encRhC [AV.sl (List.map eCap l)]) fun
  (z_3 : List Cap) => bif F.smC z_3 then bif !bif bif F.chkC z_2 != F.chkC z_3 then true else F.shortF z != F.shortF z_1 then true else !ByteArray.toList (F.shortS z) ==
  ByteArray.toList (F.shortS z_1) then Option.bind (unenc encAwk []) fun (z_4 : Unit) => bif bif bif bif F.chkC z_2 != F.chkC z_3 then true else F.shortF z != F.shortF z_1
  then true else !ByteArray.toList (F.shortS z) == ByteArray.toList (F.shortS z_1) then true else false then some ((vB false), []) else bif F.shortF z != (0 : Int) then some
  ((vB true), []) else Option.bind (unenc encRSt [(vS (F.shortS z))]) fun (z : ByteArray) => bif F.small z then bif bif (F.rdSh z).snd.snd == (0 : Int) then (F.rdSh
  z).snd.fst == (0 : Int) else false then Option.bind (unenc encSa [AV.sl (List.map eCap l), AV.sl (List.map eCap (F.rdSh z).fst)]) fun (z_5 : List Cap × List Cap) => some
  ((vB (bif bif (F.rdSh z).snd.snd == (0 : Int) then (F.rdSh z).snd.fst == (0 : Int) else false then F.sameCL z_5.fst z_5.snd else false)), []) else some ((vB false), [])
  else none else bif !bif bif F.chkC z_2 != F.chkC z_3 then true else F.shortF z != F.shortF z_1 then true else !ByteArray.toList (F.shortS z) == ByteArray.toList (F.shortS
  z_1) then none else some ((vB false), []) else none else none else none else none := by kernel_rfl

def encLSt1 (l : List Cap) : List AV := [.sl (l.map eCap)]

def encLSt (a : (List Cap)) : List AV := encLSt1 a

theorem encLSt_inj (a a' : (List Cap)) (h : encLSt a = encLSt a') : a = a' := by
  simp only [encLSt, encLSt1] at h
  try simp [strs_inj, ints_inj, bools_inj, eL_eIs_inj, eCaps_inj, eCap_iff, eL_eCaps_inj, eMchs_inj, eMch_iff, eWrds_inj, eWrd_iff, eFnds_inj, eFnd_iff, eRatios_inj, eRatio_iff, eWays_inj, eWay_iff] at h
  grind

theorem unLSt (l : List Cap) : unenc encLSt ([AV.sl (List.map eCap l)]) = some (l) := unenc_of encLSt_inj (l) rfl

def resLSt1 (l : List Cap) : AV × Heap := (vB true, [])

def preLSt1 (l : List Cap) : Bool := F.smC l

noncomputable def oLSt : Orc := orc 4 false encLSt (fun a => preLSt1 a) fun a => resLSt1 a

theorem okLSt : OrcOK Tryd.prog noG oLSt := by
  refine mk_ok Tryd.f4 (keep := false) (by kernel_rfl) (by kernel_rfl) enLSt_ok mixed (no_loops (by kernel_rfl)) (by first | exact fun _ _ => ⟨rfl, rfl⟩ | (intro h; cases h)) ?_
  rintro l hpre hok
  show (runF enLSt false _ (encLSt1 _)).val = some (resLSt1 _)
  unfold encLSt1 resLSt1
  rw [evLSt]
  simp only [preLSt1] at hpre
  simp only [unShp, unRSh, unChC, unRhC, unRSt, unSa, unAwk, preShp1, preRSh1, preChC1, preRhC1, preRSt1, preSa1, preAwk1, etaCap, etaMch, etaWrd, etaFnd, etaRatio, etaWay, Option.bind_some, List.length_map, unStrs, unInts, unBools, uneL_eIs, unCaps, uneL_eCaps, unMchs, unWrds, unFnds, unRatios, unWays, F.lt, F.le, cond_true, cond_false, Bool.and_true, Bool.true_and, hpre, bne_self_eq_false, beq_self_eq_true, F.shortS_small]
  by_cases h : F.shortF l = 0
  · have hb := F.short_back h
    simp only [hb, h, F.sameCL_refl]
    try rfl
  · rw [bne1 h]
    try rfl

end M
end Go.Proofs.YthcfbeckhgngiaaDoor
