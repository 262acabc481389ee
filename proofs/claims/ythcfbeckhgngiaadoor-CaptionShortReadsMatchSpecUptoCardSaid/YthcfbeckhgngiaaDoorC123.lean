/- What is proved here: the law CaptionShortReadsMatchSpec. -/
import Derived.Test.YthcfbeckhgngiaaDoorC122
import Derived.Test.YthcfbeckhgngiaaDoorC33
namespace Go.Proofs.YthcfbeckhgngiaaDoor
open Go Go.RowKit
set_option linter.unusedVariables false
set_option linter.unusedSimpArgs false

namespace M

noncomputable def enLSr : Env := envH ty noG lks [oRSt, oRr, oSa, oAwk] [] [] []

theorem enLSr_ok : EnvOK Tryd.prog enLSr := by
  refine envH_ok lks_ok ty_ok ?_ ?_
  · simp only [List.forall_mem_cons]
    exact ⟨okRSt, okRr, okSa, okAwk, by simp⟩
  · simp

theorem evLSr (s : ByteArray) : (runF enLSr false Tryd.f3 [vS s]).val =
  Option.bind (unenc encRSt [(vS s)]) fun (z : ByteArray) => bif F.small z then Option.bind (unenc encRr [(vS s)]) fun (z_1 : ByteArray) => bif F.small z_1 then bif bif
  (F.rdSh z).snd.snd == (F.rdSh z_1).snd.snd then (F.rdSh z).snd.fst == (F.rdSh z_1).snd.fst else false then Option.bind (unenc encSa [AV.sl (List.map eCap (F.rdSh z).fst),
  AV.sl (List.map eCap (F.rdSh z_1).fst)]) fun (z_2 : List Cap × List Cap) => bif bif bif (F.rdSh z).snd.snd == (F.rdSh z_1).snd.snd then (F.rdSh z).snd.fst == (F.rdSh
  z_1).snd.fst else false then F.sameCL z_2.fst z_2.snd else false then Option.bind (unenc encAwk []) fun (z_3 : Unit) => some ((vB (bif bif bif (F.rdSh z).snd.snd ==
  (F.rdSh z_1).snd.snd then (F.rdSh z).snd.fst == (F.rdSh z_1).snd.fst else false then F.sameCL z_2.fst z_2.snd else false then true else false)), []) else some ((vB false),
  []) else some ((vB false), []) else none else none := by kernel_rfl

def encLSr1 (s : ByteArray) : List AV := [vS s]

def encLSr (a : ByteArray) : List AV := encLSr1 a

theorem encLSr_inj (a a' : ByteArray) (h : encLSr a = encLSr a') : a = a' := by
  simp only [encLSr, encLSr1] at h
  try simp [strs_inj, ints_inj, bools_inj, eL_eIs_inj, eCaps_inj, eCap_iff, eL_eCaps_inj, eMchs_inj, eMch_iff, eWrds_inj, eWrd_iff, eFnds_inj, eFnd_iff, eRatios_inj, eRatio_iff, eWays_inj, eWay_iff] at h
  grind

theorem unLSr (s : ByteArray) : unenc encLSr ([(vS s)]) = some (s) := unenc_of encLSr_inj (s) rfl

def resLSr1 (s : ByteArray) : AV × Heap := (vB true, [])

def preLSr1 (s : ByteArray) : Bool := F.small s

noncomputable def oLSr : Orc := orc 3 false encLSr (fun a => preLSr1 a) fun a => resLSr1 a

theorem okLSr : OrcOK Tryd.prog noG oLSr := by
  refine mk_ok Tryd.f3 (keep := false) (by kernel_rfl) (by kernel_rfl) enLSr_ok mixed (no_loops (by kernel_rfl)) (by first | exact fun _ _ => ⟨rfl, rfl⟩ | (intro h; cases h)) ?_
  rintro s hpre hok
  show (runF enLSr false _ (encLSr1 _)).val = some (resLSr1 _)
  unfold encLSr1 resLSr1
  rw [evLSr]
  simp only [preLSr1] at hpre
  simp only [unRSt, unRr, unSa, unAwk, preRSt1, preRr1, preSa1, preAwk1, etaCap, etaMch, etaWrd, etaFnd, etaRatio, etaWay, Option.bind_some, List.length_map, unStrs, unInts, unBools, uneL_eIs, unCaps, uneL_eCaps, unMchs, unWrds, unFnds, unRatios, unWays, F.lt, F.le, cond_true, cond_false, Bool.and_true, Bool.true_and, hpre, F.sameCL_refl, bne_self_eq_false, beq_self_eq_true]
  try rfl

end M
end Go.Proofs.YthcfbeckhgngiaaDoor
