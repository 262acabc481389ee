/- What is proved here: the law CaptionBreaksMatchSpec. -/
import Derived.Test.YtlnflhmepnbcmaaDoorC106
import Derived.Test.YtlnflhmepnbcmaaDoorC9
namespace Go.Proofs.YtlnflhmepnbcmaaDoor
open Go Go.RowKit
set_option linter.unusedVariables false
set_option linter.unusedSimpArgs false

namespace M

noncomputable def enLBm : Env := envH ty noG lks [oBrk, oRb, oEqS, oAwk] [] [] []

theorem enLBm_ok : EnvOK Tryd.prog enLBm := by
  refine envH_ok lks_ok ty_ok ?_ ?_
  · simp only [List.forall_mem_cons]
    exact ⟨okBrk, okRb, okEqS, okAwk, by simp⟩
  · simp

theorem evLBm (s : ByteArray) (w : Int) (r : Int) : (runF enLBm false Tryd.f3 [vS s, vI w, vI r]).val =
  Option.bind (unenc encBrk [(vS s), (vI w), (vI r)]) fun (z : ByteArray × Int × Int) => bif F.small z.fst then Option.bind (unenc encRb [(vS s), (vI w), (vI r)]) fun (z_1 :
  ByteArray × Int × Int) => bif F.small z_1.fst then bif (F.brk z.fst z.snd.fst z.snd.snd).snd == (F.brk z_1.fst z_1.snd.fst z_1.snd.snd).snd then Option.bind (unenc encEqS
  [AV.sl (List.map eStr (F.brk z.fst z.snd.fst z.snd.snd).fst), AV.sl (List.map eStr (F.brk z_1.fst z_1.snd.fst z_1.snd.snd).fst)]) fun (z_2 : List ByteArray × List
  ByteArray) => bif bif (F.brk z.fst z.snd.fst z.snd.snd).snd == (F.brk z_1.fst z_1.snd.fst z_1.snd.snd).snd then F.sameSL z_2.fst z_2.snd else false then Option.bind (unenc
  encAwk []) fun (z_3 : Unit) => some ((vB (bif bif (F.brk z.fst z.snd.fst z.snd.snd).snd == (F.brk z_1.fst z_1.snd.fst z_1.snd.snd).snd then F.sameSL z_2.fst z_2.snd else
  false then true else false)), []) else some ((vB false), []) else some ((vB false), []) else none else none := by kernel_rfl

def encLBm1 (s : ByteArray) (w : Int) (r : Int) : List AV := [vS s, vI w, vI r]

def encLBm (a : ByteArray × Int × Int) : List AV := encLBm1 a.1 a.2.1 a.2.2

theorem encLBm_inj (a a' : ByteArray × Int × Int) (h : encLBm a = encLBm a') : a = a' := by
  simp only [encLBm, encLBm1] at h
  try simp [strs_inj, ints_inj, bools_inj, eL_eIs_inj, eCaps_inj, eCap_iff, eL_eCaps_inj, eMchs_inj, eMch_iff, eWrds_inj, eWrd_iff, eFnds_inj, eFnd_iff, eRatios_inj, eRatio_iff, eWays_inj, eWay_iff] at h
  grind

theorem unLBm (s : ByteArray) (w : Int) (r : Int) : unenc encLBm ([(vS s), (vI w), (vI r)]) = some (s, w, r) := unenc_of encLBm_inj (s, w, r) rfl

def resLBm1 (s : ByteArray) (w : Int) (r : Int) : AV × Heap := (vB true, [])

def preLBm1 (s : ByteArray) (w : Int) (r : Int) : Bool := F.small s

noncomputable def oLBm : Orc := orc 3 false encLBm (fun a => preLBm1 a.1 a.2.1 a.2.2) fun a => resLBm1 a.1 a.2.1 a.2.2

theorem okLBm : OrcOK Tryd.prog noG oLBm := by
  refine mk_ok Tryd.f3 (keep := false) (by kernel_rfl) (by kernel_rfl) enLBm_ok mixed (no_loops (by kernel_rfl)) (by first | exact fun _ _ => ⟨rfl, rfl⟩ | (intro h; cases h)) ?_
  rintro ⟨s, w, r⟩ hpre hok
  show (runF enLBm false _ (encLBm1 _ _ _)).val = some (resLBm1 _ _ _)
  unfold encLBm1 resLBm1
  rw [evLBm]
  simp only [preLBm1] at hpre
  simp only [unBrk, unRb, unEqS, unAwk, preBrk1, preRb1, preEqS1, preAwk1, etaCap, etaMch, etaWrd, etaFnd, etaRatio, etaWay, Option.bind_some, List.length_map, unStrs, unInts, unBools, uneL_eIs, unCaps, uneL_eCaps, unMchs, unWrds, unFnds, unRatios, unWays, F.lt, F.le, cond_true, cond_false, Bool.and_true, Bool.true_and, hpre, F.sameSL_refl, bne_self_eq_false, beq_self_eq_true]

end M
end Go.Proofs.YtlnflhmepnbcmaaDoor
