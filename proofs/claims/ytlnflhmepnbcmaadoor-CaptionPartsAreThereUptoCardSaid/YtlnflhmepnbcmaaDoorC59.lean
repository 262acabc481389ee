/- What is proved here: the order of captions is a weak order, and what the program's order returns (no statement of the seat). -/
import Derived.Test.YtlnflhmepnbcmaaDoorC3
import Derived.Test.YtlnflhmepnbcmaaDoorSt
import Derived.Test.YtlnflhmepnbcmaaDoorM9
namespace Go.Proofs.YtlnflhmepnbcmaaDoor
open Go Go.RowKit
set_option linter.unusedVariables false
set_option linter.unusedSimpArgs false

def F.ordC (a b : Cap) : Int := bif F.before a b then -1 else bif F.before b a then 1 else 0

def F.ltC (a b : Cap) : Bool := decide (F.ordC a b < 0)

theorem F.ltC_eq (a b : Cap) : F.ltC a b = F.before a b := by
  unfold F.ltC F.ordC
  cases F.before a b <;> cases F.before b a <;> rfl

theorem F.before_iff {a b : Cap} : F.before a b = true ↔ a.fr < b.fr ∨ (a.fr = b.fr ∧ a.to < b.to) := by
  simp [F.before, F.lt]

theorem F.swC : K.SW F.ltC := by
  refine ⟨fun a b h => ?_, fun a b c h1 h2 => ?_⟩
  · rw [F.ltC_eq] at h ⊢
    cases h2 : F.before b a
    · rfl
    · rw [F.before_iff] at h h2; omega
  · rw [F.ltC_eq] at h1 h2 ⊢
    cases h3 : F.before c a
    · rfl
    · have n1 : ¬ (b.fr < a.fr ∨ (b.fr = a.fr ∧ b.to < a.to)) := fun e => by rw [F.before_iff.2 e] at h1; cases h1
      have n2 : ¬ (c.fr < b.fr ∨ (c.fr = b.fr ∧ c.to < b.to)) := fun e => by rw [F.before_iff.2 e] at h2; cases h2
      rw [F.before_iff] at h3; omega

namespace M

noncomputable def enOrd : Env := envH ty noG lks [oBef] [] [] []

theorem enOrd_ok : EnvOK Tryd.prog enOrd := by
  refine envH_ok lks_ok ty_ok ?_ ?_
  · simp only [List.forall_mem_cons]
    exact ⟨okBef, by simp⟩
  · simp

theorem evOrd (a : Cap) (b : Cap) : (runF enOrd false Tryd.f48 [.agg (eCap a), .agg (eCap b)]).val =
  Option.bind (unenc encBef [AV.agg [(vI a.fr), (vI a.to), AV.sl (List.map eStr a.lines), (vI a.row), (vB a.bef), (vB a.aft)], AV.agg [(vI b.fr), (vI b.to), AV.sl (List.map
  eStr b.lines), (vI b.row), (vB b.bef), (vB b.aft)]]) fun (z : Cap × Cap) => bif F.before z.fst z.snd then some ((vI (-1 : Int)), []) else Option.bind (unenc encBef [AV.agg
  [(vI b.fr), (vI b.to), AV.sl (List.map eStr b.lines), (vI b.row), (vB b.bef), (vB b.aft)], AV.agg [(vI a.fr), (vI a.to), AV.sl (List.map eStr a.lines), (vI a.row), (vB
  a.bef), (vB a.aft)]]) fun (z : Cap × Cap) => bif F.before z.fst z.snd then some ((vI (1 : Int)), []) else some ((vI (0 : Int)), []) := by kernel_rfl

def encOrd1 (a : Cap) (b : Cap) : List AV := [.agg (eCap a), .agg (eCap b)]

def encOrd (a : Cap × Cap) : List AV := encOrd1 a.1 a.2

theorem encOrd_inj (a a' : Cap × Cap) (h : encOrd a = encOrd a') : a = a' := by
  simp only [encOrd, encOrd1] at h
  try simp [strs_inj, ints_inj, bools_inj, eCaps_inj, eCap_iff, eL_eCaps_inj, eMchs_inj, eMch_iff, eWrds_inj, eWrd_iff, eFnds_inj, eFnd_iff, eRatios_inj, eRatio_iff, eWays_inj, eWay_iff] at h
  grind

theorem unOrd (a : Cap) (b : Cap) : unenc encOrd ([AV.agg [(vI a.fr), (vI a.to), AV.sl (List.map eStr a.lines), (vI a.row), (vB a.bef), (vB a.aft)], AV.agg [(vI b.fr), (vI b.to), AV.sl (List.map eStr b.lines), (vI b.row),
  (vB b.bef), (vB b.aft)]]) = some (a, b) := unenc_of encOrd_inj (a, b) rfl

theorem unOrdw (a_fr : Int) (a_to : Int) (a_lines : List ByteArray) (a_row : Int) (a_bef : Bool) (a_aft : Bool) (b_fr : Int) (b_to : Int) (b_lines : List ByteArray) (b_row : Int) (b_bef : Bool) (b_aft : Bool) : unenc encOrd ([AV.agg [(vI a_fr), (vI a_to), AV.sl (List.map eStr a_lines), (vI a_row), (vB a_bef), (vB a_aft)], AV.agg [(vI b_fr), (vI b_to), AV.sl (List.map eStr b_lines), (vI b_row),
  (vB b_bef), (vB b_aft)]]) = some ((Cap.mk a_fr a_to a_lines a_row a_bef a_aft), (Cap.mk b_fr b_to b_lines b_row b_bef b_aft)) := unenc_of encOrd_inj ((Cap.mk a_fr a_to a_lines a_row a_bef a_aft), (Cap.mk b_fr b_to b_lines b_row b_bef b_aft)) rfl

def resOrd1 (a : Cap) (b : Cap) : AV × Heap := (vI (F.ordC a b), [])

def preOrd1 (a : Cap) (b : Cap) : Bool := true

noncomputable def oOrd : Orc := orc 48 true encOrd (fun a => preOrd1 a.1 a.2) fun a => resOrd1 a.1 a.2

theorem okOrd : OrcOK Tryd.prog noG oOrd := by
  refine mk_ok Tryd.f48 (keep := false) (by kernel_rfl) (by kernel_rfl) enOrd_ok mixed (no_loops (by kernel_rfl)) (by first | exact fun _ _ => ⟨rfl, rfl⟩ | (intro h; cases h)) ?_
  rintro ⟨a, b⟩ hpre hok
  show (runF enOrd false _ (encOrd1 _ _)).val = some (resOrd1 _ _)
  unfold encOrd1 resOrd1
  rw [evOrd]
  simp only [unBef, unBefw, preBef1, etaCap, etaMch, etaWrd, etaFnd, etaRatio, etaWay, Option.bind_some, List.length_map, unStrs, unInts, unBools, unCaps, uneL_eCaps, unMchs, unWrds, unFnds, unRatios, unWays, F.lt, F.le, cond_true, cond_false, Bool.and_true, Bool.true_and, F.ordC]
  cases F.before a b <;> cases F.before b a <;> rfl

end M
end Go.Proofs.YtlnflhmepnbcmaaDoor
