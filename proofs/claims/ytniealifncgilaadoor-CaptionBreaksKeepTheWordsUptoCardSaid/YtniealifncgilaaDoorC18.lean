/- What is proved here: the law of Speed and Slow. -/
import Derived.Test.YtniealifncgilaaDoorC15
import Derived.Test.YtniealifncgilaaDoorC17
namespace Go.Proofs.YtniealifncgilaaDoor
open Go Go.RowKit
set_option linter.unusedVariables false
set_option linter.unusedSimpArgs false

namespace M

def stLSp (m : Ratio) (g : Int) (l : List Cap) (k : Nat) : St := ⟨[(21, vI k), (20, vI l.length), (19, .sl (l.map eCap)), (4, .ptr 4 0 0), (2, vI g), (0, .sl (l.map eCap))], [(4, ⟨true, 0, 0, [eRatio m]⟩)]⟩

def stLSp1 (a : Ratio × Int × (List Cap) × Nat) : St := stLSp a.1 a.2.1 a.2.2.1 a.2.2.2

theorem stLSp_inj (a a' : Ratio × Int × (List Cap) × Nat) (h : stLSp1 a = stLSp1 a') : a = a' := by
  simp only [stLSp1, stLSp] at h
  try simp [strs_inj, ints_inj, bools_inj, eCaps_inj, eCap_iff, eL_eCaps_inj, eMchs_inj, eMch_iff, eWrds_inj, eWrd_iff, eFnds_inj, eFnd_iff, eRatios_inj, eRatio_iff, eWays_inj, eWay_iff] at h
  grind

theorem unstLSp (m : Ratio) (g : Int) (l : List Cap) (k : Nat) : unenc stLSp1 (St.mk [(21, (vI (↑k : Int))), (20, (vI (↑(List.length l) : Int))), (19, AV.sl (List.map eCap l)), (4, .ptr 4 0 0), (2, (vI g)), (0, AV.sl (List.map eCap l))] [(4, Blk.mk
  true 0 0 [[(vI m.num), (vI m.den)]])]) = some (m, g, l, k) := unenc_of stLSp_inj (m, g, l, k) rfl

theorem unstLSp0 (m : Ratio) (g : Int) (l : List Cap) : unenc stLSp1 (St.mk [(21, (vI (0 : Int))), (20, (vI (↑(List.length l) : Int))), (19, AV.sl (List.map eCap l)), (4, .ptr 4 0 0), (2, (vI g)), (0, AV.sl (List.map eCap l))] [(4, Blk.mk
  true 0 0 [[(vI m.num), (vI m.den)]])]) = some (m, g, l, 0) := unenc_of stLSp_inj (m, g, l, 0) rfl

def outLSp (m : Ratio) (g : Int) (l : List Cap) (k : Nat) : T (Ex × St) := .ret (.exit 0, ⟨[(4, .ptr 4 0 0), (2, vI g), (0, .sl (l.map eCap))], [(4, ⟨true, 0, 0, [eRatio m]⟩)]⟩)

noncomputable def prlLSp (m : Ratio) (g : Int) (l : List Cap) (k : Nat) : Bool := decide (l.length ≤ 9223372036854775807) && decide (k ≤ l.length) && F.smC l

noncomputable def lpLSp : Nat × (St → T (Ex × St)) := (2, lpo [21, 20, 19, 4, 2, 0] [4] stLSp1 (fun a => prlLSp a.1 a.2.1 a.2.2.1 a.2.2.2) fun a => outLSp a.1 a.2.1 a.2.2.1 a.2.2.2)

noncomputable def enLSp : Env := envH ty noG lks [oSp, oRSp, oSl, oRSl, oSa, oEqI, oAwk] [] [] [lpLSp]

theorem enLSp_ok : EnvOK Tryd.prog enLSp := by
  refine envH_ok lks_ok ty_ok ?_ ?_
  · simp only [List.forall_mem_cons]
    exact ⟨okSp, okRSp, okSl, okRSl, okSa, okEqI, okAwk, by simp⟩
  · simp

theorem evLSpL (m : Ratio) (g : Int) (l : List Cap) (k : Nat) : ((exec enLSp (loopN Tryd.f7 0) (stLSp m g l k)).bind (lessX ([21, 20, 19, 4, 2, 0], [4]) ([4, 2, 0], [4]) ([6], []))).val =
  bif decide ((↑k : Int) < (↑(List.length l) : Int)) then Option.bind (unenc (List.map eCap) (List.map eCap l)) fun (z : List Cap) => bif decide (k < List.length z) then
  Option.bind (unenc encSp [AV.agg [(vI (List.getD z k (Cap.mk (0 : Int) (0 : Int) [] (0 : Int) false false)).fr), (vI (List.getD z k (Cap.mk (0 : Int) (0 : Int) [] (0 :
  Int) false false)).to), AV.sl (List.map eStr (List.getD z k (Cap.mk (0 : Int) (0 : Int) [] (0 : Int) false false)).lines), (vI (List.getD z k (Cap.mk (0 : Int) (0 : Int)
  [] (0 : Int) false false)).row), (vB (List.getD z k (Cap.mk (0 : Int) (0 : Int) [] (0 : Int) false false)).bef), (vB (List.getD z k (Cap.mk (0 : Int) (0 : Int) [] (0 :
  Int) false false)).aft)]]) fun (z_1 : Cap) => bif F.smL z_1.lines then Option.bind (unenc encRSp [AV.agg [(vI (List.getD z k (Cap.mk (0 : Int) (0 : Int) [] (0 : Int) false
  false)).fr), (vI (List.getD z k (Cap.mk (0 : Int) (0 : Int) [] (0 : Int) false false)).to), AV.sl (List.map eStr (List.getD z k (Cap.mk (0 : Int) (0 : Int) [] (0 : Int)
  false false)).lines), (vI (List.getD z k (Cap.mk (0 : Int) (0 : Int) [] (0 : Int) false false)).row), (vB (List.getD z k (Cap.mk (0 : Int) (0 : Int) [] (0 : Int) false
  false)).bef), (vB (List.getD z k (Cap.mk (0 : Int) (0 : Int) [] (0 : Int) false false)).aft)]]) fun (z : Cap) => bif F.smL z.lines then bif bif (F.speed z_1).snd !=
  (F.speed z).snd then true else !((F.speed z_1).fst.num == (F.speed z).fst.num && ((F.speed z_1).fst.den == (F.speed z).fst.den && true)) then some (Ex.ret, St.mk [(6, (vB
  false))] []) else some (Ex.normal, St.mk [(21, (vI (IntKind.wrap IntKind.i64 ((↑k : Int) + (1 : Int))))), (20, (vI (↑(List.length l) : Int))), (19, AV.sl (List.map eCap
  l)), (4, .ptr 4 0 0), (2, (vI g)), (0, AV.sl (List.map eCap l))] [(4, Blk.mk true 0 0 [[(vI m.num), (vI m.den)]])]) else none else none else none else some (Ex.exit (0 :
  Nat), St.mk [(4, .ptr 4 0 0), (2, (vI g)), (0, AV.sl (List.map eCap l))] [(4, Blk.mk true 0 0 [[(vI m.num), (vI m.den)]])]) := by kernel_rfl

theorem lpLSp_ok (m : Ratio) (g : Int) (l : List Cap) (k : Nat) (hp : prlLSp m g l k = true) : ∀ ex s', (outLSp m g l k).val = some (ex, s') → LoopOK enLSp (loopN Tryd.f7 0) (stLSp m g l k) ex s' := by
  simp only [prlLSp, Bool.and_eq_true, decide_eq_true_eq] at hp
  obtain ⟨⟨h1, h2⟩, h3⟩ := hp
  intro ex s' hh
  refine loop_fold (xs := l) (st := fun (_ : Unit) k => stLSp m g l k) (f := fun a _ => a) (fin := fun _ => (.exit 0, ⟨[(4, .ptr 4 0 0), (2, vI g), (0, .sl (l.map eCap))], [(4, ⟨true, 0, 0, [eRatio m]⟩)]⟩)) (I := fun _ _ => True) (n := ([21, 20, 19, 4, 2, 0], [4])) (e := ([4, 2, 0], [4])) (r := ([6], [])) ?_ (fun _ => ⟨by simp, rfl⟩) (fun _ _ => rfl) ?_ () k h2 trivial ex s' hh
  · intro a _
    rw [evLSpL]
    simp
    rfl
  · intro a k y hy _
    have hlt := lt_at hy
    have hsm := F.smC_at h3 (List.mem_of_getElem? hy)
    refine ⟨?_, trivial⟩
    rw [evLSpL]
    simp only [unSp, unRSp, unSl, unRSl, unSa, unEqI, unAwk, unSpw, unRSpw, unSlw, unRSlw, preSp1, preRSp1, preSl1, preRSl1, preSa1, preEqI1, preAwk1, unstLSp, unstLSp0, prlLSp, outLSp, etaCap, etaMch, etaWrd, etaFnd, etaRatio, etaWay, Option.bind_some, List.length_map, unStrs, unInts, unBools, unCaps, uneL_eCaps, unMchs, unWrds, unFnds, unRatios, unWays, F.lt, F.le, cond_true, cond_false, Bool.and_true, Bool.true_and, cast_lt hlt, decide_eq_true hlt, next_at hlt h1, getD_at hy, stLSp, hsm, bne_self_eq_false, eqRatio_refl, beq_self_eq_true]
    rfl

theorem evLSp (l : List Cap) (m : Ratio) (g : Int) : (runF enLSp false Tryd.f7 [.sl (l.map eCap), .agg (eRatio m), vI g]).val =
  Option.bind (unenc stLSp1 (St.mk [(21, (vI (0 : Int))), (20, (vI (↑(List.length (List.map eCap l)) : Int))), (19, AV.sl (List.map eCap l)), (4, .ptr 4 0 0), (2, (vI g)),
  (0, AV.sl (List.map eCap l))] [(4, Blk.mk true 0 0 [[(vI m.num), (vI m.den)]])])) fun (z : Ratio × Int × List Cap × Nat) => bif decide (List.length z.snd.snd.fst ≤
  (9223372036854775807 : Nat)) && decide (z.snd.snd.snd ≤ List.length z.snd.snd.fst) && F.smC z.snd.snd.fst && true then Option.bind (unenc encSl [AV.sl (List.map eCap
  z.snd.snd.fst), AV.agg [(vI z.fst.num), (vI z.fst.den)], (vI z.snd.fst)]) fun (z_1 : List Cap × Ratio × Int) => bif F.smC z_1.fst then Option.bind (unenc encRSl [AV.sl
  (List.map eCap z.snd.snd.fst), AV.agg [(vI z.fst.num), (vI z.fst.den)], (vI z.snd.fst)]) fun (z : List Cap × Ratio × Int) => bif F.smC z.fst then bif (F.slow z_1.fst
  z_1.snd.fst z_1.snd.snd).snd.snd == (F.slow z.fst z.snd.fst z.snd.snd).snd.snd then Option.bind (unenc encSa [AV.sl (List.map eCap (F.slow z_1.fst z_1.snd.fst
  z_1.snd.snd).fst), AV.sl (List.map eCap (F.slow z.fst z.snd.fst z.snd.snd).fst)]) fun (z_2 : List Cap × List Cap) => bif bif (F.slow z_1.fst z_1.snd.fst
  z_1.snd.snd).snd.snd == (F.slow z.fst z.snd.fst z.snd.snd).snd.snd then F.sameCL z_2.fst z_2.snd else false then Option.bind (unenc encEqI [AV.sl (List.map eI (F.slow
  z_1.fst z_1.snd.fst z_1.snd.snd).snd.fst), AV.sl (List.map eI (F.slow z.fst z.snd.fst z.snd.snd).snd.fst)]) fun (z_3 : List Int × List Int) => bif bif bif (F.slow z_1.fst
  z_1.snd.fst z_1.snd.snd).snd.snd == (F.slow z.fst z.snd.fst z.snd.snd).snd.snd then F.sameCL z_2.fst z_2.snd else false then F.sameIL z_3.fst z_3.snd else false then
  Option.bind (unenc encAwk []) fun (z_4 : Unit) => some ((vB (bif bif bif (F.slow z_1.fst z_1.snd.fst z_1.snd.snd).snd.snd == (F.slow z.fst z.snd.fst z.snd.snd).snd.snd
  then F.sameCL z_2.fst z_2.snd else false then F.sameIL z_3.fst z_3.snd else false then true else false)), []) else some ((vB false), []) else some ((vB false), []) else
  some ((vB false), []) else none else none else none := by kernel_rfl

def encLSp1 (l : List Cap) (m : Ratio) (g : Int) : List AV := [.sl (l.map eCap), .agg (eRatio m), vI g]

def encLSp (a : (List Cap) × Ratio × Int) : List AV := encLSp1 a.1 a.2.1 a.2.2

theorem encLSp_inj (a a' : (List Cap) × Ratio × Int) (h : encLSp a = encLSp a') : a = a' := by
  simp only [encLSp, encLSp1] at h
  try simp [strs_inj, ints_inj, bools_inj, eCaps_inj, eCap_iff, eL_eCaps_inj, eMchs_inj, eMch_iff, eWrds_inj, eWrd_iff, eFnds_inj, eFnd_iff, eRatios_inj, eRatio_iff, eWays_inj, eWay_iff] at h
  grind

theorem unLSp (l : List Cap) (m : Ratio) (g : Int) : unenc encLSp ([AV.sl (List.map eCap l), AV.agg [(vI m.num), (vI m.den)], (vI g)]) = some (l, m, g) := unenc_of encLSp_inj (l, m, g) rfl

theorem unLSpw (l : List Cap) (m_num : Int) (m_den : Int) (g : Int) : unenc encLSp ([AV.sl (List.map eCap l), AV.agg [(vI m_num), (vI m_den)], (vI g)]) = some (l, (Ratio.mk m_num m_den), g) := unenc_of encLSp_inj (l, (Ratio.mk m_num m_den), g) rfl

def resLSp1 (l : List Cap) (m : Ratio) (g : Int) : AV × Heap := (vB true, [])

def preLSp1 (l : List Cap) (m : Ratio) (g : Int) : Bool := F.smC l

noncomputable def oLSp : Orc := orc 7 false encLSp (fun a => preLSp1 a.1 a.2.1 a.2.2) fun a => resLSp1 a.1 a.2.1 a.2.2

theorem okLSp : OrcOK Tryd.prog noG oLSp := by
  refine mk_ok Tryd.f7 (keep := false) (by kernel_rfl) (by kernel_rfl) enLSp_ok mixed (one_loop (x0 := loopN Tryd.f7 0) (by kernel_rfl) (lpo_ok ?_)) (by first | exact fun _ _ => ⟨rfl, rfl⟩ | (intro h; cases h)) ?_
  · rintro ⟨m, g, l, k⟩ hp
    exact lpLSp_ok m g l k hp
  rintro ⟨l, m, g⟩ hpre hok
  show (runF enLSp false _ (encLSp1 _ _ _)).val = some (resLSp1 _ _ _)
  unfold encLSp1 resLSp1
  rw [evLSp]
  simp only [preLSp1] at hpre
  have hx := caps_len (hok _ (List.mem_cons_self ..))
  simp only [unSp, unRSp, unSl, unRSl, unSa, unEqI, unAwk, unSpw, unRSpw, unSlw, unRSlw, preSp1, preRSp1, preSl1, preRSl1, preSa1, preEqI1, preAwk1, unstLSp, unstLSp0, prlLSp, outLSp, etaCap, etaMch, etaWrd, etaFnd, etaRatio, etaWay, Option.bind_some, List.length_map, unStrs, unInts, unBools, unCaps, uneL_eCaps, unMchs, unWrds, unFnds, unRatios, unWays, F.lt, F.le, cond_true, cond_false, Bool.and_true, Bool.true_and, hpre, hx, Nat.zero_le, decide_true, F.sameCL_refl, F.sameIL_refl, bne_self_eq_false, beq_self_eq_true]

end M
end Go.Proofs.YtniealifncgilaaDoor
