/- What is proved here: Join of the reference (no statement of the seat). -/
import Derived.Test.YtlnflhmepnbcmaaDoorC75
namespace Go.Proofs.YtlnflhmepnbcmaaDoor
open Go Go.RowKit
set_option linter.unusedVariables false
set_option linter.unusedSimpArgs false
set_option maxHeartbeats 1000000

namespace M

def stRJ0 (l : List (List Cap)) (bs : List Int) (k : Nat) : St := ⟨[(21, vI k), (20, vI l.length), (19, .sl (l.map eL_eCap)), (1, .sl (bs.map eI)), (0, .sl (l.map eL_eCap))], []⟩

def stRJ01 (a : (List (List Cap)) × (List Int) × Nat) : St := stRJ0 a.1 a.2.1 a.2.2

theorem stRJ0_inj (a a' : (List (List Cap)) × (List Int) × Nat) (h : stRJ01 a = stRJ01 a') : a = a' := by
  simp only [stRJ01, stRJ0] at h
  try simp [strs_inj, ints_inj, bools_inj, eCaps_inj, eCap_iff, eL_eCaps_inj, eMchs_inj, eMch_iff, eWrds_inj, eWrd_iff, eFnds_inj, eFnd_iff, eRatios_inj, eRatio_iff, eWays_inj, eWay_iff] at h
  grind

theorem unstRJ0 (l : List (List Cap)) (bs : List Int) (k : Nat) : unenc stRJ01 (St.mk [(21, (vI (↑k : Int))), (20, (vI (↑(List.length l) : Int))), (19, AV.sl (List.map eL_eCap l)), (1, AV.sl (List.map eI bs)), (0, AV.sl (List.map eL_eCap l))] []) = some (l, bs, k) := unenc_of stRJ0_inj (l, bs, k) rfl

theorem unstRJ00 (l : List (List Cap)) (bs : List Int)  : unenc stRJ01 (St.mk [(21, (vI (0 : Int))), (20, (vI (↑(List.length l) : Int))), (19, AV.sl (List.map eL_eCap l)), (1, AV.sl (List.map eI bs)), (0, AV.sl (List.map eL_eCap l))] []) = some (l, bs, 0) := unenc_of stRJ0_inj (l, bs, 0) rfl

def outRJ0 (l : List (List Cap)) (bs : List Int) (k : Nat) : T (Ex × St) := .ifB (decide (M.ffI F.chkC (l.drop k) = 0)) (.ret (.exit 0, ⟨[(1, .sl (bs.map eI)), (0, .sl (l.map eL_eCap))], []⟩)) (.ret (.ret, ⟨[(5, vI (M.ffI F.chkC (l.drop k))), (4, .own 4)], [(4, ⟨false, 67, 6, []⟩)]⟩))

noncomputable def prlRJ0 (l : List (List Cap)) (bs : List Int) (k : Nat) : Bool := decide (l.length ≤ 9223372036854775807) && decide (k ≤ l.length) && F.smLL l

noncomputable def lpRJ0 : Nat × (St → T (Ex × St)) := (2, lpo [21, 20, 19, 1, 0] [] stRJ01 (fun a => prlRJ0 a.1 a.2.1 a.2.2) fun a => outRJ0 a.1 a.2.1 a.2.2)

def stRJ1 (l : List (List Cap)) (bs : List Int) (k : Nat) : St := ⟨[(44, vI k), (43, vI l.length), (42, .sl (l.map eL_eCap)), (1, .sl (bs.map eI)), (0, .sl (l.map eL_eCap))], []⟩

def stRJ11 (a : (List (List Cap)) × (List Int) × Nat) : St := stRJ1 a.1 a.2.1 a.2.2

theorem stRJ1_inj (a a' : (List (List Cap)) × (List Int) × Nat) (h : stRJ11 a = stRJ11 a') : a = a' := by
  simp only [stRJ11, stRJ1] at h
  try simp [strs_inj, ints_inj, bools_inj, eCaps_inj, eCap_iff, eL_eCaps_inj, eMchs_inj, eMch_iff, eWrds_inj, eWrd_iff, eFnds_inj, eFnd_iff, eRatios_inj, eRatio_iff, eWays_inj, eWay_iff] at h
  grind

theorem unstRJ1 (l : List (List Cap)) (bs : List Int) (k : Nat) : unenc stRJ11 (St.mk [(44, (vI (↑k : Int))), (43, (vI (↑(List.length l) : Int))), (42, AV.sl (List.map eL_eCap l)), (1, AV.sl (List.map eI bs)), (0, AV.sl (List.map eL_eCap l))] []) = some (l, bs, k) := unenc_of stRJ1_inj (l, bs, k) rfl

theorem unstRJ10 (l : List (List Cap)) (bs : List Int)  : unenc stRJ11 (St.mk [(44, (vI (0 : Int))), (43, (vI (↑(List.length l) : Int))), (42, AV.sl (List.map eL_eCap l)), (1, AV.sl (List.map eI bs)), (0, AV.sl (List.map eL_eCap l))] []) = some (l, bs, 0) := unenc_of stRJ1_inj (l, bs, 0) rfl

def outRJ1 (l : List (List Cap)) (bs : List Int) (k : Nat) : T (Ex × St) := .ifB (decide (F.segF (l.drop k) (bs.drop k) = 0)) (.ret (.exit 2, ⟨[(1, .sl (bs.map eI)), (0, .sl (l.map eL_eCap))], []⟩)) (.ret (.ret, ⟨[(5, vI (F.segF (l.drop k) (bs.drop k))), (4, .own 4)], [(4, ⟨false, 67, 6, []⟩)]⟩))

noncomputable def prlRJ1 (l : List (List Cap)) (bs : List Int) (k : Nat) : Bool := decide (bs.length ≤ 200) && decide (k ≤ l.length) && decide (l.length + 1 = bs.length)

noncomputable def lpRJ1 : Nat × (St → T (Ex × St)) := (14, lpo [44, 43, 42, 1, 0] [] stRJ11 (fun a => prlRJ1 a.1 a.2.1 a.2.2) fun a => outRJ1 a.1 a.2.1 a.2.2)

def stRJ2 (l : List (List Cap)) (bs : List Int) (out : List Cap) (k : Nat) : St := ⟨[(66, vI k), (65, vI l.length), (64, .sl (l.map eL_eCap)), (13, .own 13), (1, .sl (bs.map eI))], [(13, ⟨false, 67, 6, out.map eCap⟩)]⟩

def stRJ21 (a : (List (List Cap)) × (List Int) × (List Cap) × Nat) : St := stRJ2 a.1 a.2.1 a.2.2.1 a.2.2.2

theorem stRJ2_inj (a a' : (List (List Cap)) × (List Int) × (List Cap) × Nat) (h : stRJ21 a = stRJ21 a') : a = a' := by
  simp only [stRJ21, stRJ2] at h
  try simp [strs_inj, ints_inj, bools_inj, eCaps_inj, eCap_iff, eL_eCaps_inj, eMchs_inj, eMch_iff, eWrds_inj, eWrd_iff, eFnds_inj, eFnd_iff, eRatios_inj, eRatio_iff, eWays_inj, eWay_iff] at h
  grind

theorem unstRJ2 (l : List (List Cap)) (bs : List Int) (out : List Cap) (k : Nat) : unenc stRJ21 (St.mk [(66, (vI (↑k : Int))), (65, (vI (↑(List.length l) : Int))), (64, AV.sl (List.map eL_eCap l)), (13, .own 13), (1, AV.sl (List.map eI bs))] [(13, Blk.mk false 67 6
  (List.map eCap out))]) = some (l, bs, out, k) := unenc_of stRJ2_inj (l, bs, out, k) rfl

theorem unstRJ20 (l : List (List Cap)) (bs : List Int)  : unenc stRJ21 (St.mk [(66, (vI (0 : Int))), (65, (vI (↑(List.length l) : Int))), (64, AV.sl (List.map eL_eCap l)), (13, .own 13), (1, AV.sl (List.map eI bs))] [(13, Blk.mk false 67 6
  [])]) = some (l, bs, [], 0) := unenc_of stRJ2_inj (l, bs, [], 0) rfl

def outRJ2 (l : List (List Cap)) (bs : List Int) (out : List Cap) (k : Nat) : T (Ex × St) := .ret (.exit 4, ⟨[(13, .own 13)], [(13, ⟨false, 67, 6, (F.jnB (l.drop k) (bs.drop k) out).map eCap⟩)]⟩)

noncomputable def prlRJ2 (l : List (List Cap)) (bs : List Int) (out : List Cap) (k : Nat) : Bool := decide (M.ffI F.chkC l = 0 ∧ bs.length ≤ 200 ∧ l.length + 1 = bs.length ∧ k ≤ l.length ∧ out.length ≤ k * 500)

noncomputable def lpRJ2 : Nat × (St → T (Ex × St)) := (22, lpo [66, 65, 64, 13, 1] [13] stRJ21 (fun a => prlRJ2 a.1 a.2.1 a.2.2.1 a.2.2.2) fun a => outRJ2 a.1 a.2.1 a.2.2.1 a.2.2.2)

def stRJ3 (l : List (List Cap)) (bs : List Int) (out : List Cap) (k : Nat) (p : List Cap) (j : Nat) : St := ⟨[(73, vI j), (72, vI p.length), (71, .sl (p.map eCap)), (66, vI k), (65, vI l.length), (64, .sl (l.map eL_eCap)), (14, vI k), (13, .own 13), (1, .sl (bs.map eI))], [(13, ⟨false, 67, 6, out.map eCap⟩)]⟩

def stRJ31 (a : (List (List Cap)) × (List Int) × (List Cap) × Nat × (List Cap) × Nat) : St := stRJ3 a.1 a.2.1 a.2.2.1 a.2.2.2.1 a.2.2.2.2.1 a.2.2.2.2.2

theorem stRJ3_inj (a a' : (List (List Cap)) × (List Int) × (List Cap) × Nat × (List Cap) × Nat) (h : stRJ31 a = stRJ31 a') : a = a' := by
  simp only [stRJ31, stRJ3] at h
  try simp [strs_inj, ints_inj, bools_inj, eCaps_inj, eCap_iff, eL_eCaps_inj, eMchs_inj, eMch_iff, eWrds_inj, eWrd_iff, eFnds_inj, eFnd_iff, eRatios_inj, eRatio_iff, eWays_inj, eWay_iff] at h
  grind

theorem unstRJ3 (l : List (List Cap)) (bs : List Int) (out : List Cap) (k : Nat) (p : List Cap) (j : Nat) : unenc stRJ31 (St.mk [(73, (vI (↑j : Int))), (72, (vI (↑(List.length p) : Int))), (71, AV.sl (List.map eCap p)), (66, (vI (↑k : Int))), (65, (vI (↑(List.length l) : Int))), (64, AV.sl
  (List.map eL_eCap l)), (14, (vI (↑k : Int))), (13, .own 13), (1, AV.sl (List.map eI bs))] [(13, Blk.mk false 67 6 (List.map eCap out))]) = some (l, bs, out, k, p, j) := unenc_of stRJ3_inj (l, bs, out, k, p, j) rfl

theorem unstRJ30 (l : List (List Cap)) (bs : List Int) (out : List Cap) (k : Nat) (p : List Cap)  : unenc stRJ31 (St.mk [(73, (vI (0 : Int))), (72, (vI (↑(List.length p) : Int))), (71, AV.sl (List.map eCap p)), (66, (vI (↑k : Int))), (65, (vI (↑(List.length l) : Int))), (64, AV.sl
  (List.map eL_eCap l)), (14, (vI (↑k : Int))), (13, .own 13), (1, AV.sl (List.map eI bs))] [(13, Blk.mk false 67 6 (List.map eCap out))]) = some (l, bs, out, k, p, 0) := unenc_of stRJ3_inj (l, bs, out, k, p, 0) rfl

def outRJ3 (l : List (List Cap)) (bs : List Int) (out : List Cap) (k : Nat) (p : List Cap) (j : Nat) : T (Ex × St) := .ret (.exit 6, ⟨[(66, vI k), (65, vI l.length), (64, .sl (l.map eL_eCap)), (13, .own 13), (1, .sl (bs.map eI))], [(13, ⟨false, 67, 6, ((p.drop j).foldl (F.jnS (bs.getD k 0)) out).map eCap⟩)]⟩)

noncomputable def prlRJ3 (l : List (List Cap)) (bs : List Int) (out : List Cap) (k : Nat) (p : List Cap) (j : Nat) : Bool := decide (p.length ≤ 500 ∧ k < bs.length ∧ bs.length ≤ 200 ∧ j ≤ p.length ∧ out.length ≤ k * 500 + j)

noncomputable def lpRJ3 : Nat × (St → T (Ex × St)) := (25, lpo [73, 72, 71, 66, 65, 64, 14, 13, 1] [13] stRJ31 (fun a => prlRJ3 a.1 a.2.1 a.2.2.1 a.2.2.2.1 a.2.2.2.2.1 a.2.2.2.2.2) fun a => outRJ3 a.1 a.2.1 a.2.2.1 a.2.2.2.1 a.2.2.2.2.1 a.2.2.2.2.2)

noncomputable def enRJ : Env := envH ty noG lks [oRhC, oRBF, oCkP, oCt, oSo] [] [] [lpRJ0, lpRJ1, lpRJ2, lpRJ3]

theorem enRJ_ok : EnvOK Tryd.prog enRJ := by
  refine envH_ok lks_ok ty_ok ?_ ?_
  · simp only [List.forall_mem_cons]
    exact ⟨okRhC, okRBF, okCkP, okCt, okSo, by simp⟩
  · simp

theorem evRJ0L (l : List (List Cap)) (bs : List Int) (k : Nat) : ((exec enRJ (loopN Tryd.f26 0) (stRJ0 l bs k)).bind (lessX ([21, 20, 19, 1, 0], []) ([1, 0], []) ([5, 4], [4]))).val =
  bif decide ((↑k : Int) < (↑(List.length l) : Int)) then Option.bind (unenc (List.map eL_eCap) (List.map eL_eCap l)) fun (z : List (List Cap)) => bif decide (k <
  List.length z) then Option.bind (unenc encRhC [AV.sl (List.map eCap (List.getD z k []))]) fun (z : List Cap) => bif F.smC z then bif F.chkC z != (0 : Int) then some
  (Ex.ret, St.mk [(5, (vI (F.chkC z))), (4, .own 4)] [(4, Blk.mk false 67 6 [])]) else some (Ex.normal, St.mk [(21, (vI (IntKind.wrap IntKind.i64 ((↑k : Int) + (1 :
  Int))))), (20, (vI (↑(List.length l) : Int))), (19, AV.sl (List.map eL_eCap l)), (1, AV.sl (List.map eI bs)), (0, AV.sl (List.map eL_eCap l))] []) else none else none else
  some (Ex.exit (0 : Nat), St.mk [(1, AV.sl (List.map eI bs)), (0, AV.sl (List.map eL_eCap l))] []) := (execR_bind _ _ _).symm.trans (by kernel_rfl)

theorem lpRJ0_ok (l : List (List Cap)) (bs : List Int) (k : Nat) (hp : prlRJ0 l bs k = true) : ∀ ex s', (outRJ0 l bs k).val = some (ex, s') → LoopOK enRJ (loopN Tryd.f26 0) (stRJ0 l bs k) ex s' := by
  simp only [prlRJ0, Bool.and_eq_true, decide_eq_true_eq] at hp
  obtain ⟨⟨h1, h2⟩, h3⟩ := hp
  refine loop_code (xs := l) (st := stRJ0 l bs) (g := F.chkC) (o := fun c => (.ret, ⟨[(5, vI c), (4, .own 4)], [(4, ⟨false, 67, 6, []⟩)]⟩)) (n := ([21, 20, 19, 1, 0], [])) (e := ([1, 0], [])) (r := ([5, 4], [4])) ?_ ⟨by simp, rfl⟩ (fun _ => ⟨by simp, rfl⟩) (fun _ => rfl) ?_ k h2
  · rw [evRJ0L]; simp
  · intro k y hy
    have hlt := lt_at hy
    have hsm : F.smC y = true := List.all_eq_true.1 h3 y (List.mem_of_getElem? hy)
    rw [evRJ0L]
    simp only [unRhC, unRBF, unCkP, unCt, unSo, unCtw, preRhC1, preRBF1, preCkP1, preCt1, preSo1, unstRJ0, unstRJ1, unstRJ2, unstRJ3, unstRJ00, unstRJ10, unstRJ20, unstRJ30, prlRJ0, prlRJ1, prlRJ2, prlRJ3, outRJ0, outRJ1, outRJ2, outRJ3, etaCap, etaMch, etaWrd, etaFnd, etaRatio, etaWay, Option.bind_some, List.length_map, unStrs, unInts, unBools, unCaps, uneL_eCaps, unMchs, unWrds, unFnds, unRatios, unWays, F.lt, F.le, cond_true, cond_false, Bool.and_true, Bool.true_and, cast_lt hlt, decide_eq_true hlt, next_at hlt h1, getD_at hy, hsm, stRJ0]
    by_cases h : F.chkC y = 0
    · rw [bne0 h, if_pos h]; rfl
    · rw [bne1 h, if_neg h]; rfl

theorem evRJ1L (l : List (List Cap)) (bs : List Int) (k : Nat) : ((exec enRJ (loopN Tryd.f26 1) (stRJ1 l bs k)).bind (lessX ([44, 43, 42, 1, 0], []) ([1, 0], []) ([5, 4], [4]))).val =
  bif decide ((↑k : Int) < (↑(List.length l) : Int)) then Option.bind (unenc (List.map eL_eCap) (List.map eL_eCap l)) fun (z : List (List Cap)) => bif decide (k <
  List.length z) then Option.bind (unenc (List.map eI) (List.map eI bs)) fun (z_1 : List Int) => bif decide (k < List.length z_1) then Option.bind (idx (IntKind.wrap
  IntKind.i64 ((↑k : Int) + (1 : Int)))) fun (z_2 : Nat) => Option.bind (unenc (List.map eI) (List.map eI bs)) fun (z_3 : List Int) => bif decide (z_2 < List.length z_3)
  then Option.bind (unenc encCkP [AV.sl (List.map eCap (List.getD z k [])), (vI (List.getD z_1 k (0 : Int))), (vI (List.getD z_3 z_2 (0 : Int)))]) fun (z : List Cap × Int ×
  Int) => bif ffI (F.prtF z.snd.fst z.snd.snd) z.fst != (0 : Int) then some (Ex.ret, St.mk [(5, (vI (ffI (F.prtF z.snd.fst z.snd.snd) z.fst))), (4, .own 4)] [(4, Blk.mk
  false 67 6 [])]) else some (Ex.normal, St.mk [(44, (vI (IntKind.wrap IntKind.i64 ((↑k : Int) + (1 : Int))))), (43, (vI (↑(List.length l) : Int))), (42, AV.sl (List.map
  eL_eCap l)), (1, AV.sl (List.map eI bs)), (0, AV.sl (List.map eL_eCap l))] []) else none else none else none else some (Ex.exit (2 : Nat), St.mk [(1, AV.sl (List.map eI
  bs)), (0, AV.sl (List.map eL_eCap l))] []) := (execR_bind _ _ _).symm.trans (by kernel_rfl)

theorem lpRJ1_ok (l : List (List Cap)) (bs : List Int) (k : Nat) (hp : prlRJ1 l bs k = true) : ∀ ex s', (outRJ1 l bs k).val = some (ex, s') → LoopOK enRJ (loopN Tryd.f26 1) (stRJ1 l bs k) ex s' := by
  simp only [prlRJ1, Bool.and_eq_true, decide_eq_true_eq] at hp
  obtain ⟨⟨h1, h2⟩, h3⟩ := hp
  refine loop_gen (st := stRJ1 l bs) (out := outRJ1 l bs) (I := fun k => k ≤ l.length) (n := ([44, 43, 42, 1, 0], [])) (e := ([1, 0], [])) (r := ([5, 4], [4])) (fun k => l.length - k) ?_ k h2
  intro k hk
  by_cases hlt : k < l.length
  · have hy : l[k]? = some l[k] := List.getElem?_eq_getElem hlt
    generalize l[k] = y at hy
    obtain ⟨a, ha⟩ := at_lt (show k < bs.length by omega)
    obtain ⟨b, hb⟩ := at_lt (show k + 1 < bs.length by omega)
    have hs := F.segF_at hy ha hb
    by_cases hc : M.ffI (F.prtF a b) y = 0
    · right
      rw [bne0 hc, cond_false] at hs
      refine ⟨k + 1, ?_, rfl, hlt, by omega, by simp only [outRJ1, hs]⟩
      rw [evRJ1L]
      simp only [unRhC, unRBF, unCkP, unCt, unSo, unCtw, preRhC1, preRBF1, preCkP1, preCt1, preSo1, unstRJ0, unstRJ1, unstRJ2, unstRJ3, unstRJ00, unstRJ10, unstRJ20, unstRJ30, prlRJ0, prlRJ1, prlRJ2, prlRJ3, outRJ0, outRJ1, outRJ2, outRJ3, etaCap, etaMch, etaWrd, etaFnd, etaRatio, etaWay, Option.bind_some, List.length_map, unStrs, unInts, unBools, unCaps, uneL_eCaps, unMchs, unWrds, unFnds, unRatios, unWays, F.lt, F.le, cond_true, cond_false, Bool.and_true, Bool.true_and, cast_lt hlt, decide_eq_true hlt, getD_at hy, idx_nat, decide_eq_true (lt_at ha), decide_eq_true (lt_at hb), getD_at ha, getD_at hb, bne0 hc, w_add1 (show k < 9223372036854775807 by omega), stRJ1]
    · left
      rw [bne1 hc, cond_true] at hs
      refine ⟨(.ret, ⟨[(5, vI (M.ffI (F.prtF a b) y)), (4, .own 4)], [(4, ⟨false, 67, 6, []⟩)]⟩), ?_, ?_, by simp, rfl⟩
      · rw [evRJ1L]
        simp only [unRhC, unRBF, unCkP, unCt, unSo, unCtw, preRhC1, preRBF1, preCkP1, preCt1, preSo1, unstRJ0, unstRJ1, unstRJ2, unstRJ3, unstRJ00, unstRJ10, unstRJ20, unstRJ30, prlRJ0, prlRJ1, prlRJ2, prlRJ3, outRJ0, outRJ1, outRJ2, outRJ3, etaCap, etaMch, etaWrd, etaFnd, etaRatio, etaWay, Option.bind_some, List.length_map, unStrs, unInts, unBools, unCaps, uneL_eCaps, unMchs, unWrds, unFnds, unRatios, unWays, F.lt, F.le, cond_true, cond_false, Bool.and_true, Bool.true_and, cast_lt hlt, decide_eq_true hlt, getD_at hy, idx_nat, decide_eq_true (lt_at ha), decide_eq_true (lt_at hb), getD_at ha, getD_at hb, bne1 hc, w_add1 (show k < 9223372036854775807 by omega)]
      · simp [outRJ1, hs, hc, T.val]
  · left
    have : k = l.length := by omega
    subst this
    refine ⟨(.exit 2, ⟨[(1, .sl (bs.map eI)), (0, .sl (l.map eL_eCap))], []⟩), ?_, ?_, by simp, rfl⟩
    · rw [evRJ1L]; simp
    · simp [outRJ1, F.segF, T.val]

theorem evRJ3L (l : List (List Cap)) (bs : List Int) (out : List Cap) (k : Nat) (p : List Cap) (j : Nat) : ((exec enRJ (loopN Tryd.f26 3) (stRJ3 l bs out k p j)).bind (lessX ([73, 72, 71, 66, 65, 64, 14, 13, 1], [13]) ([66, 65, 64, 13, 1], [13]) ([], []))).val =
  bif decide ((↑j : Int) < (↑(List.length p) : Int)) then Option.bind (unenc (List.map eCap) (List.map eCap p)) fun (z : List Cap) => bif decide (j < List.length z) then bif
  (List.getD z j (Cap.mk (0 : Int) (0 : Int) [] (0 : Int) false false)).bef then Option.bind (unenc (List.map eI) (List.map eI bs)) fun (z_1 : List Int) => bif decide (k <
  List.length z_1) then bif (List.getD z j (Cap.mk (0 : Int) (0 : Int) [] (0 : Int) false false)).fr == List.getD z_1 k (0 : Int) then Option.bind (unenc encCt [AV.sl
  (List.map eCap out), AV.agg [(vI (List.getD z j (Cap.mk (0 : Int) (0 : Int) [] (0 : Int) false false)).fr), (vI (List.getD z j (Cap.mk (0 : Int) (0 : Int) [] (0 : Int)
  false false)).to), AV.sl (List.map eStr (List.getD z j (Cap.mk (0 : Int) (0 : Int) [] (0 : Int) false false)).lines), (vI (List.getD z j (Cap.mk (0 : Int) (0 : Int) [] (0
  : Int) false false)).row), (vB (List.getD z j (Cap.mk (0 : Int) (0 : Int) [] (0 : Int) false false)).bef), (vB (List.getD z j (Cap.mk (0 : Int) (0 : Int) [] (0 : Int)
  false false)).aft)]]) fun (z_2 : List Cap × Cap) => bif decide (F.idxI (F.findI (F.contd z_2.snd) (0 : Nat) z_2.fst) < (0 : Int)) then bif Nat.ble ((List.length (List.map
  eCap out) + (1 : Nat)) * (56 : Nat)) (140737488355328 : Nat) && true then some (Ex.normal, St.mk [(73, (vI (IntKind.wrap IntKind.i64 ((↑j : Int) + (1 : Int))))), (72, (vI
  (↑(List.length p) : Int))), (71, AV.sl (List.map eCap p)), (66, (vI (↑k : Int))), (65, (vI (↑(List.length l) : Int))), (64, AV.sl (List.map eL_eCap l)), (14, (vI (↑k :
  Int))), (13, .own 13), (1, AV.sl (List.map eI bs))] [(13, Blk.mk false 67 6 (List.map eCap out ++ [[(vI (List.getD z j (Cap.mk (0 : Int) (0 : Int) [] (0 : Int) false
  false)).fr), (vI (List.getD z j (Cap.mk (0 : Int) (0 : Int) [] (0 : Int) false false)).to), AV.sl (List.map eStr (List.getD z j (Cap.mk (0 : Int) (0 : Int) [] (0 : Int)
  false false)).lines), (vI (List.getD z j (Cap.mk (0 : Int) (0 : Int) [] (0 : Int) false false)).row), (vB (List.getD z j (Cap.mk (0 : Int) (0 : Int) [] (0 : Int) false
  false)).bef), (vB (List.getD z j (Cap.mk (0 : Int) (0 : Int) [] (0 : Int) false false)).aft)]]))]) else none else Option.bind (idx (F.idxI (F.findI (F.contd z_2.snd) (0 :
  Nat) z_2.fst))) fun (z_3 : Nat) => bif decide (z_3 < List.length (Blk.mk false 67 6 (List.map eCap out)).rows) then Option.bind (unenc (List.map eCap) (List.map eCap out))
  fun (z_4 : List Cap) => bif decide (z_3 < List.length z_4) then Option.bind (idx (F.idxI (F.findI (F.contd z_2.snd) (0 : Nat) z_2.fst))) fun (z_5 : Nat) => bif decide (z_5
  < List.length (Blk.mk false 67 6 (List.set (List.map eCap out) z_3 [(vI (List.getD z_4 z_3 (Cap.mk (0 : Int) (0 : Int) [] (0 : Int) false false)).fr), (vI (List.getD z j
  (Cap.mk (0 : Int) (0 : Int) [] (0 : Int) false false)).to), AV.sl (List.map eStr (List.getD z_4 z_3 (Cap.mk (0 : Int) (0 : Int) [] (0 : Int) false false)).lines), (vI
  (List.getD z_4 z_3 (Cap.mk (0 : Int) (0 : Int) [] (0 : Int) false false)).row), (vB (List.getD z_4 z_3 (Cap.mk (0 : Int) (0 : Int) [] (0 : Int) false false)).bef), (vB
  (List.getD z_4 z_3 (Cap.mk (0 : Int) (0 : Int) [] (0 : Int) false false)).aft)])).rows) then Option.bind (unenc (List.map eCap) (List.set (List.map eCap out) z_3 [(vI
  (List.getD z_4 z_3 (Cap.mk (0 : Int) (0 : Int) [] (0 : Int) false false)).fr), (vI (List.getD z j (Cap.mk (0 : Int) (0 : Int) [] (0 : Int) false false)).to), AV.sl
  (List.map eStr (List.getD z_4 z_3 (Cap.mk (0 : Int) (0 : Int) [] (0 : Int) false false)).lines), (vI (List.getD z_4 z_3 (Cap.mk (0 : Int) (0 : Int) [] (0 : Int) false
  false)).row), (vB (List.getD z_4 z_3 (Cap.mk (0 : Int) (0 : Int) [] (0 : Int) false false)).bef), (vB (List.getD z_4 z_3 (Cap.mk (0 : Int) (0 : Int) [] (0 : Int) false
  false)).aft)])) fun (z_6 : List Cap) => bif decide (z_5 < List.length z_6) then some (Ex.normal, St.mk [(73, (vI (IntKind.wrap IntKind.i64 ((↑j : Int) + (1 : Int))))),
  (72, (vI (↑(List.length p) : Int))), (71, AV.sl (List.map eCap p)), (66, (vI (↑k : Int))), (65, (vI (↑(List.length l) : Int))), (64, AV.sl (List.map eL_eCap l)), (14, (vI
  (↑k : Int))), (13, .own 13), (1, AV.sl (List.map eI bs))] [(13, Blk.mk false 67 6 (List.set (List.set (List.map eCap out) z_3 [(vI (List.getD z_4 z_3 (Cap.mk (0 : Int) (0
  : Int) [] (0 : Int) false false)).fr), (vI (List.getD z j (Cap.mk (0 : Int) (0 : Int) [] (0 : Int) false false)).to), AV.sl (List.map eStr (List.getD z_4 z_3 (Cap.mk (0 :
  Int) (0 : Int) [] (0 : Int) false false)).lines), (vI (List.getD z_4 z_3 (Cap.mk (0 : Int) (0 : Int) [] (0 : Int) false false)).row), (vB (List.getD z_4 z_3 (Cap.mk (0 :
  Int) (0 : Int) [] (0 : Int) false false)).bef), (vB (List.getD z_4 z_3 (Cap.mk (0 : Int) (0 : Int) [] (0 : Int) false false)).aft)]) z_5 [(vI (List.getD z_6 z_5 (Cap.mk (0
  : Int) (0 : Int) [] (0 : Int) false false)).fr), (vI (List.getD z_6 z_5 (Cap.mk (0 : Int) (0 : Int) [] (0 : Int) false false)).to), AV.sl (List.map eStr (List.getD z_6 z_5
  (Cap.mk (0 : Int) (0 : Int) [] (0 : Int) false false)).lines), (vI (List.getD z_6 z_5 (Cap.mk (0 : Int) (0 : Int) [] (0 : Int) false false)).row), (vB (List.getD z_6 z_5
  (Cap.mk (0 : Int) (0 : Int) [] (0 : Int) false false)).bef), (vB (List.getD z j (Cap.mk (0 : Int) (0 : Int) [] (0 : Int) false false)).aft)]))]) else none else none else
  none else none else bif Nat.ble ((List.length (List.map eCap out) + (1 : Nat)) * (56 : Nat)) (140737488355328 : Nat) && true then some (Ex.normal, St.mk [(73, (vI
  (IntKind.wrap IntKind.i64 ((↑j : Int) + (1 : Int))))), (72, (vI (↑(List.length p) : Int))), (71, AV.sl (List.map eCap p)), (66, (vI (↑k : Int))), (65, (vI (↑(List.length
  l) : Int))), (64, AV.sl (List.map eL_eCap l)), (14, (vI (↑k : Int))), (13, .own 13), (1, AV.sl (List.map eI bs))] [(13, Blk.mk false 67 6 (List.map eCap out ++ [[(vI
  (List.getD z j (Cap.mk (0 : Int) (0 : Int) [] (0 : Int) false false)).fr), (vI (List.getD z j (Cap.mk (0 : Int) (0 : Int) [] (0 : Int) false false)).to), AV.sl (List.map
  eStr (List.getD z j (Cap.mk (0 : Int) (0 : Int) [] (0 : Int) false false)).lines), (vI (List.getD z j (Cap.mk (0 : Int) (0 : Int) [] (0 : Int) false false)).row), (vB
  (List.getD z j (Cap.mk (0 : Int) (0 : Int) [] (0 : Int) false false)).bef), (vB (List.getD z j (Cap.mk (0 : Int) (0 : Int) [] (0 : Int) false false)).aft)]]))]) else none
  else none else bif Nat.ble ((List.length (List.map eCap out) + (1 : Nat)) * (56 : Nat)) (140737488355328 : Nat) && true then some (Ex.normal, St.mk [(73, (vI (IntKind.wrap
  IntKind.i64 ((↑j : Int) + (1 : Int))))), (72, (vI (↑(List.length p) : Int))), (71, AV.sl (List.map eCap p)), (66, (vI (↑k : Int))), (65, (vI (↑(List.length l) : Int))),
  (64, AV.sl (List.map eL_eCap l)), (14, (vI (↑k : Int))), (13, .own 13), (1, AV.sl (List.map eI bs))] [(13, Blk.mk false 67 6 (List.map eCap out ++ [[(vI (List.getD z j
  (Cap.mk (0 : Int) (0 : Int) [] (0 : Int) false false)).fr), (vI (List.getD z j (Cap.mk (0 : Int) (0 : Int) [] (0 : Int) false false)).to), AV.sl (List.map eStr (List.getD
  z j (Cap.mk (0 : Int) (0 : Int) [] (0 : Int) false false)).lines), (vI (List.getD z j (Cap.mk (0 : Int) (0 : Int) [] (0 : Int) false false)).row), (vB (List.getD z j
  (Cap.mk (0 : Int) (0 : Int) [] (0 : Int) false false)).bef), (vB (List.getD z j (Cap.mk (0 : Int) (0 : Int) [] (0 : Int) false false)).aft)]]))]) else none else none else
  some (Ex.exit (6 : Nat), St.mk [(66, (vI (↑k : Int))), (65, (vI (↑(List.length l) : Int))), (64, AV.sl (List.map eL_eCap l)), (13, .own 13), (1, AV.sl (List.map eI bs))]
  [(13, Blk.mk false 67 6 (List.map eCap out))]) := (execR_bind _ _ _).symm.trans (by kernel_rfl)

theorem lpRJ3_ok (l : List (List Cap)) (bs : List Int) (out : List Cap) (k : Nat) (p : List Cap) (j : Nat) (hp : prlRJ3 l bs out k p j = true) : ∀ ex s', (outRJ3 l bs out k p j).val = some (ex, s') → LoopOK enRJ (loopN Tryd.f26 3) (stRJ3 l bs out k p j) ex s' := by
  simp only [prlRJ3, Bool.and_eq_true, decide_eq_true_eq] at hp
  obtain ⟨h1, h2, h3, h4, h5⟩ := hp
  obtain ⟨a, ha⟩ := at_lt (show k < bs.length from h2)
  refine loop_gen (st := fun s : List Cap × Nat => stRJ3 l bs s.1 k p s.2) (out := fun s => outRJ3 l bs s.1 k p s.2) (I := fun s => s.2 ≤ p.length ∧ s.1.length ≤ k * 500 + s.2) (n := ([73, 72, 71, 66, 65, 64, 14, 13, 1], [13])) (e := ([66, 65, 64, 13, 1], [13])) (r := ([], [])) (fun s => p.length - s.2) ?_ (out, j) ⟨h4, h5⟩
  rintro ⟨out, j⟩ ⟨h4, h5⟩
  simp only at h4 h5
  by_cases hlt : j < p.length
  · right
    have hy : p[j]? = some p[j] := List.getElem?_eq_getElem hlt
    generalize p[j] = y at hy
    have hbl : Nat.ble ((out.length + 1) * 56) 140737488355328 = true := ble_t (by omega)
    have hS := F.jnS_len a out y
    refine ⟨(F.jnS a out y, j + 1), ?_, rfl, ⟨hlt, by simp only; omega⟩, by simp only; omega, ?_⟩
    · rw [evRJ3L]
      have hm : decide ((-1 : Int) < 0) = true := rfl
      have app : F.jnI a out y = none → F.jnS a out y = out ++ [y] := fun h => by unfold F.jnS; rw [h]
      cases hb : y.bef
      · have e : F.jnI a out y = none := by unfold F.jnI; rw [hb]; rfl
        simp only [unRhC, unRBF, unCkP, unCt, unSo, unCtw, preRhC1, preRBF1, preCkP1, preCt1, preSo1, unstRJ0, unstRJ1, unstRJ2, unstRJ3, unstRJ00, unstRJ10, unstRJ20, unstRJ30, prlRJ0, prlRJ1, prlRJ2, prlRJ3, outRJ0, outRJ1, outRJ2, outRJ3, etaCap, etaMch, etaWrd, etaFnd, etaRatio, etaWay, Option.bind_some, List.length_map, unStrs, unInts, unBools, unCaps, uneL_eCaps, unMchs, unWrds, unFnds, unRatios, unWays, F.lt, F.le, cond_true, cond_false, Bool.and_true, Bool.true_and, cast_lt hlt, decide_eq_true hlt, getD_at hy, hb, hm, hbl, next_at hlt (by omega : p.length ≤ 9223372036854775807), app e, appWCaps, stRJ3]
      · cases hf : y.fr == a
        · have e : F.jnI a out y = none := by unfold F.jnI; rw [hb, hf]; rfl
          simp only [unRhC, unRBF, unCkP, unCt, unSo, unCtw, preRhC1, preRBF1, preCkP1, preCt1, preSo1, unstRJ0, unstRJ1, unstRJ2, unstRJ3, unstRJ00, unstRJ10, unstRJ20, unstRJ30, prlRJ0, prlRJ1, prlRJ2, prlRJ3, outRJ0, outRJ1, outRJ2, outRJ3, etaCap, etaMch, etaWrd, etaFnd, etaRatio, etaWay, Option.bind_some, List.length_map, unStrs, unInts, unBools, unCaps, uneL_eCaps, unMchs, unWrds, unFnds, unRatios, unWays, F.lt, F.le, cond_true, cond_false, Bool.and_true, Bool.true_and, cast_lt hlt, decide_eq_true hlt, getD_at hy, hb, hf, decide_eq_true (lt_at ha), getD_at ha, hm, hbl, next_at hlt (by omega : p.length ≤ 9223372036854775807), app e, appWCaps, stRJ3]
        · have e : F.jnI a out y = F.findI (F.contd y) 0 out := by unfold F.jnI; rw [hb, hf]; rfl
          cases hx : F.findI (F.contd y) 0 out with
          | none =>
            have hi : F.idxI none = -1 := rfl
            simp only [unRhC, unRBF, unCkP, unCt, unSo, unCtw, preRhC1, preRBF1, preCkP1, preCt1, preSo1, unstRJ0, unstRJ1, unstRJ2, unstRJ3, unstRJ00, unstRJ10, unstRJ20, unstRJ30, prlRJ0, prlRJ1, prlRJ2, prlRJ3, outRJ0, outRJ1, outRJ2, outRJ3, etaCap, etaMch, etaWrd, etaFnd, etaRatio, etaWay, Option.bind_some, List.length_map, unStrs, unInts, unBools, unCaps, uneL_eCaps, unMchs, unWrds, unFnds, unRatios, unWays, F.lt, F.le, cond_true, cond_false, Bool.and_true, Bool.true_and, cast_lt hlt, decide_eq_true hlt, getD_at hy, hb, hf, decide_eq_true (lt_at ha), getD_at ha, hx, hi, hm, hbl, next_at hlt (by omega : p.length ≤ 9223372036854775807), app (e.trans hx), appWCaps, stRJ3]
          | some i =>
            have hil : i < out.length := by have := F.findI_lt hx; omega
            have hi : F.idxI (some i) = ((i : Nat) : Int) := rfl
            have h0 : decide ((0 : Int) ≤ ((i : Nat) : Int)) = true := decide_eq_true (by omega)
            have h00 : decide (((i : Nat) : Int) < (0 : Int)) = false := decide_eq_false (by omega)
            have ho : out[i]? = some out[i] := List.getElem?_eq_getElem hil
            generalize out[i] = o at ho
            have e2 : F.jnS a out y = out.set i (F.jnU y o) := by unfold F.jnS; rw [e, hx]; simp only [getD_at ho]
            simp only [unRhC, unRBF, unCkP, unCt, unSo, unCtw, preRhC1, preRBF1, preCkP1, preCt1, preSo1, unstRJ0, unstRJ1, unstRJ2, unstRJ3, unstRJ00, unstRJ10, unstRJ20, unstRJ30, prlRJ0, prlRJ1, prlRJ2, prlRJ3, outRJ0, outRJ1, outRJ2, outRJ3, etaCap, etaMch, etaWrd, etaFnd, etaRatio, etaWay, Option.bind_some, List.length_map, unStrs, unInts, unBools, unCaps, uneL_eCaps, unMchs, unWrds, unFnds, unRatios, unWays, F.lt, F.le, cond_true, cond_false, Bool.and_true, Bool.true_and, cast_lt hlt, decide_eq_true hlt, getD_at hy, hb, hf, decide_eq_true (lt_at ha), getD_at ha, hx, hi, h0, h00, idx_nat, decide_eq_true hil, getD_at ho, setWCaps, getD_set hil, List.length_set, List.set_set, next_at hlt (by omega : p.length ≤ 9223372036854775807), e2, F.jnU, stRJ3]
    · simp only [outRJ3, F.fold_at hy, getD_at ha]
  · left
    have : j = p.length := by omega
    subst this
    refine ⟨_, ?_, rfl, by simp, rfl⟩
    rw [evRJ3L]
    simp

theorem evRJ2L (l : List (List Cap)) (bs : List Int) (out : List Cap) (k : Nat) : ((exec enRJ (loopN Tryd.f26 2) (stRJ2 l bs out k)).bind (lessX ([66, 65, 64, 13, 1], [13]) ([13], [13]) ([], []))).val =
  bif decide ((↑k : Int) < (↑(List.length l) : Int)) then Option.bind (unenc (List.map eL_eCap) (List.map eL_eCap l)) fun (z : List (List Cap)) => bif decide (k <
  List.length z) then Option.bind (unenc stRJ31 (St.mk [(73, (vI (0 : Int))), (72, (vI (↑(List.length (List.map eCap (List.getD z k []))) : Int))), (71, AV.sl (List.map eCap
  (List.getD z k []))), (66, (vI (↑k : Int))), (65, (vI (↑(List.length l) : Int))), (64, AV.sl (List.map eL_eCap l)), (14, (vI (↑k : Int))), (13, .own 13), (1, AV.sl
  (List.map eI bs))] [(13, Blk.mk false 67 6 (List.map eCap out))])) fun (z : List (List Cap) × List Int × List Cap × Nat × List Cap × Nat) => bif decide (List.length
  z.snd.snd.snd.snd.fst ≤ (500 : Nat) ∧ z.snd.snd.snd.fst < List.length z.snd.fst ∧ List.length z.snd.fst ≤ (200 : Nat) ∧ z.snd.snd.snd.snd.snd ≤ List.length
  z.snd.snd.snd.snd.fst ∧ List.length z.snd.snd.fst ≤ z.snd.snd.snd.fst * (500 : Nat) + z.snd.snd.snd.snd.snd) && true then some (Ex.normal, St.mk [(66, (vI (IntKind.wrap
  IntKind.i64 ((↑z.snd.snd.snd.fst : Int) + (1 : Int))))), (65, (vI (↑(List.length z.fst) : Int))), (64, AV.sl (List.map eL_eCap z.fst)), (13, .own 13), (1, AV.sl (List.map
  eI z.snd.fst))] [(13, Blk.mk false 67 6 (List.map eCap (List.foldl (F.jnS (List.getD z.snd.fst z.snd.snd.snd.fst (0 : Int))) z.snd.snd.fst (List.drop z.snd.snd.snd.snd.snd
  z.snd.snd.snd.snd.fst))))]) else none else none else some (Ex.exit (4 : Nat), St.mk [(13, .own 13)] [(13, Blk.mk false 67 6 (List.map eCap out))]) := (execR_bind _ _ _).symm.trans (by kernel_rfl)

theorem lpRJ2_ok (l : List (List Cap)) (bs : List Int) (out : List Cap) (k : Nat) (hp : prlRJ2 l bs out k = true) : ∀ ex s', (outRJ2 l bs out k).val = some (ex, s') → LoopOK enRJ (loopN Tryd.f26 2) (stRJ2 l bs out k) ex s' := by
  simp only [prlRJ2, Bool.and_eq_true, decide_eq_true_eq] at hp
  obtain ⟨h1, h2, h3, h4, h5⟩ := hp
  refine loop_gen (st := fun s : List Cap × Nat => stRJ2 l bs s.1 s.2) (out := fun s => outRJ2 l bs s.1 s.2) (I := fun s => s.2 ≤ l.length ∧ s.1.length ≤ s.2 * 500) (n := ([66, 65, 64, 13, 1], [13])) (e := ([13], [13])) (r := ([], [])) (fun s => l.length - s.2) ?_ (out, k) ⟨h4, h5⟩
  rintro ⟨out, k⟩ ⟨h4, h5⟩
  simp only at h4 h5
  by_cases hlt : k < l.length
  · right
    have hy : l[k]? = some l[k] := List.getElem?_eq_getElem hlt
    generalize l[k] = y at hy
    obtain ⟨a, ha⟩ := at_lt (show k < bs.length by omega)
    have hl := F.chk_len (ffI_all h1 y (List.mem_of_getElem? hy))
    have hF := F.jnF_len a y out
    refine ⟨(y.foldl (F.jnS a) out, k + 1), ?_, rfl, ⟨hlt, by simp only; omega⟩, by simp only; omega, ?_⟩
    · rw [evRJ2L]
      have q1 : y.length ≤ 500 ∧ k < bs.length ∧ bs.length ≤ 200 ∧ 0 ≤ y.length ∧ out.length ≤ k * 500 + 0 := ⟨hl, by omega, h2, Nat.zero_le _, by rw [Nat.add_zero]; exact h5⟩
      simp only [unRhC, unRBF, unCkP, unCt, unSo, unCtw, preRhC1, preRBF1, preCkP1, preCt1, preSo1, unstRJ0, unstRJ1, unstRJ2, unstRJ3, unstRJ00, unstRJ10, unstRJ20, unstRJ30, prlRJ0, prlRJ1, prlRJ2, prlRJ3, outRJ0, outRJ1, outRJ2, outRJ3, etaCap, etaMch, etaWrd, etaFnd, etaRatio, etaWay, Option.bind_some, List.length_map, unStrs, unInts, unBools, unCaps, uneL_eCaps, unMchs, unWrds, unFnds, unRatios, unWays, F.lt, F.le, cond_true, cond_false, Bool.and_true, Bool.true_and, cast_lt hlt, decide_eq_true hlt, getD_at hy, decide_eq_true q1, List.drop_zero, getD_at ha, next_at hlt (by omega : l.length ≤ 9223372036854775807), stRJ2]
    · simp only [outRJ2, F.jnB_at hy ha]
  · left
    have : k = l.length := by omega
    subst this
    refine ⟨_, ?_, rfl, by simp, rfl⟩
    rw [evRJ2L]
    simp [F.jnB_end]

theorem evRJ (l : List (List Cap)) (bs : List Int) : (runF enRJ false Tryd.f26 [.sl (l.map eL_eCap), .sl (bs.map eI)]).val =
  Option.bind (unenc stRJ01 (St.mk [(21, (vI (0 : Int))), (20, (vI (↑(List.length (List.map eL_eCap l)) : Int))), (19, AV.sl (List.map eL_eCap l)), (1, AV.sl (List.map eI
  bs)), (0, AV.sl (List.map eL_eCap l))] [])) fun (z : List (List Cap) × List Int × Nat) => bif decide (List.length z.fst ≤ (9223372036854775807 : Nat)) && decide (z.snd.snd
  ≤ List.length z.fst) && F.smLL z.fst && true then bif decide (ffI F.chkC (List.drop z.snd.snd z.fst) = (0 : Int)) then Option.bind (unenc encRBF [AV.sl (List.map eI
  z.snd.fst)]) fun (z_1 : List Int) => bif F.bnds z_1 != (0 : Int) then some (AV.tup [AV.sl [], (vI (F.bnds z_1))], []) else bif (↑(List.length (List.map eL_eCap z.fst)) :
  Int) != IntKind.wrap IntKind.i64 ((↑(List.length (List.map eI z.snd.fst)) : Int) - (1 : Int)) then some (AV.tup [AV.sl [], (vI (3 : Int))], []) else Option.bind (unenc
  stRJ11 (St.mk [(44, (vI (0 : Int))), (43, (vI (↑(List.length (List.map eL_eCap z.fst)) : Int))), (42, AV.sl (List.map eL_eCap z.fst)), (1, AV.sl (List.map eI z.snd.fst)),
  (0, AV.sl (List.map eL_eCap z.fst))] [])) fun (z : List (List Cap) × List Int × Nat) => bif decide (List.length z.snd.fst ≤ (200 : Nat)) && decide (z.snd.snd ≤ List.length
  z.fst) && decide (List.length z.fst + (1 : Nat) = List.length z.snd.fst) && true then bif decide (F.segF (List.drop z.snd.snd z.fst) (List.drop z.snd.snd z.snd.fst) = (0 :
  Int)) then Option.bind (unenc stRJ21 (St.mk [(66, (vI (0 : Int))), (65, (vI (↑(List.length (List.map eL_eCap z.fst)) : Int))), (64, AV.sl (List.map eL_eCap z.fst)), (13,
  .own 13), (1, AV.sl (List.map eI z.snd.fst))] [(13, Blk.mk false 67 6 [])])) fun (z : List (List Cap) × List Int × List Cap × Nat) => bif decide (ffI F.chkC z.fst = (0 :
  Int) ∧ List.length z.snd.fst ≤ (200 : Nat) ∧ List.length z.fst + (1 : Nat) = List.length z.snd.fst ∧ z.snd.snd.snd ≤ List.length z.fst ∧ List.length z.snd.snd.fst ≤
  z.snd.snd.snd * (500 : Nat)) && true then bif decide ((500 : Int) < (↑(List.length (List.map eCap (F.jnB (List.drop z.snd.snd.snd z.fst) (List.drop z.snd.snd.snd
  z.snd.fst) z.snd.snd.fst))) : Int)) then some (AV.tup [AV.sl [], (vI (2 : Int))], []) else Option.bind (unenc encSo [AV.sl (List.map eCap (F.jnB (List.drop z.snd.snd.snd
  z.fst) (List.drop z.snd.snd.snd z.snd.fst) z.snd.snd.fst))]) fun (z : List Cap) => bif decide (List.length z ≤ (100000 : Nat)) then some (AV.tup [AV.sl (List.map eCap
  (K.srt F.ltC z)), (vI (0 : Int))], []) else none else none else some (AV.tup [AV.sl [], (vI (F.segF (List.drop z.snd.snd z.fst) (List.drop z.snd.snd z.snd.fst)))], [])
  else none else some (AV.tup [AV.sl [], (vI (ffI F.chkC (List.drop z.snd.snd z.fst)))], []) else none := (runFR_val).symm.trans (by kernel_rfl)

def encRJ1 (l : List (List Cap)) (bs : List Int) : List AV := [.sl (l.map eL_eCap), .sl (bs.map eI)]

def encRJ (a : (List (List Cap)) × (List Int)) : List AV := encRJ1 a.1 a.2

theorem encRJ_inj (a a' : (List (List Cap)) × (List Int)) (h : encRJ a = encRJ a') : a = a' := by
  simp only [encRJ, encRJ1] at h
  try simp [strs_inj, ints_inj, bools_inj, eCaps_inj, eCap_iff, eL_eCaps_inj, eMchs_inj, eMch_iff, eWrds_inj, eWrd_iff, eFnds_inj, eFnd_iff, eRatios_inj, eRatio_iff, eWays_inj, eWay_iff] at h
  grind

theorem unRJ (l : List (List Cap)) (bs : List Int) : unenc encRJ ([AV.sl (List.map eL_eCap l), AV.sl (List.map eI bs)]) = some (l, bs) := unenc_of encRJ_inj (l, bs) rfl

def resRJ1 (l : List (List Cap)) (bs : List Int) : AV × Heap := (.tup [.sl ((F.joinL l bs).1.map eCap), vI (F.joinL l bs).2], [])

def preRJ1 (l : List (List Cap)) (bs : List Int) : Bool := F.smLL l

noncomputable def oRJ : Orc := orc 26 false encRJ (fun a => preRJ1 a.1 a.2) fun a => resRJ1 a.1 a.2

theorem okRJ : OrcOK Tryd.prog noG oRJ := by
  refine mk_ok Tryd.f26 (keep := false) (by kernel_rfl) (by kernel_rfl) enRJ_ok mixed (four_loops (x0 := loopN Tryd.f26 0) (x1 := loopN Tryd.f26 1) (x2 := loopN Tryd.f26 2) (x3 := loopN Tryd.f26 3) (by kernel_rfl) (lpo_ok ?_) (lpo_ok ?_) (lpo_ok ?_) (lpo_ok ?_)) (by first | exact fun _ _ => ⟨rfl, rfl⟩ | (intro h; cases h)) ?_
  · rintro ⟨l, bs, k⟩ hp
    exact lpRJ0_ok l bs k hp
  · rintro ⟨l, bs, k⟩ hp
    exact lpRJ1_ok l bs k hp
  · rintro ⟨l, bs, out, k⟩ hp
    exact lpRJ2_ok l bs out k hp
  · rintro ⟨l, bs, out, k, p, j⟩ hp
    exact lpRJ3_ok l bs out k p j hp
  rintro ⟨l, bs⟩ hpre hok
  show (runF enRJ false _ (encRJ1 _ _)).val = some (resRJ1 _ _)
  unfold encRJ1 resRJ1
  rw [evRJ]
  simp only [preRJ1] at hpre
  have hx : l.length ≤ 9223372036854775807 := by simpa using (okA_sl (hok _ (List.mem_cons_self ..))).1
  simp only [unRhC, unRBF, unCkP, unCt, unSo, unCtw, preRhC1, preRBF1, preCkP1, preCt1, preSo1, unstRJ0, unstRJ1, unstRJ2, unstRJ3, unstRJ00, unstRJ10, unstRJ20, unstRJ30, prlRJ0, prlRJ1, prlRJ2, prlRJ3, outRJ0, outRJ1, outRJ2, outRJ3, etaCap, etaMch, etaWrd, etaFnd, etaRatio, etaWay, Option.bind_some, List.length_map, unStrs, unInts, unBools, unCaps, uneL_eCaps, unMchs, unWrds, unFnds, unRatios, unWays, F.lt, F.le, cond_true, cond_false, Bool.and_true, Bool.true_and, hx, hpre, List.drop_zero, Nat.zero_le, decide_true, F.joinL]
  by_cases h0 : F.prtsF l bs = 0
  case neg =>
    rw [bne1 h0]
    unfold F.prtsF at h0 ⊢
    by_cases g0 : M.ffI F.chkC l = 0
    case neg =>
      simp only [decide_eq_false g0, bne1 g0, cond_true, cond_false]
      rfl
    simp only [bne0 g0, cond_false] at h0 ⊢
    simp only [decide_eq_true g0, cond_true]
    by_cases hb : F.bnds bs = 0
    case neg =>
      simp only [bne1 hb, cond_true]
      rfl
    obtain ⟨b1, b2⟩ := F.bnds_ok hb
    simp only [bne0 hb, cond_false] at h0 ⊢
    simp only [w_sub1 (show 1 ≤ bs.length by omega) (show bs.length ≤ 9223372036854775807 by omega)]
    have e : ((l.length : Int) != ((bs.length - 1 : Nat) : Int)) = (l.length + 1 != bs.length) := by
      by_cases h : l.length + 1 = bs.length
      · rw [show bs.length - 1 = l.length by omega]; simp [h]
      · have h2 : ¬ ((l.length : Int) = ((bs.length - 1 : Nat) : Int)) := by omega
        rw [bne_iff_ne.2 h, bne_iff_ne.2 h2]
    rw [e]
    by_cases h : l.length + 1 = bs.length
    case neg =>
      rw [show (l.length + 1 != bs.length) = true from bne_iff_ne.2 h]; rfl
    rw [show (l.length + 1 != bs.length) = false by simp [h]] at h0 ⊢
    simp only [cond_false] at h0
    simp only [cond_false, decide_eq_true b2, decide_eq_true h, cond_true, decide_eq_false h0]
    rfl
  obtain ⟨g0, p2, p3⟩ := F.prts_ok h0
  obtain ⟨b1, b2⟩ := F.bnds_ok p2
  rw [bne0 h0]
  unfold F.prtsF at h0
  have e : ((l.length : Int) != ((bs.length - 1 : Nat) : Int)) = false := by
    rw [show bs.length - 1 = l.length by omega]; simp
  have e2 : (l.length + 1 != bs.length) = false := by simp [p3]
  simp only [bne0 g0, bne0 p2, e2, cond_false] at h0
  have q1 : M.ffI F.chkC l = 0 ∧ bs.length ≤ 200 ∧ l.length + 1 = bs.length ∧ True ∧ ([] : List Cap).length ≤ 0 * 500 := ⟨g0, b2, p3, trivial, Nat.le_refl _⟩
  have e5 : ∀ n : Nat, decide ((500 : Int) < (n : Int)) = decide (500 < n) := fun n => cast_gt 500 n
  simp only [decide_eq_true g0, bne0 p2, w_sub1 (show 1 ≤ bs.length by omega) (show bs.length ≤ 9223372036854775807 by omega), e, decide_eq_true b2, decide_eq_true p3, decide_eq_true h0, cond_false, decide_eq_true q1, cond_true, Bool.and_true, Bool.true_and, List.drop_zero, unstRJ20, Option.bind_some, e5, List.length_map]
  by_cases hb : 500 < (F.jnB l bs []).length
  · rw [decide_eq_true hb]; rfl
  · rw [decide_eq_false hb]
    simp only [cond_false, unSo, Option.bind_some, preSo1, decide_eq_true (show (F.jnB l bs []).length ≤ 100000 by omega), cond_true]

end M
end Go.Proofs.YtlnflhmepnbcmaaDoor
