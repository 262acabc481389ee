/- What is proved here: Split of both (no statement of the seat). -/
import Derived.Test.YtlnflhmepnbcmaaDoorC71
import Derived.Test.YtlnflhmepnbcmaaDoorC64
namespace Go.Proofs.YtlnflhmepnbcmaaDoor
open Go Go.RowKit
set_option linter.unusedVariables false
set_option linter.unusedSimpArgs false
set_option maxHeartbeats 1000000

/-- The part of a caption between two times. -/
def F.cutC (a b : Int) (c : Cap) : Option Cap :=
  bif F.le (min c.to b) (max c.fr a) then none else some ⟨max c.fr a, min c.to b, c.lines, c.row, c.bef || F.lt c.fr (max c.fr a), c.aft || F.lt (min c.to b) c.to⟩

def F.splitB (l : List Cap) : List Int → List (List Cap)
  | a :: b :: r => K.srt F.ltC (l.filterMap (F.cutC a b)) :: F.splitB l (b :: r)
  | _ => []

def F.cutL (l : List Cap) (bs : List Int) : List (List Cap) × Int :=
  bif F.chkC l != 0 then ([], F.chkC l) else bif F.bnds bs != 0 then ([], F.bnds bs) else (F.splitB l bs, 0)

theorem F.splitB_at {l : List Cap} {bs : List Int} {k : Nat} {a b : Int} (ha : bs[k]? = some a) (hb : bs[k + 1]? = some b) : F.splitB l (bs.drop k) = K.srt F.ltC (l.filterMap (F.cutC a b)) :: F.splitB l (bs.drop (k + 1)) := by
  rw [M.drop_at ha, M.drop_at hb]
  rfl

theorem F.splitB_end {l : List Cap} {bs : List Int} {k : Nat} (h : bs.length ≤ k + 1) : F.splitB l (bs.drop k) = [] := by
  have : (bs.drop k).length ≤ 1 := by rw [List.length_drop]; omega
  match hd : bs.drop k with
  | [] => rfl
  | [_] => rfl
  | _ :: _ :: _ => rw [hd] at this; simp at this

theorem F.filterMap_len {α β : Type} (f : α → Option β) : ∀ l : List α, (l.filterMap f).length ≤ l.length := List.length_filterMap_le f

theorem F.bnds_ok {bs : List Int} (h : F.bnds bs = 0) : 2 ≤ bs.length ∧ bs.length ≤ 200 := by
  unfold F.bnds at h
  by_cases h1 : bs.length < 2
  · rw [decide_eq_true h1, cond_true] at h; cases h
  · rw [decide_eq_false h1, cond_false] at h
    by_cases h2 : 200 < bs.length
    · rw [decide_eq_true h2, cond_true] at h; cases h
    · omega

namespace M

def stSp1 (l : List Cap) (bs : List Int) (out : List (List Cap)) (k : Nat) : St := ⟨[(8, vI k), (7, .own 7), (1, .sl (bs.map eI)), (0, .sl (l.map eCap))], [(7, ⟨false, 29, 1, out.map eL_eCap⟩)]⟩

def stSp11 (a : (List Cap) × (List Int) × (List (List Cap)) × Nat) : St := stSp1 a.1 a.2.1 a.2.2.1 a.2.2.2

theorem stSp1_inj (a a' : (List Cap) × (List Int) × (List (List Cap)) × Nat) (h : stSp11 a = stSp11 a') : a = a' := by
  simp only [stSp11, stSp1] at h
  try simp [strs_inj, ints_inj, bools_inj, eCaps_inj, eCap_iff, eL_eCaps_inj, eMchs_inj, eMch_iff, eWrds_inj, eWrd_iff, eFnds_inj, eFnd_iff, eRatios_inj, eRatio_iff, eWays_inj, eWay_iff] at h
  grind

theorem unstSp1 (l : List Cap) (bs : List Int) (out : List (List Cap)) (k : Nat) : unenc stSp11 (St.mk [(8, (vI (↑k : Int))), (7, .own 7), (1, AV.sl (List.map eI bs)), (0, AV.sl (List.map eCap l))] [(7, Blk.mk false 29 1 (List.map eL_eCap out))]) = some (l, bs, out, k) := unenc_of stSp1_inj (l, bs, out, k) rfl

theorem unstSp10 (l : List Cap) (bs : List Int)  : unenc stSp11 (St.mk [(8, (vI (1 : Int))), (7, .own 7), (1, AV.sl (List.map eI bs)), (0, AV.sl (List.map eCap l))] [(7, Blk.mk false 29 1 [])]) = some (l, bs, [], 1) := unenc_of stSp1_inj (l, bs, [], 1) rfl

def outSp1 (l : List Cap) (bs : List Int) (out : List (List Cap)) (k : Nat) : T (Ex × St) := .ret (.exit 0, ⟨[(7, .own 7)], [(7, ⟨false, 29, 1, (out ++ F.splitB l (bs.drop (k - 1))).map eL_eCap⟩)]⟩)

noncomputable def prlSp1 (l : List Cap) (bs : List Int) (out : List (List Cap)) (k : Nat) : Bool := decide (l.length ≤ 100000 ∧ bs.length ≤ 200 ∧ 1 ≤ k ∧ k ≤ bs.length ∧ out.length ≤ k) && F.capSm l

noncomputable def lpSp1 : Nat × (St → T (Ex × St)) := (6, lpo [8, 7, 1, 0] [7] stSp11 (fun a => prlSp1 a.1 a.2.1 a.2.2.1 a.2.2.2) fun a => outSp1 a.1 a.2.1 a.2.2.1 a.2.2.2)

def stSp2 (l : List Cap) (bs : List Int) (out : List (List Cap)) (k : Nat) (ps : List Cap) (j : Nat) : St := ⟨[(32, vI j), (31, vI l.length), (30, .own 31000), (9, .own 9), (8, vI k), (7, .own 7), (1, .sl (bs.map eI)), (0, .sl (l.map eCap))], [(31000, ⟨false, 67, 6, l.map eCap⟩), (9, ⟨false, 67, 6, ps.map eCap⟩), (7, ⟨false, 29, 1, out.map eL_eCap⟩)]⟩

def stSp21 (a : (List Cap) × (List Int) × (List (List Cap)) × Nat × (List Cap) × Nat) : St := stSp2 a.1 a.2.1 a.2.2.1 a.2.2.2.1 a.2.2.2.2.1 a.2.2.2.2.2

theorem stSp2_inj (a a' : (List Cap) × (List Int) × (List (List Cap)) × Nat × (List Cap) × Nat) (h : stSp21 a = stSp21 a') : a = a' := by
  simp only [stSp21, stSp2] at h
  try simp [strs_inj, ints_inj, bools_inj, eCaps_inj, eCap_iff, eL_eCaps_inj, eMchs_inj, eMch_iff, eWrds_inj, eWrd_iff, eFnds_inj, eFnd_iff, eRatios_inj, eRatio_iff, eWays_inj, eWay_iff] at h
  grind

theorem unstSp2 (l : List Cap) (bs : List Int) (out : List (List Cap)) (k : Nat) (ps : List Cap) (j : Nat) : unenc stSp21 (St.mk [(32, (vI (↑j : Int))), (31, (vI (↑(List.length l) : Int))), (30, .own 31000), (9, .own 9), (8, (vI (↑k : Int))), (7, .own 7), (1, AV.sl (List.map eI bs)), (0, AV.sl
  (List.map eCap l))] [(31000, Blk.mk false 67 6 (List.map eCap l)), (9, Blk.mk false 67 6 (List.map eCap ps)), (7, Blk.mk false 29 1 (List.map eL_eCap out))]) = some (l, bs, out, k, ps, j) := unenc_of stSp2_inj (l, bs, out, k, ps, j) rfl

theorem unstSp20 (l : List Cap) (bs : List Int) (out : List (List Cap)) (k : Nat)  : unenc stSp21 (St.mk [(32, (vI (0 : Int))), (31, (vI (↑(List.length l) : Int))), (30, .own 31000), (9, .own 9), (8, (vI (↑k : Int))), (7, .own 7), (1, AV.sl (List.map eI bs)), (0, AV.sl
  (List.map eCap l))] [(31000, Blk.mk false 67 6 (List.map eCap l)), (9, Blk.mk false 67 6 []), (7, Blk.mk false 29 1 (List.map eL_eCap out))]) = some (l, bs, out, k, [], 0) := unenc_of stSp2_inj (l, bs, out, k, [], 0) rfl

def outSp2 (l : List Cap) (bs : List Int) (out : List (List Cap)) (k : Nat) (ps : List Cap) (j : Nat) : T (Ex × St) := .ret (.exit 2, ⟨[(9, .own 9), (8, vI k), (7, .own 7), (1, .sl (bs.map eI)), (0, .sl (l.map eCap))], [(9, ⟨false, 67, 6, (ps ++ (l.drop j).filterMap (F.cutC (bs.getD (k - 1) 0) (bs.getD k 0))).map eCap⟩), (7, ⟨false, 29, 1, out.map eL_eCap⟩)]⟩)

noncomputable def prlSp2 (l : List Cap) (bs : List Int) (out : List (List Cap)) (k : Nat) (ps : List Cap) (j : Nat) : Bool := decide (l.length ≤ 100000 ∧ bs.length ≤ 200 ∧ 1 ≤ k ∧ k < bs.length ∧ j ≤ l.length ∧ ps.length ≤ j)

noncomputable def lpSp2 : Nat × (St → T (Ex × St)) := (10, lpo [32, 31, 30, 9, 8, 7, 1, 0] [31000, 9, 7] stSp21 (fun a => prlSp2 a.1 a.2.1 a.2.2.1 a.2.2.2.1 a.2.2.2.2.1 a.2.2.2.2.2) fun a => outSp2 a.1 a.2.1 a.2.2.1 a.2.2.2.1 a.2.2.2.2.1 a.2.2.2.2.2)

noncomputable def enSp : Env := envH ty noG lks [oChC, oBF, oFst, oCpO] [oSSt] [] [lpSp1, lpSp2]

theorem enSp_ok : EnvOK Tryd.prog enSp := by
  refine envH_ok lks_ok ty_ok ?_ ?_
  · simp only [List.forall_mem_cons]
    exact ⟨okChC, okBF, okFst, okCpO, by simp⟩
  · simp only [List.forall_mem_cons]
    exact ⟨okSSt, by simp⟩

theorem evSp2L (l : List Cap) (bs : List Int) (out : List (List Cap)) (k : Nat) (ps : List Cap) (j : Nat) : ((exec enSp (loopN Tryd.f16 1) (stSp2 l bs out k ps j)).bind (lessX ([32, 31, 30, 9, 8, 7, 1, 0], [31000, 9, 7]) ([9, 8, 7, 1, 0], [9, 7]) ([], []))).val =
  bif decide ((↑j : Int) < (↑(List.length l) : Int)) then bif decide (j < List.length (Blk.mk false 67 6 (List.map eCap l)).rows) then Option.bind (unenc (List.map eCap)
  (List.map eCap l)) fun (z : List Cap) => bif decide (j < List.length z) then Option.bind (idx (IntKind.wrap IntKind.i64 ((↑k : Int) - (1 : Int)))) fun (z_1 : Nat) =>
  Option.bind (unenc (List.map eI) (List.map eI bs)) fun (z_2 : List Int) => bif decide (z_1 < List.length z_2) then Option.bind (unenc (List.map eI) (List.map eI bs)) fun
  (z_3 : List Int) => bif decide (k < List.length z_3) then bif decide (min (List.getD z j (Cap.mk (0 : Int) (0 : Int) [] (0 : Int) false false)).to (List.getD z_3 k (0 :
  Int)) ≤ max (List.getD z j (Cap.mk (0 : Int) (0 : Int) [] (0 : Int) false false)).fr (List.getD z_2 z_1 (0 : Int))) then some (Ex.normal, St.mk [(32, (vI (IntKind.wrap
  IntKind.i64 ((↑j : Int) + (1 : Int))))), (31, (vI (↑(List.length l) : Int))), (30, .own 31000), (9, .own 9), (8, (vI (↑k : Int))), (7, .own 7), (1, AV.sl (List.map eI
  bs)), (0, AV.sl (List.map eCap l))] [(31000, Blk.mk false 67 6 (List.map eCap l)), (9, Blk.mk false 67 6 (List.map eCap ps)), (7, Blk.mk false 29 1 (List.map eL_eCap
  out))]) else bif Nat.ble ((List.length (List.map eCap ps) + (1 : Nat)) * (56 : Nat)) (140737488355328 : Nat) && true then some (Ex.normal, St.mk [(32, (vI (IntKind.wrap
  IntKind.i64 ((↑j : Int) + (1 : Int))))), (31, (vI (↑(List.length l) : Int))), (30, .own 31000), (9, .own 9), (8, (vI (↑k : Int))), (7, .own 7), (1, AV.sl (List.map eI
  bs)), (0, AV.sl (List.map eCap l))] [(31000, Blk.mk false 67 6 (List.map eCap l)), (9, Blk.mk false 67 6 (List.map eCap ps ++ [[(vI (max (List.getD z j (Cap.mk (0 : Int)
  (0 : Int) [] (0 : Int) false false)).fr (List.getD z_2 z_1 (0 : Int)))), (vI (min (List.getD z j (Cap.mk (0 : Int) (0 : Int) [] (0 : Int) false false)).to (List.getD z_3 k
  (0 : Int)))), AV.sl (List.map eStr (List.getD z j (Cap.mk (0 : Int) (0 : Int) [] (0 : Int) false false)).lines), (vI (List.getD z j (Cap.mk (0 : Int) (0 : Int) [] (0 :
  Int) false false)).row), (vB (bif (List.getD z j (Cap.mk (0 : Int) (0 : Int) [] (0 : Int) false false)).bef then true else decide ((List.getD z j (Cap.mk (0 : Int) (0 :
  Int) [] (0 : Int) false false)).fr < max (List.getD z j (Cap.mk (0 : Int) (0 : Int) [] (0 : Int) false false)).fr (List.getD z_2 z_1 (0 : Int))))), (vB (bif (List.getD z j
  (Cap.mk (0 : Int) (0 : Int) [] (0 : Int) false false)).aft then true else decide (min (List.getD z j (Cap.mk (0 : Int) (0 : Int) [] (0 : Int) false false)).to (List.getD
  z_3 k (0 : Int)) < (List.getD z j (Cap.mk (0 : Int) (0 : Int) [] (0 : Int) false false)).to)))]])), (7, Blk.mk false 29 1 (List.map eL_eCap out))]) else none else none
  else none else none else none else some (Ex.exit (2 : Nat), St.mk [(9, .own 9), (8, (vI (↑k : Int))), (7, .own 7), (1, AV.sl (List.map eI bs)), (0, AV.sl (List.map eCap
  l))] [(9, Blk.mk false 67 6 (List.map eCap ps)), (7, Blk.mk false 29 1 (List.map eL_eCap out))]) := (execR_bind _ _ _).symm.trans (by kernel_rfl)

theorem lpSp2_ok (l : List Cap) (bs : List Int) (out : List (List Cap)) (k : Nat) (ps : List Cap) (j : Nat) (hp : prlSp2 l bs out k ps j = true) : ∀ ex s', (outSp2 l bs out k ps j).val = some (ex, s') → LoopOK enSp (loopN Tryd.f16 1) (stSp2 l bs out k ps j) ex s' := by
  simp only [prlSp2, Bool.and_eq_true, decide_eq_true_eq] at hp
  obtain ⟨h1, h2, h3, h4, h5, h6⟩ := hp
  refine loop_gen (st := fun s : List Cap × Nat => stSp2 l bs out k s.1 s.2) (out := fun s => outSp2 l bs out k s.1 s.2) (I := fun s => s.2 ≤ l.length ∧ s.1.length ≤ s.2) (n := ([32, 31, 30, 9, 8, 7, 1, 0], [31000, 9, 7])) (e := ([9, 8, 7, 1, 0], [9, 7])) (r := ([], [])) (fun s => l.length - s.2) ?_ (ps, j) ⟨h5, h6⟩
  rintro ⟨ps, j⟩ ⟨h5, h6⟩
  simp only at h5 h6
  by_cases hlt : j < l.length
  · right
    have hy : l[j]? = some l[j] := List.getElem?_eq_getElem hlt
    generalize l[j] = y at hy
    obtain ⟨q, rfl⟩ : ∃ q, k = q + 1 := ⟨k - 1, by omega⟩
    obtain ⟨a, ha⟩ := at_lt (show q < bs.length by omega)
    obtain ⟨b, hb⟩ := at_lt (show q + 1 < bs.length by omega)
    have hw : IntKind.i64.wrap (((q + 1 : Nat) : Int) - 1) = ((q : Nat) : Int) := by rw [wrap_id (by omega) (by omega)]; omega
    have hbl : Nat.ble ((ps.length + 1) * 56) 140737488355328 = true := ble_t (by omega)
    cases hc : F.le (min y.to b) (max y.fr a)
    · refine ⟨(ps ++ [⟨max y.fr a, min y.to b, y.lines, y.row, y.bef || F.lt y.fr (max y.fr a), y.aft || F.lt (min y.to b) y.to⟩], j + 1), ?_, rfl, ⟨hlt, by simp only [List.length_append, List.length_singleton]; omega⟩, by simp only; omega, ?_⟩
      · rw [evSp2L]
        have hc2 : decide (min y.to b ≤ max y.fr a) = false := hc
        simp only [unChC, unBF, unFst, unCpO, unSSt, preChC1, preBF1, preFst1, preCpO1, preSSt1, unstSp1, unstSp2, unstSp10, unstSp20, prlSp1, prlSp2, outSp1, outSp2, etaCap, etaMch, etaWrd, etaFnd, etaRatio, etaWay, Option.bind_some, List.length_map, unStrs, unInts, unBools, unCaps, uneL_eCaps, unMchs, unWrds, unFnds, unRatios, unWays, F.lt, F.le, cond_true, cond_false, Bool.and_true, Bool.true_and, cast_lt hlt, decide_eq_true hlt, getD_at hy, hw, idx_nat, decide_eq_true (lt_at ha), decide_eq_true (lt_at hb), getD_at ha, getD_at hb, hc2, hbl, next_at hlt (by omega : l.length ≤ 9223372036854775807), appWCaps, setWCaps, stSp2]
        cases y.bef <;> cases y.aft <;> rfl
      · simp only [outSp2, drop_at hy, List.filterMap_cons, F.cutC, Nat.add_sub_cancel, getD_at ha, getD_at hb, hc, cond_false, List.append_assoc, List.singleton_append]
    · refine ⟨(ps, j + 1), ?_, rfl, ⟨hlt, by simp only; omega⟩, by simp only; omega, ?_⟩
      · rw [evSp2L]
        have hc2 : decide (min y.to b ≤ max y.fr a) = true := hc
        simp only [unChC, unBF, unFst, unCpO, unSSt, preChC1, preBF1, preFst1, preCpO1, preSSt1, unstSp1, unstSp2, unstSp10, unstSp20, prlSp1, prlSp2, outSp1, outSp2, etaCap, etaMch, etaWrd, etaFnd, etaRatio, etaWay, Option.bind_some, List.length_map, unStrs, unInts, unBools, unCaps, uneL_eCaps, unMchs, unWrds, unFnds, unRatios, unWays, F.lt, F.le, cond_true, cond_false, Bool.and_true, Bool.true_and, cast_lt hlt, decide_eq_true hlt, getD_at hy, hw, idx_nat, decide_eq_true (lt_at ha), decide_eq_true (lt_at hb), getD_at ha, getD_at hb, hc2, next_at hlt (by omega : l.length ≤ 9223372036854775807), stSp2]
      · simp only [outSp2, drop_at hy, List.filterMap_cons, F.cutC, Nat.add_sub_cancel, getD_at ha, getD_at hb, hc, cond_true]
  · left
    have : j = l.length := by omega
    subst this
    refine ⟨_, ?_, rfl, by simp, rfl⟩
    rw [evSp2L]
    simp

theorem evSp1L (l : List Cap) (bs : List Int) (out : List (List Cap)) (k : Nat) : ((exec enSp (loopN Tryd.f16 0) (stSp1 l bs out k)).bind (lessX ([8, 7, 1, 0], [7]) ([7], [7]) ([], []))).val =
  bif decide ((↑k : Int) < (↑(List.length (List.map eI bs)) : Int)) then Option.bind (unenc encCpO [AV.sl (List.map eCap l)]) fun (z : List Cap) => bif F.capSm z then
  Option.bind (unenc stSp21 (St.mk [(32, (vI (0 : Int))), (31, (vI (↑(List.length (List.map eCap z)) : Int))), (30, .own 31000), (9, .own 9), (8, (vI (↑k : Int))), (7, .own
  7), (1, AV.sl (List.map eI bs)), (0, AV.sl (List.map eCap l))] [(31000, Blk.mk false 67 6 (List.map eCap z)), (9, Blk.mk false 67 6 []), (7, Blk.mk false 29 1 (List.map
  eL_eCap out))])) fun (z : List Cap × List Int × List (List Cap) × Nat × List Cap × Nat) => bif decide (List.length z.fst ≤ (100000 : Nat) ∧ List.length z.snd.fst ≤ (200 :
  Nat) ∧ (1 : Nat) ≤ z.snd.snd.snd.fst ∧ z.snd.snd.snd.fst < List.length z.snd.fst ∧ z.snd.snd.snd.snd.snd ≤ List.length z.fst ∧ List.length z.snd.snd.snd.snd.fst ≤
  z.snd.snd.snd.snd.snd) && true then Option.bind (unenc encSSt ([.own 900, AV.fn (48 : Nat) []], [(900, Blk.mk false 67 6 (List.map eCap (z.snd.snd.snd.snd.fst ++
  List.filterMap (F.cutC (List.getD z.snd.fst (z.snd.snd.snd.fst - (1 : Nat)) (0 : Int)) (List.getD z.snd.fst z.snd.snd.snd.fst (0 : Int))) (List.drop z.snd.snd.snd.snd.snd
  z.fst))))])) fun (z_1 : List Cap) => bif decide (List.length z_1 ≤ (100000 : Nat)) then bif Nat.ble ((List.length (List.map eL_eCap z.snd.snd.fst) + (1 : Nat)) * (24 :
  Nat)) (140737488355328 : Nat) && true then some (Ex.normal, St.mk [(8, (vI (IntKind.wrap IntKind.i64 ((↑z.snd.snd.snd.fst : Int) + (1 : Int))))), (7, .own 7), (1, AV.sl
  (List.map eI z.snd.fst)), (0, AV.sl (List.map eCap z.fst))] [(7, Blk.mk false 29 1 (List.map eL_eCap z.snd.snd.fst ++ [[AV.sl (List.map eCap (K.srt F.ltC z_1))]]))]) else
  none else none else none else none else some (Ex.exit (0 : Nat), St.mk [(7, .own 7)] [(7, Blk.mk false 29 1 (List.map eL_eCap out))]) := (execR_bind _ _ _).symm.trans (by kernel_rfl)

theorem lpSp1_ok (l : List Cap) (bs : List Int) (out : List (List Cap)) (k : Nat) (hp : prlSp1 l bs out k = true) : ∀ ex s', (outSp1 l bs out k).val = some (ex, s') → LoopOK enSp (loopN Tryd.f16 0) (stSp1 l bs out k) ex s' := by
  simp only [prlSp1, Bool.and_eq_true, decide_eq_true_eq] at hp
  obtain ⟨⟨h1, h2, h3, h4, h5⟩, h6⟩ := hp
  refine loop_gen (st := fun s : List (List Cap) × Nat => stSp1 l bs s.1 s.2) (out := fun s => outSp1 l bs s.1 s.2) (I := fun s => 1 ≤ s.2 ∧ s.2 ≤ bs.length ∧ s.1.length ≤ s.2) (n := ([8, 7, 1, 0], [7])) (e := ([7], [7])) (r := ([], [])) (fun s => bs.length - s.2) ?_ (out, k) ⟨h3, h4, h5⟩
  rintro ⟨out, k⟩ ⟨h3, h4, h5⟩
  simp only at h3 h4 h5
  obtain ⟨q, rfl⟩ : ∃ q, k = q + 1 := ⟨k - 1, by omega⟩
  by_cases hlt : q + 1 < bs.length
  · right
    obtain ⟨a, ha⟩ := at_lt (show q < bs.length by omega)
    obtain ⟨b, hb⟩ := at_lt (show q + 1 < bs.length by omega)
    have hbl : Nat.ble ((out.length + 1) * 24) 140737488355328 = true := ble_t (by omega)
    have hfl := F.filterMap_len (F.cutC a b) l
    refine ⟨(out ++ [K.srt F.ltC (l.filterMap (F.cutC a b))], q + 1 + 1), ?_, rfl, ⟨by simp only; omega, by simp only; omega, by simp only [List.length_append, List.length_singleton]; omega⟩, by simp only; omega, ?_⟩
    · rw [evSp1L]
      have q1 : l.length ≤ 100000 ∧ bs.length ≤ 200 ∧ 1 ≤ q + 1 ∧ q + 1 < bs.length ∧ 0 ≤ l.length ∧ ([] : List Cap).length ≤ 0 := ⟨h1, h2, by omega, hlt, Nat.zero_le _, Nat.le_refl _⟩
      have q2 : (l.filterMap (F.cutC a b)).length ≤ 100000 := by omega
      simp only [unChC, unBF, unFst, unCpO, unSSt, preChC1, preBF1, preFst1, preCpO1, preSSt1, unstSp1, unstSp2, unstSp10, unstSp20, prlSp1, prlSp2, outSp1, outSp2, etaCap, etaMch, etaWrd, etaFnd, etaRatio, etaWay, Option.bind_some, List.length_map, unStrs, unInts, unBools, unCaps, uneL_eCaps, unMchs, unWrds, unFnds, unRatios, unWays, F.lt, F.le, cond_true, cond_false, Bool.and_true, Bool.true_and, cast_lt hlt, h6, decide_eq_true q1, decide_eq_true q2, List.drop_zero, List.nil_append, Nat.add_sub_cancel, getD_at ha, getD_at hb, hbl, w_add1 (show q + 1 < 9223372036854775807 by omega), appeL_eCaps', stSp1]
    · simp only [outSp1, Nat.add_sub_cancel, F.splitB_at ha hb, List.append_assoc, List.singleton_append]
  · left
    refine ⟨_, ?_, rfl, by simp, rfl⟩
    rw [evSp1L]
    simp only [List.length_map, dlt, decide_eq_false hlt, cond_false, F.splitB_end (show bs.length ≤ q + 1 - 1 + 1 by omega), List.append_nil]

theorem evSp (l : List Cap) (bs : List Int) : (runF enSp false Tryd.f16 [.sl (l.map eCap), .sl (bs.map eI)]).val =
  Option.bind (unenc encChC [AV.sl (List.map eCap l)]) fun (z : List Cap) => bif F.smC z then Option.bind (unenc encBF [AV.sl (List.map eI bs)]) fun (z_1 : List Int) =>
  Option.bind (unenc encFst [AV.sl [[(vI (F.chkC z))], [(vI (F.bnds z_1))]]]) fun (z : List Int) => bif ffI id z != (0 : Int) then some (AV.tup [AV.sl [], (vI (ffI id z))],
  []) else Option.bind (unenc stSp11 (St.mk [(8, (vI (1 : Int))), (7, .own 7), (1, AV.sl (List.map eI bs)), (0, AV.sl (List.map eCap l))] [(7, Blk.mk false 29 1 [])])) fun
  (z : List Cap × List Int × List (List Cap) × Nat) => bif decide (List.length z.fst ≤ (100000 : Nat) ∧ List.length z.snd.fst ≤ (200 : Nat) ∧ (1 : Nat) ≤ z.snd.snd.snd ∧
  z.snd.snd.snd ≤ List.length z.snd.fst ∧ List.length z.snd.snd.fst ≤ z.snd.snd.snd) && F.capSm z.fst && true then some (AV.tup [AV.sl (List.map eL_eCap (z.snd.snd.fst ++
  F.splitB z.fst (List.drop (z.snd.snd.snd - (1 : Nat)) z.snd.fst))), (vI (0 : Int))], []) else none else none := (runFR_val).symm.trans (by kernel_rfl)

def encSp1 (l : List Cap) (bs : List Int) : List AV := [.sl (l.map eCap), .sl (bs.map eI)]

def encSp (a : (List Cap) × (List Int)) : List AV := encSp1 a.1 a.2

theorem encSp_inj (a a' : (List Cap) × (List Int)) (h : encSp a = encSp a') : a = a' := by
  simp only [encSp, encSp1] at h
  try simp [strs_inj, ints_inj, bools_inj, eCaps_inj, eCap_iff, eL_eCaps_inj, eMchs_inj, eMch_iff, eWrds_inj, eWrd_iff, eFnds_inj, eFnd_iff, eRatios_inj, eRatio_iff, eWays_inj, eWay_iff] at h
  grind

theorem unSp (l : List Cap) (bs : List Int) : unenc encSp ([AV.sl (List.map eCap l), AV.sl (List.map eI bs)]) = some (l, bs) := unenc_of encSp_inj (l, bs) rfl

def resSp1 (l : List Cap) (bs : List Int) : AV × Heap := (.tup [.sl ((F.cutL l bs).1.map eL_eCap), vI (F.cutL l bs).2], [])

def preSp1 (l : List Cap) (bs : List Int) : Bool := F.smC l

noncomputable def oSp : Orc := orc 16 false encSp (fun a => preSp1 a.1 a.2) fun a => resSp1 a.1 a.2

theorem okSp : OrcOK Tryd.prog noG oSp := by
  refine mk_ok Tryd.f16 (keep := false) (by kernel_rfl) (by kernel_rfl) enSp_ok mixed (two_loops (x0 := loopN Tryd.f16 0) (x1 := loopN Tryd.f16 1) (by kernel_rfl) (lpo_ok ?_) (lpo_ok ?_)) (by first | exact fun _ _ => ⟨rfl, rfl⟩ | (intro h; cases h)) ?_
  · rintro ⟨l, bs, out, k⟩ hp
    exact lpSp1_ok l bs out k hp
  · rintro ⟨l, bs, out, k, ps, j⟩ hp
    exact lpSp2_ok l bs out k ps j hp
  rintro ⟨l, bs⟩ hpre hok
  show (runF enSp false _ (encSp1 _ _)).val = some (resSp1 _ _)
  unfold encSp1 resSp1
  rw [evSp]
  simp only [preSp1] at hpre
  simp only [unChC, unBF, unFst, unCpO, unSSt, preChC1, preBF1, preFst1, preCpO1, preSSt1, unstSp1, unstSp2, unstSp10, unstSp20, prlSp1, prlSp2, outSp1, outSp2, etaCap, etaMch, etaWrd, etaFnd, etaRatio, etaWay, Option.bind_some, List.length_map, unStrs, unInts, unBools, unCaps, uneL_eCaps, unMchs, unWrds, unFnds, unRatios, unWays, F.lt, F.le, cond_true, cond_false, Bool.and_true, Bool.true_and, hpre, F.cutL, fst_two, ff_two]
  by_cases h0 : F.chkC l = 0
  case neg =>
    rw [bne1 h0]
    simp only [cond_true, bne1 h0]
    rfl
  rw [bne0 h0]
  simp only [cond_false]
  by_cases hb : F.bnds bs = 0
  case neg =>
    rw [bne1 hb]; rfl
  rw [bne0 hb]
  obtain ⟨b1, b2⟩ := F.bnds_ok hb
  have c1 := F.chk_sm h0
  have c2 := F.chk_len h0
  have q1 : l.length ≤ 100000 ∧ bs.length ≤ 200 ∧ 1 ≤ 1 ∧ 1 ≤ bs.length ∧ ([] : List (List Cap)).length ≤ 1 := ⟨by omega, b2, by omega, by omega, by decide⟩
  simp only [cond_false, decide_eq_true q1, cond_true, Bool.and_true, List.nil_append, List.drop_zero, c1, Nat.sub_self, unstSp10, Option.bind_some]

def stRS1 (l : List Cap) (bs : List Int) (out : List (List Cap)) (k : Nat) : St := ⟨[(29, vI k), (28, vI ((bs.length - 1 : Nat) : Int)), (8, .own 8), (1, .sl (bs.map eI)), (0, .sl (l.map eCap))], [(8, ⟨false, 29, 1, out.map eL_eCap⟩)]⟩

def stRS11 (a : (List Cap) × (List Int) × (List (List Cap)) × Nat) : St := stRS1 a.1 a.2.1 a.2.2.1 a.2.2.2

theorem stRS1_inj (a a' : (List Cap) × (List Int) × (List (List Cap)) × Nat) (h : stRS11 a = stRS11 a') : a = a' := by
  simp only [stRS11, stRS1] at h
  try simp [strs_inj, ints_inj, bools_inj, eCaps_inj, eCap_iff, eL_eCaps_inj, eMchs_inj, eMch_iff, eWrds_inj, eWrd_iff, eFnds_inj, eFnd_iff, eRatios_inj, eRatio_iff, eWays_inj, eWay_iff] at h
  grind

theorem unstRS1 (l : List Cap) (bs : List Int) (out : List (List Cap)) (k : Nat) : unenc stRS11 (St.mk [(29, (vI (↑k : Int))), (28, (vI (↑(List.length bs - (1 : Nat)) : Int))), (8, .own 8), (1, AV.sl (List.map eI bs)), (0, AV.sl (List.map eCap l))] [(8, Blk.mk false
  29 1 (List.map eL_eCap out))]) = some (l, bs, out, k) := unenc_of stRS1_inj (l, bs, out, k) rfl

theorem unstRS10 (l : List Cap) (bs : List Int)  : unenc stRS11 (St.mk [(29, (vI (0 : Int))), (28, (vI (↑(List.length bs - (1 : Nat)) : Int))), (8, .own 8), (1, AV.sl (List.map eI bs)), (0, AV.sl (List.map eCap l))] [(8, Blk.mk false 29
  1 [])]) = some (l, bs, [], 0) := unenc_of stRS1_inj (l, bs, [], 0) rfl

def outRS1 (l : List Cap) (bs : List Int) (out : List (List Cap)) (k : Nat) : T (Ex × St) := .ret (.exit 0, ⟨[(8, .own 8)], [(8, ⟨false, 29, 1, (out ++ F.splitB l (bs.drop k)).map eL_eCap⟩)]⟩)

noncomputable def prlRS1 (l : List Cap) (bs : List Int) (out : List (List Cap)) (k : Nat) : Bool := decide (l.length ≤ 100000 ∧ bs.length ≤ 200 ∧ 1 ≤ bs.length ∧ k + 1 ≤ bs.length ∧ out.length ≤ k)

noncomputable def lpRS1 : Nat × (St → T (Ex × St)) := (9, lpo [29, 28, 8, 1, 0] [8] stRS11 (fun a => prlRS1 a.1 a.2.1 a.2.2.1 a.2.2.2) fun a => outRS1 a.1 a.2.1 a.2.2.1 a.2.2.2)

def stRS2 (l : List Cap) (bs : List Int) (out : List (List Cap)) (k : Nat) (ps : List Cap) (j : Nat) : St := ⟨[(34, vI j), (33, vI l.length), (32, .sl (l.map eCap)), (29, vI k), (28, vI ((bs.length - 1 : Nat) : Int)), (10, .own 10), (9, vI k), (8, .own 8), (1, .sl (bs.map eI)), (0, .sl (l.map eCap))], [(10, ⟨false, 67, 6, ps.map eCap⟩), (8, ⟨false, 29, 1, out.map eL_eCap⟩)]⟩

def stRS21 (a : (List Cap) × (List Int) × (List (List Cap)) × Nat × (List Cap) × Nat) : St := stRS2 a.1 a.2.1 a.2.2.1 a.2.2.2.1 a.2.2.2.2.1 a.2.2.2.2.2

theorem stRS2_inj (a a' : (List Cap) × (List Int) × (List (List Cap)) × Nat × (List Cap) × Nat) (h : stRS21 a = stRS21 a') : a = a' := by
  simp only [stRS21, stRS2] at h
  try simp [strs_inj, ints_inj, bools_inj, eCaps_inj, eCap_iff, eL_eCaps_inj, eMchs_inj, eMch_iff, eWrds_inj, eWrd_iff, eFnds_inj, eFnd_iff, eRatios_inj, eRatio_iff, eWays_inj, eWay_iff] at h
  grind

theorem unstRS2 (l : List Cap) (bs : List Int) (out : List (List Cap)) (k : Nat) (ps : List Cap) (j : Nat) : unenc stRS21 (St.mk [(34, (vI (↑j : Int))), (33, (vI (↑(List.length l) : Int))), (32, AV.sl (List.map eCap l)), (29, (vI (↑k : Int))), (28, (vI (↑(List.length bs - (1 : Nat)) : Int))),
  (10, .own 10), (9, (vI (↑k : Int))), (8, .own 8), (1, AV.sl (List.map eI bs)), (0, AV.sl (List.map eCap l))] [(10, Blk.mk false 67 6 (List.map eCap ps)), (8, Blk.mk false
  29 1 (List.map eL_eCap out))]) = some (l, bs, out, k, ps, j) := unenc_of stRS2_inj (l, bs, out, k, ps, j) rfl

theorem unstRS20 (l : List Cap) (bs : List Int) (out : List (List Cap)) (k : Nat)  : unenc stRS21 (St.mk [(34, (vI (0 : Int))), (33, (vI (↑(List.length l) : Int))), (32, AV.sl (List.map eCap l)), (29, (vI (↑k : Int))), (28, (vI (↑(List.length bs - (1 : Nat)) : Int))),
  (10, .own 10), (9, (vI (↑k : Int))), (8, .own 8), (1, AV.sl (List.map eI bs)), (0, AV.sl (List.map eCap l))] [(10, Blk.mk false 67 6 []), (8, Blk.mk false 29 1 (List.map
  eL_eCap out))]) = some (l, bs, out, k, [], 0) := unenc_of stRS2_inj (l, bs, out, k, [], 0) rfl

def outRS2 (l : List Cap) (bs : List Int) (out : List (List Cap)) (k : Nat) (ps : List Cap) (j : Nat) : T (Ex × St) := .ret (.exit 2, ⟨[(29, vI k), (28, vI ((bs.length - 1 : Nat) : Int)), (10, .own 10), (8, .own 8), (1, .sl (bs.map eI)), (0, .sl (l.map eCap))], [(10, ⟨false, 67, 6, (ps ++ (l.drop j).filterMap (F.cutC (bs.getD k 0) (bs.getD (k + 1) 0))).map eCap⟩), (8, ⟨false, 29, 1, out.map eL_eCap⟩)]⟩)

noncomputable def prlRS2 (l : List Cap) (bs : List Int) (out : List (List Cap)) (k : Nat) (ps : List Cap) (j : Nat) : Bool := decide (l.length ≤ 100000 ∧ bs.length ≤ 200 ∧ k + 1 < bs.length ∧ j ≤ l.length ∧ ps.length ≤ j)

noncomputable def lpRS2 : Nat × (St → T (Ex × St)) := (13, lpo [34, 33, 32, 29, 28, 10, 9, 8, 1, 0] [10, 8] stRS21 (fun a => prlRS2 a.1 a.2.1 a.2.2.1 a.2.2.2.1 a.2.2.2.2.1 a.2.2.2.2.2) fun a => outRS2 a.1 a.2.1 a.2.2.1 a.2.2.2.1 a.2.2.2.2.1 a.2.2.2.2.2)

noncomputable def enRS : Env := envH ty noG lks [oRhC, oRBF, oSo] [] [] [lpRS1, lpRS2]

theorem enRS_ok : EnvOK Tryd.prog enRS := by
  refine envH_ok lks_ok ty_ok ?_ ?_
  · simp only [List.forall_mem_cons]
    exact ⟨okRhC, okRBF, okSo, by simp⟩
  · simp

theorem evRS2L (l : List Cap) (bs : List Int) (out : List (List Cap)) (k : Nat) (ps : List Cap) (j : Nat) : ((exec enRS (loopN Tryd.f24 1) (stRS2 l bs out k ps j)).bind (lessX ([34, 33, 32, 29, 28, 10, 9, 8, 1, 0], [10, 8]) ([29, 28, 10, 8, 1, 0], [10, 8]) ([], []))).val =
  bif decide ((↑j : Int) < (↑(List.length l) : Int)) then Option.bind (unenc (List.map eCap) (List.map eCap l)) fun (z : List Cap) => bif decide (j < List.length z) then
  Option.bind (unenc (List.map eI) (List.map eI bs)) fun (z_1 : List Int) => bif decide (k < List.length z_1) then Option.bind (idx (IntKind.wrap IntKind.i64 ((↑k : Int) +
  (1 : Int)))) fun (z_2 : Nat) => Option.bind (unenc (List.map eI) (List.map eI bs)) fun (z_3 : List Int) => bif decide (z_2 < List.length z_3) then bif decide (min
  (List.getD z j (Cap.mk (0 : Int) (0 : Int) [] (0 : Int) false false)).to (List.getD z_3 z_2 (0 : Int)) ≤ max (List.getD z j (Cap.mk (0 : Int) (0 : Int) [] (0 : Int) false
  false)).fr (List.getD z_1 k (0 : Int))) then some (Ex.normal, St.mk [(34, (vI (IntKind.wrap IntKind.i64 ((↑j : Int) + (1 : Int))))), (33, (vI (↑(List.length l) : Int))),
  (32, AV.sl (List.map eCap l)), (29, (vI (↑k : Int))), (28, (vI (↑(List.length bs - (1 : Nat)) : Int))), (10, .own 10), (9, (vI (↑k : Int))), (8, .own 8), (1, AV.sl
  (List.map eI bs)), (0, AV.sl (List.map eCap l))] [(10, Blk.mk false 67 6 (List.map eCap ps)), (8, Blk.mk false 29 1 (List.map eL_eCap out))]) else bif Nat.ble
  ((List.length (List.map eCap ps) + (1 : Nat)) * (56 : Nat)) (140737488355328 : Nat) && true then some (Ex.normal, St.mk [(34, (vI (IntKind.wrap IntKind.i64 ((↑j : Int) +
  (1 : Int))))), (33, (vI (↑(List.length l) : Int))), (32, AV.sl (List.map eCap l)), (29, (vI (↑k : Int))), (28, (vI (↑(List.length bs - (1 : Nat)) : Int))), (10, .own 10),
  (9, (vI (↑k : Int))), (8, .own 8), (1, AV.sl (List.map eI bs)), (0, AV.sl (List.map eCap l))] [(10, Blk.mk false 67 6 (List.map eCap ps ++ [[(vI (max (List.getD z j
  (Cap.mk (0 : Int) (0 : Int) [] (0 : Int) false false)).fr (List.getD z_1 k (0 : Int)))), (vI (min (List.getD z j (Cap.mk (0 : Int) (0 : Int) [] (0 : Int) false false)).to
  (List.getD z_3 z_2 (0 : Int)))), AV.sl (List.map eStr (List.getD z j (Cap.mk (0 : Int) (0 : Int) [] (0 : Int) false false)).lines), (vI (List.getD z j (Cap.mk (0 : Int) (0
  : Int) [] (0 : Int) false false)).row), (vB (bif decide ((List.getD z j (Cap.mk (0 : Int) (0 : Int) [] (0 : Int) false false)).fr < max (List.getD z j (Cap.mk (0 : Int) (0
  : Int) [] (0 : Int) false false)).fr (List.getD z_1 k (0 : Int))) then true else (List.getD z j (Cap.mk (0 : Int) (0 : Int) [] (0 : Int) false false)).bef)), (vB (bif
  decide (min (List.getD z j (Cap.mk (0 : Int) (0 : Int) [] (0 : Int) false false)).to (List.getD z_3 z_2 (0 : Int)) < (List.getD z j (Cap.mk (0 : Int) (0 : Int) [] (0 :
  Int) false false)).to) then true else (List.getD z j (Cap.mk (0 : Int) (0 : Int) [] (0 : Int) false false)).aft))]])), (8, Blk.mk false 29 1 (List.map eL_eCap out))]) else
  none else none else none else none else some (Ex.exit (2 : Nat), St.mk [(29, (vI (↑k : Int))), (28, (vI (↑(List.length bs - (1 : Nat)) : Int))), (10, .own 10), (8, .own
  8), (1, AV.sl (List.map eI bs)), (0, AV.sl (List.map eCap l))] [(10, Blk.mk false 67 6 (List.map eCap ps)), (8, Blk.mk false 29 1 (List.map eL_eCap out))]) := (execR_bind _ _ _).symm.trans (by kernel_rfl)

theorem lpRS2_ok (l : List Cap) (bs : List Int) (out : List (List Cap)) (k : Nat) (ps : List Cap) (j : Nat) (hp : prlRS2 l bs out k ps j = true) : ∀ ex s', (outRS2 l bs out k ps j).val = some (ex, s') → LoopOK enRS (loopN Tryd.f24 1) (stRS2 l bs out k ps j) ex s' := by
  simp only [prlRS2, Bool.and_eq_true, decide_eq_true_eq] at hp
  obtain ⟨h1, h2, h4, h5, h6⟩ := hp
  refine loop_gen (st := fun s : List Cap × Nat => stRS2 l bs out k s.1 s.2) (out := fun s => outRS2 l bs out k s.1 s.2) (I := fun s => s.2 ≤ l.length ∧ s.1.length ≤ s.2) (n := ([34, 33, 32, 29, 28, 10, 9, 8, 1, 0], [10, 8])) (e := ([29, 28, 10, 8, 1, 0], [10, 8])) (r := ([], [])) (fun s => l.length - s.2) ?_ (ps, j) ⟨h5, h6⟩
  rintro ⟨ps, j⟩ ⟨h5, h6⟩
  simp only at h5 h6
  by_cases hlt : j < l.length
  · right
    have hy : l[j]? = some l[j] := List.getElem?_eq_getElem hlt
    generalize l[j] = y at hy
    obtain ⟨a, ha⟩ := at_lt (show k < bs.length by omega)
    obtain ⟨b, hb⟩ := at_lt (show k + 1 < bs.length by omega)
    have hw : IntKind.i64.wrap ((k : Int) + 1) = ((k + 1 : Nat) : Int) := w_add1 (by omega)
    have hbl : Nat.ble ((ps.length + 1) * 56) 140737488355328 = true := ble_t (by omega)
    cases hc : F.le (min y.to b) (max y.fr a)
    · refine ⟨(ps ++ [⟨max y.fr a, min y.to b, y.lines, y.row, y.bef || F.lt y.fr (max y.fr a), y.aft || F.lt (min y.to b) y.to⟩], j + 1), ?_, rfl, ⟨hlt, by simp only [List.length_append, List.length_singleton]; omega⟩, by simp only; omega, ?_⟩
      · rw [evRS2L]
        have hc2 : decide (min y.to b ≤ max y.fr a) = false := hc
        simp only [unRhC, unRBF, unSo, preRhC1, preRBF1, preSo1, unstRS1, unstRS2, unstRS10, unstRS20, prlRS1, prlRS2, outRS1, outRS2, etaCap, etaMch, etaWrd, etaFnd, etaRatio, etaWay, Option.bind_some, List.length_map, unStrs, unInts, unBools, unCaps, uneL_eCaps, unMchs, unWrds, unFnds, unRatios, unWays, F.lt, F.le, cond_true, cond_false, Bool.and_true, Bool.true_and, cast_lt hlt, decide_eq_true hlt, getD_at hy, hw, idx_nat, decide_eq_true (lt_at ha), decide_eq_true (lt_at hb), getD_at ha, getD_at hb, hc2, hbl, next_at hlt (by omega : l.length ≤ 9223372036854775807), appWCaps, setWCaps, stRS2]
        rw [Bool.or_comm y.bef, Bool.or_comm y.aft]
        cases decide (y.fr < max y.fr a) <;> cases decide (min y.to b < y.to) <;> rfl
      · simp only [outRS2, drop_at hy, List.filterMap_cons, F.cutC, getD_at ha, getD_at hb, hc, cond_false, List.append_assoc, List.singleton_append]
    · refine ⟨(ps, j + 1), ?_, rfl, ⟨hlt, by simp only; omega⟩, by simp only; omega, ?_⟩
      · rw [evRS2L]
        have hc2 : decide (min y.to b ≤ max y.fr a) = true := hc
        simp only [unRhC, unRBF, unSo, preRhC1, preRBF1, preSo1, unstRS1, unstRS2, unstRS10, unstRS20, prlRS1, prlRS2, outRS1, outRS2, etaCap, etaMch, etaWrd, etaFnd, etaRatio, etaWay, Option.bind_some, List.length_map, unStrs, unInts, unBools, unCaps, uneL_eCaps, unMchs, unWrds, unFnds, unRatios, unWays, F.lt, F.le, cond_true, cond_false, Bool.and_true, Bool.true_and, cast_lt hlt, decide_eq_true hlt, getD_at hy, hw, idx_nat, decide_eq_true (lt_at ha), decide_eq_true (lt_at hb), getD_at ha, getD_at hb, hc2, next_at hlt (by omega : l.length ≤ 9223372036854775807), stRS2]
      · simp only [outRS2, drop_at hy, List.filterMap_cons, F.cutC, getD_at ha, getD_at hb, hc, cond_true]
  · left
    have : j = l.length := by omega
    subst this
    refine ⟨_, ?_, rfl, by simp, rfl⟩
    rw [evRS2L]
    simp

theorem evRS1L (l : List Cap) (bs : List Int) (out : List (List Cap)) (k : Nat) : ((exec enRS (loopN Tryd.f24 0) (stRS1 l bs out k)).bind (lessX ([29, 28, 8, 1, 0], [8]) ([8], [8]) ([], []))).val =
  bif decide ((↑k : Int) < (↑(List.length bs - (1 : Nat)) : Int)) then Option.bind (unenc stRS21 (St.mk [(34, (vI (0 : Int))), (33, (vI (↑(List.length (List.map eCap l)) :
  Int))), (32, AV.sl (List.map eCap l)), (29, (vI (↑k : Int))), (28, (vI (↑(List.length bs - (1 : Nat)) : Int))), (10, .own 10), (9, (vI (↑k : Int))), (8, .own 8), (1, AV.sl
  (List.map eI bs)), (0, AV.sl (List.map eCap l))] [(10, Blk.mk false 67 6 []), (8, Blk.mk false 29 1 (List.map eL_eCap out))])) fun (z : List Cap × List Int × List (List
  Cap) × Nat × List Cap × Nat) => bif decide (List.length z.fst ≤ (100000 : Nat) ∧ List.length z.snd.fst ≤ (200 : Nat) ∧ z.snd.snd.snd.fst + (1 : Nat) < List.length
  z.snd.fst ∧ z.snd.snd.snd.snd.snd ≤ List.length z.fst ∧ List.length z.snd.snd.snd.snd.fst ≤ z.snd.snd.snd.snd.snd) && true then Option.bind (unenc encSo [AV.sl (List.map
  eCap (z.snd.snd.snd.snd.fst ++ List.filterMap (F.cutC (List.getD z.snd.fst z.snd.snd.snd.fst (0 : Int)) (List.getD z.snd.fst (z.snd.snd.snd.fst + (1 : Nat)) (0 : Int)))
  (List.drop z.snd.snd.snd.snd.snd z.fst)))]) fun (z_1 : List Cap) => bif decide (List.length z_1 ≤ (100000 : Nat)) then bif Nat.ble ((List.length (List.map eL_eCap
  z.snd.snd.fst) + (1 : Nat)) * (24 : Nat)) (140737488355328 : Nat) && true then some (Ex.normal, St.mk [(29, (vI (IntKind.wrap IntKind.i64 ((↑z.snd.snd.snd.fst : Int) + (1
  : Int))))), (28, (vI (↑(List.length z.snd.fst - (1 : Nat)) : Int))), (8, .own 8), (1, AV.sl (List.map eI z.snd.fst)), (0, AV.sl (List.map eCap z.fst))] [(8, Blk.mk false
  29 1 (List.map eL_eCap z.snd.snd.fst ++ [[AV.sl (List.map eCap (K.srt F.ltC z_1))]]))]) else none else none else none else some (Ex.exit (0 : Nat), St.mk [(8, .own 8)]
  [(8, Blk.mk false 29 1 (List.map eL_eCap out))]) := (execR_bind _ _ _).symm.trans (by kernel_rfl)

theorem lpRS1_ok (l : List Cap) (bs : List Int) (out : List (List Cap)) (k : Nat) (hp : prlRS1 l bs out k = true) : ∀ ex s', (outRS1 l bs out k).val = some (ex, s') → LoopOK enRS (loopN Tryd.f24 0) (stRS1 l bs out k) ex s' := by
  simp only [prlRS1, Bool.and_eq_true, decide_eq_true_eq] at hp
  obtain ⟨h1, h2, h3, h4, h5⟩ := hp
  refine loop_gen (st := fun s : List (List Cap) × Nat => stRS1 l bs s.1 s.2) (out := fun s => outRS1 l bs s.1 s.2) (I := fun s => s.2 + 1 ≤ bs.length ∧ s.1.length ≤ s.2) (n := ([29, 28, 8, 1, 0], [8])) (e := ([8], [8])) (r := ([], [])) (fun s => bs.length - s.2) ?_ (out, k) ⟨h4, h5⟩
  rintro ⟨out, k⟩ ⟨h4, h5⟩
  simp only at h4 h5
  by_cases hlt : k < bs.length - 1
  · right
    obtain ⟨a, ha⟩ := at_lt (show k < bs.length by omega)
    obtain ⟨b, hb⟩ := at_lt (show k + 1 < bs.length by omega)
    have hbl : Nat.ble ((out.length + 1) * 24) 140737488355328 = true := ble_t (by omega)
    have hfl := F.filterMap_len (F.cutC a b) l
    refine ⟨(out ++ [K.srt F.ltC (l.filterMap (F.cutC a b))], k + 1), ?_, rfl, ⟨by simp only; omega, by simp only [List.length_append, List.length_singleton]; omega⟩, by simp only; omega, ?_⟩
    · rw [evRS1L]
      have q1 : l.length ≤ 100000 ∧ bs.length ≤ 200 ∧ k + 1 < bs.length ∧ 0 ≤ l.length ∧ ([] : List Cap).length ≤ 0 := ⟨h1, h2, by omega, Nat.zero_le _, Nat.le_refl _⟩
      have q2 : (l.filterMap (F.cutC a b)).length ≤ 100000 := by omega
      simp only [unRhC, unRBF, unSo, preRhC1, preRBF1, preSo1, unstRS1, unstRS2, unstRS10, unstRS20, prlRS1, prlRS2, outRS1, outRS2, etaCap, etaMch, etaWrd, etaFnd, etaRatio, etaWay, Option.bind_some, List.length_map, unStrs, unInts, unBools, unCaps, uneL_eCaps, unMchs, unWrds, unFnds, unRatios, unWays, F.lt, F.le, cond_true, cond_false, Bool.and_true, Bool.true_and, cast_lt hlt, decide_eq_true q1, decide_eq_true q2, List.drop_zero, List.nil_append, getD_at ha, getD_at hb, hbl, w_add1 (show k < 9223372036854775807 by omega), appeL_eCaps', stRS1]
    · simp only [outRS1, F.splitB_at ha hb, List.append_assoc, List.singleton_append]
  · left
    refine ⟨_, ?_, rfl, by simp, rfl⟩
    rw [evRS1L]
    simp only [dlt, decide_eq_false hlt, cond_false, F.splitB_end (show bs.length ≤ k + 1 by omega), List.append_nil]

theorem evRS (l : List Cap) (bs : List Int) : (runF enRS false Tryd.f24 [.sl (l.map eCap), .sl (bs.map eI)]).val =
  Option.bind (unenc encRhC [AV.sl (List.map eCap l)]) fun (z : List Cap) => bif F.smC z then bif F.chkC z != (0 : Int) then some (AV.tup [AV.sl [], (vI (F.chkC z))], [])
  else Option.bind (unenc encRBF [AV.sl (List.map eI bs)]) fun (z : List Int) => bif F.bnds z != (0 : Int) then some (AV.tup [AV.sl [], (vI (F.bnds z))], []) else
  Option.bind (unenc stRS11 (St.mk [(29, (vI (0 : Int))), (28, (vI (IntKind.wrap IntKind.i64 ((↑(List.length (List.map eI bs)) : Int) - (1 : Int))))), (8, .own 8), (1, AV.sl
  (List.map eI bs)), (0, AV.sl (List.map eCap l))] [(8, Blk.mk false 29 1 [])])) fun (z : List Cap × List Int × List (List Cap) × Nat) => bif decide (List.length z.fst ≤
  (100000 : Nat) ∧ List.length z.snd.fst ≤ (200 : Nat) ∧ (1 : Nat) ≤ List.length z.snd.fst ∧ z.snd.snd.snd + (1 : Nat) ≤ List.length z.snd.fst ∧ List.length z.snd.snd.fst ≤
  z.snd.snd.snd) && true then some (AV.tup [AV.sl (List.map eL_eCap (z.snd.snd.fst ++ F.splitB z.fst (List.drop z.snd.snd.snd z.snd.fst))), (vI (0 : Int))], []) else none
  else none := (runFR_val).symm.trans (by kernel_rfl)

def encRS1 (l : List Cap) (bs : List Int) : List AV := [.sl (l.map eCap), .sl (bs.map eI)]

def encRS (a : (List Cap) × (List Int)) : List AV := encRS1 a.1 a.2

theorem encRS_inj (a a' : (List Cap) × (List Int)) (h : encRS a = encRS a') : a = a' := by
  simp only [encRS, encRS1] at h
  try simp [strs_inj, ints_inj, bools_inj, eCaps_inj, eCap_iff, eL_eCaps_inj, eMchs_inj, eMch_iff, eWrds_inj, eWrd_iff, eFnds_inj, eFnd_iff, eRatios_inj, eRatio_iff, eWays_inj, eWay_iff] at h
  grind

theorem unRS (l : List Cap) (bs : List Int) : unenc encRS ([AV.sl (List.map eCap l), AV.sl (List.map eI bs)]) = some (l, bs) := unenc_of encRS_inj (l, bs) rfl

def resRS1 (l : List Cap) (bs : List Int) : AV × Heap := (.tup [.sl ((F.cutL l bs).1.map eL_eCap), vI (F.cutL l bs).2], [])

def preRS1 (l : List Cap) (bs : List Int) : Bool := F.smC l

noncomputable def oRS : Orc := orc 24 false encRS (fun a => preRS1 a.1 a.2) fun a => resRS1 a.1 a.2

theorem okRS : OrcOK Tryd.prog noG oRS := by
  refine mk_ok Tryd.f24 (keep := false) (by kernel_rfl) (by kernel_rfl) enRS_ok mixed (two_loops (x0 := loopN Tryd.f24 0) (x1 := loopN Tryd.f24 1) (by kernel_rfl) (lpo_ok ?_) (lpo_ok ?_)) (by first | exact fun _ _ => ⟨rfl, rfl⟩ | (intro h; cases h)) ?_
  · rintro ⟨l, bs, out, k⟩ hp
    exact lpRS1_ok l bs out k hp
  · rintro ⟨l, bs, out, k, ps, j⟩ hp
    exact lpRS2_ok l bs out k ps j hp
  rintro ⟨l, bs⟩ hpre hok
  show (runF enRS false _ (encRS1 _ _)).val = some (resRS1 _ _)
  unfold encRS1 resRS1
  rw [evRS]
  simp only [preRS1] at hpre
  simp only [unRhC, unRBF, unSo, preRhC1, preRBF1, preSo1, unstRS1, unstRS2, unstRS10, unstRS20, prlRS1, prlRS2, outRS1, outRS2, etaCap, etaMch, etaWrd, etaFnd, etaRatio, etaWay, Option.bind_some, List.length_map, unStrs, unInts, unBools, unCaps, uneL_eCaps, unMchs, unWrds, unFnds, unRatios, unWays, F.lt, F.le, cond_true, cond_false, Bool.and_true, Bool.true_and, hpre, F.cutL]
  by_cases h0 : F.chkC l = 0
  case neg =>
    rw [bne1 h0]; rfl
  rw [bne0 h0]
  simp only [cond_false]
  by_cases hb : F.bnds bs = 0
  case neg =>
    rw [bne1 hb]; rfl
  rw [bne0 hb]
  obtain ⟨b1, b2⟩ := F.bnds_ok hb
  have c2 := F.chk_len h0
  have q1 : l.length ≤ 100000 ∧ bs.length ≤ 200 ∧ 1 ≤ bs.length ∧ 0 + 1 ≤ bs.length ∧ ([] : List (List Cap)).length ≤ 0 := ⟨by omega, b2, by omega, by omega, Nat.le_refl _⟩
  simp only [cond_false, w_sub1 (show 1 ≤ bs.length by omega) (show bs.length ≤ 9223372036854775807 by omega), unstRS10, Option.bind_some, decide_eq_true q1, cond_true, Bool.and_true, List.nil_append, List.drop_zero]

end M
end Go.Proofs.YtlnflhmepnbcmaaDoor
