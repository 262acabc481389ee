/- What is proved here: Place of the reference (no statement of the seat). -/
import Derived.Test.YtniealifncgilaaDoorC23
namespace Go.Proofs.YtniealifncgilaaDoor
open Go Go.RowKit
set_option linter.unusedVariables false
set_option linter.unusedSimpArgs false

open Classical in
/-- It is the number of this place. -/
noncomputable def F.isI (l : List Int) (i : Nat) (r : Int) : Bool := decide (l[i]? = some r)

theorem F.take_set_succ {α : Type} {xs : List α} {k : Nat} {v : α} (h : k < xs.length) : (xs.set k v).take (k + 1) = xs.take k ++ [v] := by
  rw [List.take_add_one, List.take_set_of_le (Nat.le_refl _)]
  simp [h]

theorem F.take_set_same {α : Type} {xs : List α} {k : Nat} {v : α} : (xs.set k v).take k = xs.take k := List.take_set_of_le (Nat.le_refl _)

namespace M

theorem rep_ints (n : Nat) : List.replicate n [vI 0] = (List.replicate n (0 : Int)).map eI := by simp [eI]

theorem setInt (xs : List Int) (i : Nat) (v : Int) : (xs.map eI).set i [vI v] = (xs.set i v).map eI := by simp [eI, List.map_set]

def stRPi (l : List Cap) (w : Int) (xs : List Int) (i : Nat) (bad : Int) (r : Int) (c : Cap) : St := ⟨[(26, vI i), (25, vI l.length), (24, .sl (l.map eCap)), (12, vI r), (11, .ptr 11 0 0), (10, vI i), (9, vI bad), (8, .own 23), (1, vI w), (0, .sl (l.map eCap))], [(23, ⟨false, 3, 1, xs.map eI⟩), (11, ⟨true, 0, 0, [eCap c]⟩)]⟩

def stRPi1 (a : (List Cap) × Int × (List Int) × Nat × Int × Int × Cap) : St := stRPi a.1 a.2.1 a.2.2.1 a.2.2.2.1 a.2.2.2.2.1 a.2.2.2.2.2.1 a.2.2.2.2.2.2

theorem stRPi_inj (a a' : (List Cap) × Int × (List Int) × Nat × Int × Int × Cap) (h : stRPi1 a = stRPi1 a') : a = a' := by
  simp only [stRPi1, stRPi] at h
  try simp [strs_inj, ints_inj, bools_inj, eCaps_inj, eCap_iff, eL_eCaps_inj, eMchs_inj, eMch_iff, eWrds_inj, eWrd_iff, eFnds_inj, eFnd_iff, eRatios_inj, eRatio_iff, eWays_inj, eWay_iff] at h
  grind

theorem unstRPi (l : List Cap) (w : Int) (xs : List Int) (i : Nat) (bad : Int) (r : Int) (c : Cap) : unenc stRPi1 (St.mk [(26, (vI (↑i : Int))), (25, (vI (↑(List.length l) : Int))), (24, AV.sl (List.map eCap l)), (12, (vI r)), (11, .ptr 11 0 0), (10, (vI (↑i : Int))), (9, (vI bad)),
  (8, .own 23), (1, (vI w)), (0, AV.sl (List.map eCap l))] [(23, Blk.mk false 3 1 (List.map eI xs)), (11, Blk.mk true 0 0 [[(vI c.fr), (vI c.to), AV.sl (List.map eStr
  c.lines), (vI c.row), (vB c.bef), (vB c.aft)]])]) = some (l, w, xs, i, bad, r, c) := unenc_of stRPi_inj (l, w, xs, i, bad, r, c) rfl

def outRPi (l : List Cap) (w : Int) (xs : List Int) (i : Nat) (bad : Int) (r : Int) (c : Cap) : T (Ex × St) := .ret (.exit 2, ⟨[(26, vI i), (25, vI l.length), (24, .sl (l.map eCap)), (11, .ptr 11 0 0), (10, vI i), (9, vI bad), (8, .own 23), (1, vI w), (0, .sl (l.map eCap))], [(23, ⟨false, 3, 1, (xs.set i (bif c.row == 0 then F.seekR (F.taken l (xs.take i) c) (w + 2 - (c.lines.length : Int) - r).toNat r else c.row)).map eI⟩), (11, ⟨true, 0, 0, [eCap c]⟩)]⟩)

noncomputable def prlRPi (l : List Cap) (w : Int) (xs : List Int) (i : Nat) (bad : Int) (r : Int) (c : Cap) : Bool := F.capsR l && F.rowsB (xs.take i) && F.wOK w && F.le 1 r && F.le r 100 && decide (xs.length = l.length) && decide (l.length ≤ 500) && F.isAt l i c && F.isI xs i c.row

noncomputable def lpRPi : Nat × (St → T (Ex × St)) := (13, lpo [26, 25, 24, 12, 11, 10, 9, 8, 1, 0] [23, 11] stRPi1 (fun a => prlRPi a.1 a.2.1 a.2.2.1 a.2.2.2.1 a.2.2.2.2.1 a.2.2.2.2.2.1 a.2.2.2.2.2.2) fun a => outRPi a.1 a.2.1 a.2.2.1 a.2.2.2.1 a.2.2.2.2.1 a.2.2.2.2.2.1 a.2.2.2.2.2.2)

def stRPl (l : List Cap) (w : Int) (xs : List Int) (bad : Int) (k : Nat) : St := ⟨[(26, vI k), (25, vI l.length), (24, .sl (l.map eCap)), (9, vI bad), (8, .own 23), (1, vI w), (0, .sl (l.map eCap))], [(23, ⟨false, 3, 1, xs.map eI⟩)]⟩

def stRPl1 (a : (List Cap) × Int × (List Int) × Int × Nat) : St := stRPl a.1 a.2.1 a.2.2.1 a.2.2.2.1 a.2.2.2.2

theorem stRPl_inj (a a' : (List Cap) × Int × (List Int) × Int × Nat) (h : stRPl1 a = stRPl1 a') : a = a' := by
  simp only [stRPl1, stRPl] at h
  try simp [strs_inj, ints_inj, bools_inj, eCaps_inj, eCap_iff, eL_eCaps_inj, eMchs_inj, eMch_iff, eWrds_inj, eWrd_iff, eFnds_inj, eFnd_iff, eRatios_inj, eRatio_iff, eWays_inj, eWay_iff] at h
  grind

theorem unstRPl (l : List Cap) (w : Int) (xs : List Int) (bad : Int) (k : Nat) : unenc stRPl1 (St.mk [(26, (vI (↑k : Int))), (25, (vI (↑(List.length l) : Int))), (24, AV.sl (List.map eCap l)), (9, (vI bad)), (8, .own 23), (1, (vI w)), (0, AV.sl (List.map eCap l))]
  [(23, Blk.mk false 3 1 (List.map eI xs))]) = some (l, w, xs, bad, k) := unenc_of stRPl_inj (l, w, xs, bad, k) rfl

theorem unstRPl0 (l : List Cap) (w : Int) (xs : List Int) (bad : Int)  : unenc stRPl1 (St.mk [(26, (vI (0 : Int))), (25, (vI (↑(List.length l) : Int))), (24, AV.sl (List.map eCap l)), (9, (vI bad)), (8, .own 23), (1, (vI w)), (0, AV.sl (List.map eCap l))]
  [(23, Blk.mk false 3 1 (List.map eI xs))]) = some (l, w, xs, bad, 0) := unenc_of stRPl_inj (l, w, xs, bad, 0) rfl

def outRPl (l : List Cap) (w : Int) (xs : List Int) (bad : Int) (k : Nat) : T (Ex × St) := .ret (.exit 0, ⟨[(9, vI ((l.drop k).foldl (F.plS l w) (xs.take k, bad)).2), (8, .own 23)], [(23, ⟨false, 3, 1, ((l.drop k).foldl (F.plS l w) (xs.take k, bad)).1.map eI⟩)]⟩)

noncomputable def prlRPl (l : List Cap) (w : Int) (xs : List Int) (bad : Int) (k : Nat) : Bool := F.capsR l && F.wOK w && decide (l.length ≤ 500) && decide (xs.length = l.length) && F.rowsB (xs.take k) && F.le 0 bad && decide (bad ≤ (k : Int)) && decide (k ≤ l.length)

noncomputable def lpRPl : Nat × (St → T (Ex × St)) := (9, lpo [26, 25, 24, 9, 8, 1, 0] [23] stRPl1 (fun a => prlRPl a.1 a.2.1 a.2.2.1 a.2.2.2.1 a.2.2.2.2) fun a => outRPl a.1 a.2.1 a.2.2.1 a.2.2.2.1 a.2.2.2.2)

noncomputable def enRPl : Env := envH ty noG lks [oRhC, oWithin, oMe] [] [] [lpRPl, lpRPi]

theorem enRPl_ok : EnvOK Tryd.prog enRPl := by
  refine envH_ok lks_ok ty_ok ?_ ?_
  · simp only [List.forall_mem_cons]
    exact ⟨okRhC, okWithin, okMe, by simp⟩
  · simp

theorem evRPiL (l : List Cap) (w : Int) (xs : List Int) (i : Nat) (bad : Int) (r : Int) (c : Cap) : ((exec enRPl (loopN Tryd.f34 1) (stRPi l w xs i bad r c)).bind (lessX ([26, 25, 24, 12, 11, 10, 9, 8, 1, 0], [23, 11]) ([26, 25, 24, 11, 10, 9, 8, 1, 0], [23, 11]) ([], []))).val =
  bif c.row == (0 : Int) then bif decide (IntKind.wrap IntKind.i64 (IntKind.wrap IntKind.i64 (r + (↑(List.length (List.map eStr c.lines)) : Int)) - (1 : Int)) ≤ w) then
  Option.bind (unenc encMe [AV.sl (List.map eCap l), AV.sl (List.map eI xs), (vI (↑i : Int)), (vI r)]) fun (z : List Cap × List Int × Nat × Int) => bif F.capsR z.fst &&
  F.rowsB (List.take z.snd.snd.fst z.snd.fst) && F.rowB z.snd.snd.snd && decide (List.length z.snd.fst = List.length z.fst) && decide (List.length z.fst ≤ (500 : Nat)) &&
  decide (z.snd.snd.fst < List.length z.fst) then bif !F.taken z.fst (List.take z.snd.snd.fst z.snd.fst) (List.getD z.fst z.snd.snd.fst (Cap.mk (0 : Int) (0 : Int) [] (0 :
  Int) false false)) z.snd.snd.snd then bif decide (i < List.length (Blk.mk false 3 1 (List.map eI xs)).rows) then Option.bind (unenc (List.map eI) (List.map eI xs)) fun (z
  : List Int) => bif decide (i < List.length z) then some (Ex.exit (2 : Nat), St.mk [(26, (vI (↑i : Int))), (25, (vI (↑(List.length l) : Int))), (24, AV.sl (List.map eCap
  l)), (11, .ptr 11 0 0), (10, (vI (↑i : Int))), (9, (vI bad)), (8, .own 23), (1, (vI w)), (0, AV.sl (List.map eCap l))] [(23, Blk.mk false 3 1 (List.set (List.map eI xs) i
  [(vI r)])), (11, Blk.mk true 0 0 [[(vI c.fr), (vI c.to), AV.sl (List.map eStr c.lines), (vI c.row), (vB c.bef), (vB c.aft)]])]) else none else none else some (Ex.normal,
  St.mk [(26, (vI (↑i : Int))), (25, (vI (↑(List.length l) : Int))), (24, AV.sl (List.map eCap l)), (12, (vI (IntKind.wrap IntKind.i64 (r + (1 : Int))))), (11, .ptr 11 0 0),
  (10, (vI (↑i : Int))), (9, (vI bad)), (8, .own 23), (1, (vI w)), (0, AV.sl (List.map eCap l))] [(23, Blk.mk false 3 1 (List.map eI xs)), (11, Blk.mk true 0 0 [[(vI c.fr),
  (vI c.to), AV.sl (List.map eStr c.lines), (vI c.row), (vB c.bef), (vB c.aft)]])]) else none else some (Ex.exit (2 : Nat), St.mk [(26, (vI (↑i : Int))), (25, (vI
  (↑(List.length l) : Int))), (24, AV.sl (List.map eCap l)), (11, .ptr 11 0 0), (10, (vI (↑i : Int))), (9, (vI bad)), (8, .own 23), (1, (vI w)), (0, AV.sl (List.map eCap
  l))] [(23, Blk.mk false 3 1 (List.map eI xs)), (11, Blk.mk true 0 0 [[(vI c.fr), (vI c.to), AV.sl (List.map eStr c.lines), (vI c.row), (vB c.bef), (vB c.aft)]])]) else
  some (Ex.exit (2 : Nat), St.mk [(26, (vI (↑i : Int))), (25, (vI (↑(List.length l) : Int))), (24, AV.sl (List.map eCap l)), (11, .ptr 11 0 0), (10, (vI (↑i : Int))), (9,
  (vI bad)), (8, .own 23), (1, (vI w)), (0, AV.sl (List.map eCap l))] [(23, Blk.mk false 3 1 (List.map eI xs)), (11, Blk.mk true 0 0 [[(vI c.fr), (vI c.to), AV.sl (List.map
  eStr c.lines), (vI c.row), (vB c.bef), (vB c.aft)]])]) := (execR_bind _ _ _).symm.trans (by kernel_rfl)

theorem lpRPi_ok (l : List Cap) (w : Int) (xs : List Int) (i : Nat) (bad : Int) (r : Int) (c : Cap) (hp : prlRPi l w xs i bad r c = true) : ∀ ex s', (outRPi l w xs i bad r c).val = some (ex, s') → LoopOK enRPl (loopN Tryd.f34 1) (stRPi l w xs i bad r c) ex s' := by
  simp only [prlRPi, Bool.and_eq_true, decide_eq_true_eq] at hp
  obtain ⟨⟨⟨⟨⟨⟨⟨⟨h1, h2⟩, h3⟩, h4⟩, h5⟩, h6⟩, h7⟩, h8⟩, h9⟩ := hp
  have h4 := of_decide_eq_true h4
  have h5 := of_decide_eq_true h5
  have h8 : l[i]? = some c := by simpa [F.isAt] using h8
  have h9 : xs[i]? = some c.row := by simpa [F.isI] using h9
  have hgd : l.getD i ⟨0, 0, [], 0, false, false⟩ = c := getD_at h8
  have hil := lt_at h8
  have hix := lt_at h9
  have hcr := F.capR_iff.1 (F.capsR_at h1 h8)
  have hw : 1 ≤ w ∧ w ≤ 15 := by simpa [F.wOK, F.le] using h3
  have hself : xs.set i c.row = xs := by
    obtain ⟨_, e⟩ := List.getElem?_eq_some_iff.1 h9
    rw [← e]
    exact List.set_getElem_self hix
  refine loop_gen (st := fun r => stRPi l w xs i bad r c) (out := fun r => outRPi l w xs i bad r c) (I := fun r => 1 ≤ r ∧ r ≤ 100) (n := ([26, 25, 24, 12, 11, 10, 9, 8, 1, 0], [23, 11])) (e := ([26, 25, 24, 11, 10, 9, 8, 1, 0], [23, 11])) (r := ([], [])) (fun r => (w + 2 - (c.lines.length : Int) - r).toNat) ?_ r ⟨h4, h5⟩
  rintro r ⟨hr1, hr2⟩
  have w1 : IntKind.i64.wrap (r + (c.lines.length : Int)) = r + (c.lines.length : Int) := wrap_id (by omega) (by omega)
  have w2 : IntKind.i64.wrap (r + (c.lines.length : Int) - 1) = r + (c.lines.length : Int) - 1 := wrap_id (by omega) (by omega)
  have w3 : IntKind.i64.wrap (r + 1) = r + 1 := wrap_id (by omega) (by omega)
  have hrB : F.rowB r = true := F.rowB_iff.2 ⟨by omega, hr2⟩
  cases hr0 : c.row == 0
  · left
    refine ⟨_, ?_, rfl, by simp, rfl⟩
    rw [evRPiL]
    simp only [unRhC, unWithin, unMe, preRhC1, preWithin1, preMe1, unstRPl, unstRPi, unstRPl0, prlRPl, prlRPi, outRPl, outRPi, etaCap, etaMch, etaWrd, etaFnd, etaRatio, etaWay, Option.bind_some, List.length_map, unStrs, unInts, unBools, unCaps, uneL_eCaps, unMchs, unWrds, unFnds, unRatios, unWays, F.lt, F.le, cond_true, cond_false, Bool.and_true, Bool.true_and, hr0, hself]
    rfl
  · have hr0' : c.row = 0 := by simpa using hr0
    by_cases hn : r + (c.lines.length : Int) - 1 ≤ w
    · obtain ⟨m, hm⟩ : ∃ m, (w + 2 - (c.lines.length : Int) - r).toNat = m + 1 := ⟨(w + 2 - (c.lines.length : Int) - r).toNat - 1, by omega⟩
      have hm2 : (w + 2 - (c.lines.length : Int) - (r + 1)).toNat = m := by omega
      cases ht : F.taken l (xs.take i) c r
      · left
        refine ⟨_, ?_, rfl, by simp, rfl⟩
        rw [evRPiL]
        simp only [unRhC, unWithin, unMe, preRhC1, preWithin1, preMe1, unstRPl, unstRPi, unstRPl0, prlRPl, prlRPi, outRPl, outRPi, etaCap, etaMch, etaWrd, etaFnd, etaRatio, etaWay, Option.bind_some, List.length_map, unStrs, unInts, unBools, unCaps, uneL_eCaps, unMchs, unWrds, unFnds, unRatios, unWays, F.lt, F.le, cond_true, cond_false, Bool.and_true, Bool.true_and, hr0, w1, w2, w3, decide_eq_true hn, h1, h2, hrB, decide_eq_true h6, decide_eq_true h7, decide_eq_true hil, hgd, ht, Bool.not_false, decide_eq_true hix, idx_nat, hm, F.seekR, setInt, Bool.and_self]
        rfl
      · right
        refine ⟨r + 1, ?_, rfl, ⟨by omega, by omega⟩, by omega, ?_⟩
        · rw [evRPiL]
          simp only [unRhC, unWithin, unMe, preRhC1, preWithin1, preMe1, unstRPl, unstRPi, unstRPl0, prlRPl, prlRPi, outRPl, outRPi, etaCap, etaMch, etaWrd, etaFnd, etaRatio, etaWay, Option.bind_some, List.length_map, unStrs, unInts, unBools, unCaps, uneL_eCaps, unMchs, unWrds, unFnds, unRatios, unWays, F.lt, F.le, cond_true, cond_false, Bool.and_true, Bool.true_and, hr0, w1, w2, w3, decide_eq_true hn, h1, h2, hrB, decide_eq_true h6, decide_eq_true h7, decide_eq_true hil, hgd, ht, Bool.not_true, Bool.and_self]
          rfl
        · simp only [outRPi, hm, hm2, F.seekR, ht, cond_true]
    · left
      have hz : (w + 2 - (c.lines.length : Int) - r).toNat = 0 := by omega
      have hself0 : xs.set i 0 = xs := by rw [← hr0']; exact hself
      refine ⟨_, ?_, rfl, by simp, rfl⟩
      rw [evRPiL]
      simp only [unRhC, unWithin, unMe, preRhC1, preWithin1, preMe1, unstRPl, unstRPi, unstRPl0, prlRPl, prlRPi, outRPl, outRPi, etaCap, etaMch, etaWrd, etaFnd, etaRatio, etaWay, Option.bind_some, List.length_map, unStrs, unInts, unBools, unCaps, uneL_eCaps, unMchs, unWrds, unFnds, unRatios, unWays, F.lt, F.le, cond_true, cond_false, Bool.and_true, Bool.true_and, hr0, w1, w2, decide_eq_false hn, hz, F.seekR, hself0]
      rfl

theorem evRPlL (l : List Cap) (w : Int) (xs : List Int) (bad : Int) (k : Nat) : ((exec enRPl (loopN Tryd.f34 0) (stRPl l w xs bad k)).bind (lessX ([26, 25, 24, 9, 8, 1, 0], [23]) ([9, 8], [23]) ([], []))).val =
  bif decide ((↑k : Int) < (↑(List.length l) : Int)) then Option.bind (unenc (List.map eCap) (List.map eCap l)) fun (z : List Cap) => bif decide (k < List.length z) then bif
  decide (k < List.length (Blk.mk false 3 1 (List.map eI xs)).rows) then Option.bind (unenc (List.map eI) (List.map eI xs)) fun (z_1 : List Int) => bif decide (k <
  List.length z_1) then Option.bind (unenc stRPi1 (St.mk [(26, (vI (↑k : Int))), (25, (vI (↑(List.length l) : Int))), (24, AV.sl (List.map eCap l)), (12, (vI (1 : Int))),
  (11, .ptr 11 0 0), (10, (vI (↑k : Int))), (9, (vI bad)), (8, .own 23), (1, (vI w)), (0, AV.sl (List.map eCap l))] [(23, Blk.mk false 3 1 (List.set (List.map eI xs) k [(vI
  (List.getD z k (Cap.mk (0 : Int) (0 : Int) [] (0 : Int) false false)).row)])), (11, Blk.mk true 0 0 [[(vI (List.getD z k (Cap.mk (0 : Int) (0 : Int) [] (0 : Int) false
  false)).fr), (vI (List.getD z k (Cap.mk (0 : Int) (0 : Int) [] (0 : Int) false false)).to), AV.sl (List.map eStr (List.getD z k (Cap.mk (0 : Int) (0 : Int) [] (0 : Int)
  false false)).lines), (vI (List.getD z k (Cap.mk (0 : Int) (0 : Int) [] (0 : Int) false false)).row), (vB (List.getD z k (Cap.mk (0 : Int) (0 : Int) [] (0 : Int) false
  false)).bef), (vB (List.getD z k (Cap.mk (0 : Int) (0 : Int) [] (0 : Int) false false)).aft)]])])) fun (z : List Cap × Int × List Int × Nat × Int × Int × Cap) => bif
  F.capsR z.fst && F.rowsB (List.take z.snd.snd.snd.fst z.snd.snd.fst) && F.wOK z.snd.fst && F.le (1 : Int) z.snd.snd.snd.snd.snd.fst && F.le z.snd.snd.snd.snd.snd.fst (100
  : Int) && decide (List.length z.snd.snd.fst = List.length z.fst) && decide (List.length z.fst ≤ (500 : Nat)) && F.isAt z.fst z.snd.snd.snd.fst z.snd.snd.snd.snd.snd.snd &&
  F.isI z.snd.snd.fst z.snd.snd.snd.fst z.snd.snd.snd.snd.snd.snd.row && true then bif decide (z.snd.snd.snd.fst < List.length (Blk.mk false 3 1 (List.map eI (List.set
  z.snd.snd.fst z.snd.snd.snd.fst (bif z.snd.snd.snd.snd.snd.snd.row == (0 : Int) then F.seekR (F.taken z.fst (List.take z.snd.snd.snd.fst z.snd.snd.fst)
  z.snd.snd.snd.snd.snd.snd) (Int.toNat (z.snd.fst + (2 : Int) - (↑(List.length z.snd.snd.snd.snd.snd.snd.lines) : Int) - z.snd.snd.snd.snd.snd.fst))
  z.snd.snd.snd.snd.snd.fst else z.snd.snd.snd.snd.snd.snd.row)))).rows) then Option.bind (unenc (List.map eI) (List.map eI (List.set z.snd.snd.fst z.snd.snd.snd.fst (bif
  z.snd.snd.snd.snd.snd.snd.row == (0 : Int) then F.seekR (F.taken z.fst (List.take z.snd.snd.snd.fst z.snd.snd.fst) z.snd.snd.snd.snd.snd.snd) (Int.toNat (z.snd.fst + (2 :
  Int) - (↑(List.length z.snd.snd.snd.snd.snd.snd.lines) : Int) - z.snd.snd.snd.snd.snd.fst)) z.snd.snd.snd.snd.snd.fst else z.snd.snd.snd.snd.snd.snd.row)))) fun (z_2 :
  List Int) => bif decide (z.snd.snd.snd.fst < List.length z_2) then bif !List.getD z_2 z.snd.snd.snd.fst (0 : Int) == (0 : Int) then bif decide (z.snd.snd.snd.fst <
  List.length (Blk.mk false 3 1 (List.map eI (List.set z.snd.snd.fst z.snd.snd.snd.fst (bif z.snd.snd.snd.snd.snd.snd.row == (0 : Int) then F.seekR (F.taken z.fst (List.take
  z.snd.snd.snd.fst z.snd.snd.fst) z.snd.snd.snd.snd.snd.snd) (Int.toNat (z.snd.fst + (2 : Int) - (↑(List.length z.snd.snd.snd.snd.snd.snd.lines) : Int) -
  z.snd.snd.snd.snd.snd.fst)) z.snd.snd.snd.snd.snd.fst else z.snd.snd.snd.snd.snd.snd.row)))).rows) then Option.bind (unenc (List.map eI) (List.map eI (List.set
  z.snd.snd.fst z.snd.snd.snd.fst (bif z.snd.snd.snd.snd.snd.snd.row == (0 : Int) then F.seekR (F.taken z.fst (List.take z.snd.snd.snd.fst z.snd.snd.fst)
  z.snd.snd.snd.snd.snd.snd) (Int.toNat (z.snd.fst + (2 : Int) - (↑(List.length z.snd.snd.snd.snd.snd.snd.lines) : Int) - z.snd.snd.snd.snd.snd.fst))
  z.snd.snd.snd.snd.snd.fst else z.snd.snd.snd.snd.snd.snd.row)))) fun (z_3 : List Int) => bif decide (z.snd.snd.snd.fst < List.length z_3) then bif !decide (z.snd.fst <
  IntKind.wrap IntKind.i64 (IntKind.wrap IntKind.i64 (List.getD z_3 z.snd.snd.snd.fst (0 : Int) + (↑(List.length (List.map eStr z.snd.snd.snd.snd.snd.snd.lines)) : Int)) -
  (1 : Int))) then bif decide (z.snd.snd.snd.fst < List.length (Blk.mk false 3 1 (List.map eI (List.set z.snd.snd.fst z.snd.snd.snd.fst (bif z.snd.snd.snd.snd.snd.snd.row ==
  (0 : Int) then F.seekR (F.taken z.fst (List.take z.snd.snd.snd.fst z.snd.snd.fst) z.snd.snd.snd.snd.snd.snd) (Int.toNat (z.snd.fst + (2 : Int) - (↑(List.length
  z.snd.snd.snd.snd.snd.snd.lines) : Int) - z.snd.snd.snd.snd.snd.fst)) z.snd.snd.snd.snd.snd.fst else z.snd.snd.snd.snd.snd.snd.row)))).rows) then Option.bind (unenc
  (List.map eI) (List.map eI (List.set z.snd.snd.fst z.snd.snd.snd.fst (bif z.snd.snd.snd.snd.snd.snd.row == (0 : Int) then F.seekR (F.taken z.fst (List.take
  z.snd.snd.snd.fst z.snd.snd.fst) z.snd.snd.snd.snd.snd.snd) (Int.toNat (z.snd.fst + (2 : Int) - (↑(List.length z.snd.snd.snd.snd.snd.snd.lines) : Int) -
  z.snd.snd.snd.snd.snd.fst)) z.snd.snd.snd.snd.snd.fst else z.snd.snd.snd.snd.snd.snd.row)))) fun (z_4 : List Int) => bif decide (z.snd.snd.snd.fst < List.length z_4) then
  Option.bind (unenc encMe [AV.sl (List.map eCap z.fst), AV.sl (List.map eI (List.set z.snd.snd.fst z.snd.snd.snd.fst (bif z.snd.snd.snd.snd.snd.snd.row == (0 : Int) then
  F.seekR (F.taken z.fst (List.take z.snd.snd.snd.fst z.snd.snd.fst) z.snd.snd.snd.snd.snd.snd) (Int.toNat (z.snd.fst + (2 : Int) - (↑(List.length
  z.snd.snd.snd.snd.snd.snd.lines) : Int) - z.snd.snd.snd.snd.snd.fst)) z.snd.snd.snd.snd.snd.fst else z.snd.snd.snd.snd.snd.snd.row))), (vI (↑z.snd.snd.snd.fst : Int)), (vI
  (List.getD z_4 z.snd.snd.snd.fst (0 : Int)))]) fun (z_5 : List Cap × List Int × Nat × Int) => bif F.capsR z_5.fst && F.rowsB (List.take z_5.snd.snd.fst z_5.snd.fst) &&
  F.rowB z_5.snd.snd.snd && decide (List.length z_5.snd.fst = List.length z_5.fst) && decide (List.length z_5.fst ≤ (500 : Nat)) && decide (z_5.snd.snd.fst < List.length
  z_5.fst) then bif F.taken z_5.fst (List.take z_5.snd.snd.fst z_5.snd.fst) (List.getD z_5.fst z_5.snd.snd.fst (Cap.mk (0 : Int) (0 : Int) [] (0 : Int) false false))
  z_5.snd.snd.snd then some (Ex.normal, St.mk [(26, (vI (IntKind.wrap IntKind.i64 ((↑z.snd.snd.snd.fst : Int) + (1 : Int))))), (25, (vI (↑(List.length z.fst) : Int))), (24,
  AV.sl (List.map eCap z.fst)), (9, (vI (IntKind.wrap IntKind.i64 (z.snd.snd.snd.snd.fst + (1 : Int))))), (8, .own 23), (1, (vI z.snd.fst)), (0, AV.sl (List.map eCap
  z.fst))] [(23, Blk.mk false 3 1 (List.map eI (List.set z.snd.snd.fst z.snd.snd.snd.fst (bif z.snd.snd.snd.snd.snd.snd.row == (0 : Int) then F.seekR (F.taken z.fst
  (List.take z.snd.snd.snd.fst z.snd.snd.fst) z.snd.snd.snd.snd.snd.snd) (Int.toNat (z.snd.fst + (2 : Int) - (↑(List.length z.snd.snd.snd.snd.snd.snd.lines) : Int) -
  z.snd.snd.snd.snd.snd.fst)) z.snd.snd.snd.snd.snd.fst else z.snd.snd.snd.snd.snd.snd.row))))]) else some (Ex.normal, St.mk [(26, (vI (IntKind.wrap IntKind.i64
  ((↑z.snd.snd.snd.fst : Int) + (1 : Int))))), (25, (vI (↑(List.length z.fst) : Int))), (24, AV.sl (List.map eCap z.fst)), (9, (vI z.snd.snd.snd.snd.fst)), (8, .own 23), (1,
  (vI z.snd.fst)), (0, AV.sl (List.map eCap z.fst))] [(23, Blk.mk false 3 1 (List.map eI (List.set z.snd.snd.fst z.snd.snd.snd.fst (bif z.snd.snd.snd.snd.snd.snd.row == (0 :
  Int) then F.seekR (F.taken z.fst (List.take z.snd.snd.snd.fst z.snd.snd.fst) z.snd.snd.snd.snd.snd.snd) (Int.toNat (z.snd.fst + (2 : Int) - (↑(List.length
  z.snd.snd.snd.snd.snd.snd.lines) : Int) - z.snd.snd.snd.snd.snd.fst)) z.snd.snd.snd.snd.snd.fst else z.snd.snd.snd.snd.snd.snd.row))))]) else none else none else none else
  some (Ex.normal, St.mk [(26, (vI (IntKind.wrap IntKind.i64 ((↑z.snd.snd.snd.fst : Int) + (1 : Int))))), (25, (vI (↑(List.length z.fst) : Int))), (24, AV.sl (List.map eCap
  z.fst)), (9, (vI (IntKind.wrap IntKind.i64 (z.snd.snd.snd.snd.fst + (1 : Int))))), (8, .own 23), (1, (vI z.snd.fst)), (0, AV.sl (List.map eCap z.fst))] [(23, Blk.mk false
  3 1 (List.map eI (List.set z.snd.snd.fst z.snd.snd.snd.fst (bif z.snd.snd.snd.snd.snd.snd.row == (0 : Int) then F.seekR (F.taken z.fst (List.take z.snd.snd.snd.fst
  z.snd.snd.fst) z.snd.snd.snd.snd.snd.snd) (Int.toNat (z.snd.fst + (2 : Int) - (↑(List.length z.snd.snd.snd.snd.snd.snd.lines) : Int) - z.snd.snd.snd.snd.snd.fst))
  z.snd.snd.snd.snd.snd.fst else z.snd.snd.snd.snd.snd.snd.row))))]) else none else none else some (Ex.normal, St.mk [(26, (vI (IntKind.wrap IntKind.i64 ((↑z.snd.snd.snd.fst
  : Int) + (1 : Int))))), (25, (vI (↑(List.length z.fst) : Int))), (24, AV.sl (List.map eCap z.fst)), (9, (vI (IntKind.wrap IntKind.i64 (z.snd.snd.snd.snd.fst + (1 :
  Int))))), (8, .own 23), (1, (vI z.snd.fst)), (0, AV.sl (List.map eCap z.fst))] [(23, Blk.mk false 3 1 (List.map eI (List.set z.snd.snd.fst z.snd.snd.snd.fst (bif
  z.snd.snd.snd.snd.snd.snd.row == (0 : Int) then F.seekR (F.taken z.fst (List.take z.snd.snd.snd.fst z.snd.snd.fst) z.snd.snd.snd.snd.snd.snd) (Int.toNat (z.snd.fst + (2 :
  Int) - (↑(List.length z.snd.snd.snd.snd.snd.snd.lines) : Int) - z.snd.snd.snd.snd.snd.fst)) z.snd.snd.snd.snd.snd.fst else z.snd.snd.snd.snd.snd.snd.row))))]) else none
  else none else none else none else none else none else some (Ex.exit (0 : Nat), St.mk [(9, (vI bad)), (8, .own 23)] [(23, Blk.mk false 3 1 (List.map eI xs))]) := (execR_bind _ _ _).symm.trans (by kernel_rfl)

theorem lpRPl_ok (l : List Cap) (w : Int) (xs : List Int) (bad : Int) (k : Nat) (hp : prlRPl l w xs bad k = true) : ∀ ex s', (outRPl l w xs bad k).val = some (ex, s') → LoopOK enRPl (loopN Tryd.f34 0) (stRPl l w xs bad k) ex s' := by
  simp only [prlRPl, Bool.and_eq_true, decide_eq_true_eq] at hp
  obtain ⟨⟨⟨⟨⟨⟨⟨h1, h2⟩, h3⟩, h4⟩, h5⟩, h6⟩, h7⟩, h8⟩ := hp
  have h6 := of_decide_eq_true h6
  have hw : 1 ≤ w ∧ w ≤ 15 := by simpa [F.wOK, F.le] using h2
  refine loop_gen (st := fun a : List Int × Int × Nat => stRPl l w a.1 a.2.1 a.2.2) (out := fun a => outRPl l w a.1 a.2.1 a.2.2) (I := fun a => a.1.length = l.length ∧ F.rowsB (a.1.take a.2.2) = true ∧ 0 ≤ a.2.1 ∧ a.2.1 ≤ a.2.2 ∧ a.2.2 ≤ l.length) (n := ([26, 25, 24, 9, 8, 1, 0], [23])) (e := ([9, 8], [23])) (r := ([], [])) (fun a => l.length - a.2.2) ?_ (xs, bad, k) ⟨h4, h5, h6, h7, h8⟩
  rintro ⟨xs, bad, k⟩ ⟨h4, h5, h6, h7, h8⟩
  simp only at h4 h5 h6 h7 h8
  by_cases hlt : k < l.length
  · have hy : l[k]? = some l[k] := List.getElem?_eq_getElem hlt
    generalize l[k] = c at hy
    have hcR := F.capsR_at h1 hy
    have hcr := F.capR_iff.1 hcR
    have hgd : l.getD k ⟨0, 0, [], 0, false, false⟩ = c := getD_at hy
    have hix : k < xs.length := by omega
    have hI : F.PlI l (xs.take k, bad) k := ⟨by simp only [List.length_take]; omega, h5, h6, h7⟩
    have hI' := hI.step hcR h2
    have hpb := F.pick_bd (l := l) (first := xs.take k) hcR h2
    have hpb2 := F.rowB_iff.1 hpb
    have hd := drop_at hy
    have hN := next_at hlt (by omega : l.length ≤ 9223372036854775807)
    have h500 : decide (l.length ≤ 500) = true := decide_eq_true h3
    have w3 : IntKind.i64.wrap (bad + 1) = bad + 1 := wrap_id (by omega) (by omega)
    have w1 : IntKind.i64.wrap (F.pick l (xs.take k) c w + (c.lines.length : Int)) = F.pick l (xs.take k) c w + (c.lines.length : Int) := wrap_id (by omega) (by omega)
    have w2 : IntKind.i64.wrap (F.pick l (xs.take k) c w + (c.lines.length : Int) - 1) = F.pick l (xs.take k) c w + (c.lines.length : Int) - 1 := wrap_id (by omega) (by omega)
    have e0 : w + 2 - (c.lines.length : Int) - 1 = w + 1 - (c.lines.length : Int) := by omega
    have hpk : (bif c.row == 0 then F.seekR (F.taken l (xs.take k) c) (w + 1 - (c.lines.length : Int)).toNat 1 else c.row) = F.pick l (xs.take k) c w := rfl
    have f2 : F.isAt l k c = true := by simpa [F.isAt] using hy
    have f3 : F.isI (xs.set k c.row) k c.row = true := by simp [F.isI, hix]
    have g2 : F.le 1 1 = true := rfl
    have g3 : F.le 1 100 = true := rfl
    have hlx : decide ((xs.set k (F.pick l (xs.take k) c w)).length = l.length) = true := decide_eq_true (by simp [h4])
    have hlx0 : decide ((xs.set k c.row).length = l.length) = true := decide_eq_true (by simp [h4])
    right
    refine ⟨(xs.set k (F.pick l (xs.take k) c w), bif F.badR l (xs.take k) c w (F.pick l (xs.take k) c w) then bad + 1 else bad, k + 1), ?_, rfl, ⟨by simp only [List.length_set]; exact h4, ?_, hI'.lo, hI'.hi, hlt⟩, by simp only; omega, ?_⟩
    · unfold F.badR F.lt
      rw [evRPlL]
      simp only [cast_lt hlt, cond_true, unCaps, unInts, Option.bind_some, decide_eq_true hlt, hgd, List.length_map, decide_eq_true hix, idx_nat, setInt, unstRPi, prlRPi, outRPi]
      simp only [F.take_set_same, h1, h5, h2, g2, g3, f2, f3, h500, hlx0, Bool.and_self, cond_true, e0, hpk, List.set_set, List.length_set, decide_eq_true hix, getD_set hix, w1, w2, unMe, preMe1, Option.bind_some, hpb, hlx, decide_eq_true hlt, hgd, hN, w3, decide_eq_true h4]
      cases F.pick l (xs.take k) c w == 0 <;> cases decide (w < F.pick l (xs.take k) c w + (c.lines.length : Int) - 1) <;> cases F.taken l (xs.take k) c (F.pick l (xs.take k) c w) <;> rfl
    · simp only [F.take_set_succ hix]
      exact F.rowsB_app h5 hpb
    · simp only [outRPl, F.take_set_succ hix, hd, List.foldl_cons]
      rfl
  · have : k = l.length := by omega
    subst this
    left
    refine ⟨_, ?_, rfl, by simp, rfl⟩
    rw [evRPlL]
    have e : xs.take l.length = xs := by rw [← h4]; exact List.take_length
    simp only [Int.lt_irrefl, decide_false, cond_false, List.drop_length, List.foldl_nil, e]

theorem evRPl (l : List Cap) (w : Int) : (runF enRPl false Tryd.f34 [.sl (l.map eCap), vI w]).val =
  Option.bind (unenc encRhC [AV.sl (List.map eCap l)]) fun (z : List Cap) => bif F.smC z then bif F.chkC z != (0 : Int) then some (AV.tup [AV.sl [], (vI (0 : Int)), (vI
  (F.chkC z))], []) else Option.bind (unenc encWithin [(vI w), (vI (1 : Int)), (vI (15 : Int))]) fun (z : Int × Int × Int) => bif !F.within z.fst z.snd.fst z.snd.snd then
  some (AV.tup [AV.sl [], (vI (0 : Int)), (vI (1 : Int))], []) else bif Nat.ble (List.length (List.map eCap l)) (List.length (List.map eCap l)) && Nat.ble (List.length
  (List.map eCap l) * (8 : Nat)) (140737488355328 : Nat) then Option.bind (unenc stRPl1 (St.mk [(26, (vI (0 : Int))), (25, (vI (↑(List.length (List.map eCap l)) : Int))),
  (24, AV.sl (List.map eCap l)), (9, (vI (0 : Int))), (8, .own 23), (1, (vI w)), (0, AV.sl (List.map eCap l))] [(23, Blk.mk false 3 1 (List.replicate (List.length (List.map
  eCap l)) [(vI (0 : Int))]))])) fun (z : List Cap × Int × List Int × Int × Nat) => bif F.capsR z.fst && F.wOK z.snd.fst && decide (List.length z.fst ≤ (500 : Nat)) &&
  decide (List.length z.snd.snd.fst = List.length z.fst) && F.rowsB (List.take z.snd.snd.snd.snd z.snd.snd.fst) && F.le (0 : Int) z.snd.snd.snd.fst && decide
  (z.snd.snd.snd.fst ≤ (↑z.snd.snd.snd.snd : Int)) && decide (z.snd.snd.snd.snd ≤ List.length z.fst) && true then some (AV.tup [AV.sl (List.map eI (List.foldl (F.plS z.fst
  z.snd.fst) (List.take z.snd.snd.snd.snd z.snd.snd.fst, z.snd.snd.snd.fst) (List.drop z.snd.snd.snd.snd z.fst)).fst), (vI (List.foldl (F.plS z.fst z.snd.fst) (List.take
  z.snd.snd.snd.snd z.snd.snd.fst, z.snd.snd.snd.fst) (List.drop z.snd.snd.snd.snd z.fst)).snd), (vI (0 : Int))], []) else none else none else none := (runFR_val).symm.trans (by kernel_rfl)

def encRPl1 (l : List Cap) (w : Int) : List AV := [.sl (l.map eCap), vI w]

def encRPl (a : (List Cap) × Int) : List AV := encRPl1 a.1 a.2

theorem encRPl_inj (a a' : (List Cap) × Int) (h : encRPl a = encRPl a') : a = a' := by
  simp only [encRPl, encRPl1] at h
  try simp [strs_inj, ints_inj, bools_inj, eCaps_inj, eCap_iff, eL_eCaps_inj, eMchs_inj, eMch_iff, eWrds_inj, eWrd_iff, eFnds_inj, eFnd_iff, eRatios_inj, eRatio_iff, eWays_inj, eWay_iff] at h
  grind

theorem unRPl (l : List Cap) (w : Int) : unenc encRPl ([AV.sl (List.map eCap l), (vI w)]) = some (l, w) := unenc_of encRPl_inj (l, w) rfl

def resRPl1 (l : List Cap) (w : Int) : AV × Heap := (.tup [.sl ((F.place l w).1.map eI), vI (F.place l w).2.1, vI (F.place l w).2.2], [])

def preRPl1 (l : List Cap) (w : Int) : Bool := F.smC l

noncomputable def oRPl : Orc := orc 34 false encRPl (fun a => preRPl1 a.1 a.2) fun a => resRPl1 a.1 a.2

theorem okRPl : OrcOK Tryd.prog noG oRPl := by
  refine mk_ok Tryd.f34 (keep := false) (by kernel_rfl) (by kernel_rfl) enRPl_ok mixed (two_loops (x0 := loopN Tryd.f34 0) (x1 := loopN Tryd.f34 1) (by kernel_rfl) (lpo_ok ?_) (lpo_ok ?_)) (by first | exact fun _ _ => ⟨rfl, rfl⟩ | (intro h; cases h)) ?_
  · rintro ⟨l, w, xs, bad, k⟩ hp
    exact lpRPl_ok l w xs bad k hp
  · rintro ⟨l, w, xs, i, bad, r, c⟩ hp
    exact lpRPi_ok l w xs i bad r c hp
  rintro ⟨l, w⟩ hpre hok
  show (runF enRPl false _ (encRPl1 _ _)).val = some (resRPl1 _ _)
  unfold encRPl1 resRPl1
  rw [evRPl]
  simp only [preRPl1] at hpre
  simp only [unRhC, preRhC1, unWithin, preWithin1, Option.bind_some, hpre, cond_true, F.place, List.length_map, F.within_out, Bool.not_not]
  by_cases h0 : F.chkC l = 0
  case neg =>
    rw [bne1 h0]; rfl
  rw [bne0 h0]
  have c1 := F.chk_capsR h0
  have c4 := F.chk_len h0
  have c2 : decide (l.length ≤ 500) = true := decide_eq_true c4
  simp only [cond_false]
  cases h1 : F.out w 1 15
  case true => rfl
  have c3 : F.wOK w = true := by
    unfold F.out at h1
    simp [F.wOK, F.le] at h1 ⊢
    omega
  simp only [cond_false, rep_ints, unstRPl0, Option.bind_some, prlRPl, outRPl, c1, c2, c3, Bool.and_self, cond_true, Bool.true_and, List.length_replicate, decide_true, List.take_zero, Nat.zero_le, List.drop_zero, ble_t (Nat.le_refl l.length), ble_t (show l.length * 8 ≤ 140737488355328 by omega)]
  rfl

end M
end Go.Proofs.YtniealifncgilaaDoor
