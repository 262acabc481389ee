/- What is proved here: the times at which captions change, of the reference; the laws (no statement of the seat). -/
import Derived.Test.YtdmccifaggmmkaaDoorC55
namespace Go.Proofs.YtdmccifaggmmkaaDoor
open Go Go.RowKit
set_option linter.unusedVariables false
set_option linter.unusedSimpArgs false

def F.chgP (l : List Cap) (t : Int) : Bool := !F.sameIL (F.actF (t - 1) 0 l) (F.actF t 0 l)

def F.timesOK (xs : List Int) : Bool := xs.all fun t => decide (0 ≤ t) && decide (t ≤ 359999999)

theorem F.noTime_bd {t : Int} (h : F.noTime t = false) : 0 ≤ t ∧ t ≤ 359999999 := by
  unfold F.noTime F.out at h
  simp at h
  omega

theorem F.chgs_ok {l : List Cap} (h : F.chkC l = 0) : (F.cmpI (F.srtI (F.ftT l))).filter (F.chgP l) = F.cmpI (F.srtI (F.ftT l)) ∧ ∀ n, F.timesOK (F.cmpI (F.srtI (F.ftT l)) ++ List.replicate n 0) = true := by
  have hm : ∀ t ∈ F.cmpI (F.srtI (F.ftT l)), ∃ c ∈ l, (t = c.fr ∨ t = c.to) ∧ c.fr < c.to ∧ (0 ≤ t ∧ t ≤ 359999999) := fun t ht => by
    have h1 := M.mem_cmpI ht
    have h2 : t ∈ F.ftT l := (List.mergeSort_perm ..).subset h1
    obtain ⟨c, hc, h3⟩ := F.mem_ftT h2
    obtain ⟨q, hq⟩ := F.chk_at h hc
    obtain ⟨g1, g2, g3, _⟩ := F.capF_ok hq
    have g1 := F.noTime_bd g1
    have g2 := F.noTime_bd g2
    have g3 := of_decide_eq_false g3
    exact ⟨c, hc, h3, by omega, by rcases h3 with rfl | rfl <;> omega⟩
  refine ⟨List.filter_eq_self.2 fun t ht => ?_, fun n => List.all_eq_true.2 fun t ht => ?_⟩
  · obtain ⟨c, hc, h1, h2, _⟩ := hm t ht
    unfold F.chgP
    rw [F.chg_yes hc h2 h1]; rfl
  · rcases List.mem_append.1 ht with ht | ht
    · obtain ⟨c, hc, h1, h2, h3, h4⟩ := hm t ht
      rw [decide_eq_true h3, decide_eq_true h4]; rfl
    · rw [(List.mem_replicate.1 ht).2]; rfl

namespace M

def stRCg (l : List Cap) (out : List Int) (k : Nat) : St := ⟨[(18, vI k), (17, vI l.length), (16, .sl (l.map eCap)), (5, .own 5), (0, .sl (l.map eCap))], [(5, ⟨false, 3, 1, out.map eI⟩)]⟩

def stRCg1 (a : (List Cap) × (List Int) × Nat) : St := stRCg a.1 a.2.1 a.2.2

theorem stRCg_inj (a a' : (List Cap) × (List Int) × Nat) (h : stRCg1 a = stRCg1 a') : a = a' := by
  simp only [stRCg1, stRCg] at h
  try simp [strs_inj, ints_inj, bools_inj, eCaps_inj, eCap_iff, eL_eCaps_inj, eMchs_inj, eMch_iff, eWrds_inj, eWrd_iff, eFnds_inj, eFnd_iff, eRatios_inj, eRatio_iff, eWays_inj, eWay_iff] at h
  grind

theorem unstRCg (l : List Cap) (out : List Int) (k : Nat) : unenc stRCg1 (St.mk [(18, (vI (↑k : Int))), (17, (vI (↑(List.length l) : Int))), (16, AV.sl (List.map eCap l)), (5, .own 5), (0, AV.sl (List.map eCap l))] [(5, Blk.mk false 3 1
  (List.map eI out))]) = some (l, out, k) := unenc_of stRCg_inj (l, out, k) rfl

theorem unstRCg0 (l : List Cap)  : unenc stRCg1 (St.mk [(18, (vI (0 : Int))), (17, (vI (↑(List.length l) : Int))), (16, AV.sl (List.map eCap l)), (5, .own 5), (0, AV.sl (List.map eCap l))] [(5, Blk.mk false 3 1 [])]) = some (l, [], 0) := unenc_of stRCg_inj (l, [], 0) rfl

def outRCg (l : List Cap) (out : List Int) (k : Nat) : T (Ex × St) := .ret (.exit 0, ⟨[(5, .own 5), (0, .sl (l.map eCap))], [(5, ⟨false, 3, 1, (out ++ F.ftT (l.drop k)).map eI⟩)]⟩)

noncomputable def prlRCg (l : List Cap) (out : List Int) (k : Nat) : Bool := decide (l.length ≤ 500) && decide (k ≤ l.length) && decide (out.length = 2 * k)

noncomputable def lpRCg : Nat × (St → T (Ex × St)) := (6, lpo [18, 17, 16, 5, 0] [5] stRCg1 (fun a => prlRCg a.1 a.2.1 a.2.2) fun a => outRCg a.1 a.2.1 a.2.2)

def stRC2 (l : List Cap) (xs : List Int) (m : Nat) (out : List Int) (k : Nat) : St := ⟨[(35, vI k), (34, vI m), (33, .win 5 0 m), (8, .own 8), (0, .sl (l.map eCap))], [(8, ⟨false, 3, 1, out.map eI⟩), (5, ⟨false, 3, 1, xs.map eI⟩)]⟩

def stRC21 (a : (List Cap) × (List Int) × Nat × (List Int) × Nat) : St := stRC2 a.1 a.2.1 a.2.2.1 a.2.2.2.1 a.2.2.2.2

theorem stRC2_inj (a a' : (List Cap) × (List Int) × Nat × (List Int) × Nat) (h : stRC21 a = stRC21 a') : a = a' := by
  simp only [stRC21, stRC2] at h
  try simp [strs_inj, ints_inj, bools_inj, eCaps_inj, eCap_iff, eL_eCaps_inj, eMchs_inj, eMch_iff, eWrds_inj, eWrd_iff, eFnds_inj, eFnd_iff, eRatios_inj, eRatio_iff, eWays_inj, eWay_iff] at h
  grind

theorem unstRC2 (l : List Cap) (xs : List Int) (m : Nat) (out : List Int) (k : Nat) : unenc stRC21 (St.mk [(35, (vI (↑k : Int))), (34, (vI (↑m : Int))), (33, AV.win (5 : Nat) (0 : Nat) m), (8, .own 8), (0, AV.sl (List.map eCap l))] [(8, Blk.mk false 3 1 (List.map eI
  out)), (5, Blk.mk false 3 1 (List.map eI xs))]) = some (l, xs, m, out, k) := unenc_of stRC2_inj (l, xs, m, out, k) rfl

theorem unstRC20 (l : List Cap) (xs : List Int) (m : Nat)  : unenc stRC21 (St.mk [(35, (vI (0 : Int))), (34, (vI (↑m : Int))), (33, AV.win (5 : Nat) (0 : Nat) m), (8, .own 8), (0, AV.sl (List.map eCap l))] [(8, Blk.mk false 3 1 []), (5, Blk.mk
  false 3 1 (List.map eI xs))]) = some (l, xs, m, [], 0) := unenc_of stRC2_inj (l, xs, m, [], 0) rfl

def outRC2 (l : List Cap) (xs : List Int) (m : Nat) (out : List Int) (k : Nat) : T (Ex × St) := .ret (.exit 2, ⟨[(8, .own 8)], [(8, ⟨false, 3, 1, (out ++ ((xs.take m).drop k).filter (F.chgP l)).map eI⟩)]⟩)

noncomputable def prlRC2 (l : List Cap) (xs : List Int) (m : Nat) (out : List Int) (k : Nat) : Bool := decide (l.length ≤ 500) && decide (xs.length ≤ 100000) && decide (m ≤ xs.length) && decide (k ≤ m) && decide (out.length ≤ k) && F.timesOK xs

noncomputable def lpRC2 : Nat × (St → T (Ex × St)) := (13, lpo [35, 34, 33, 8, 0] [8, 5] stRC21 (fun a => prlRC2 a.1 a.2.1 a.2.2.1 a.2.2.2.1 a.2.2.2.2) fun a => outRC2 a.1 a.2.1 a.2.2.1 a.2.2.2.1 a.2.2.2.2)

noncomputable def enRCg : Env := envH ty noG lks [oRhC, oRAc, oEqI] [oSo, oCpt] [] [lpRCg, lpRC2]

theorem enRCg_ok : EnvOK Tryd.prog enRCg := by
  refine envH_ok lks_ok ty_ok ?_ ?_
  · simp only [List.forall_mem_cons]
    exact ⟨okRhC, okRAc, okEqI, by simp⟩
  · simp only [List.forall_mem_cons]
    exact ⟨okSo, okCpt, by simp⟩

theorem evRCgL (l : List Cap) (out : List Int) (k : Nat) : ((exec enRCg (loopN Tryd.f17 0) (stRCg l out k)).bind (lessX ([18, 17, 16, 5, 0], [5]) ([5, 0], [5]) ([], []))).val =
  bif decide ((↑k : Int) < (↑(List.length l) : Int)) then Option.bind (unenc (List.map eCap) (List.map eCap l)) fun (z : List Cap) => bif decide (k < List.length z) then bif
  Nat.ble ((List.length (List.map eI out) + (2 : Nat)) * (8 : Nat)) (140737488355328 : Nat) && true then some (Ex.normal, St.mk [(18, (vI (IntKind.wrap IntKind.i64 ((↑k :
  Int) + (1 : Int))))), (17, (vI (↑(List.length l) : Int))), (16, AV.sl (List.map eCap l)), (5, .own 5), (0, AV.sl (List.map eCap l))] [(5, Blk.mk false 3 1 (List.map eI out
  ++ [[(vI (List.getD z k (Cap.mk (0 : Int) (0 : Int) [] (0 : Int) false false)).fr)], [(vI (List.getD z k (Cap.mk (0 : Int) (0 : Int) [] (0 : Int) false false)).to)]]))])
  else none else none else some (Ex.exit (0 : Nat), St.mk [(5, .own 5), (0, AV.sl (List.map eCap l))] [(5, Blk.mk false 3 1 (List.map eI out))]) := (execR_bind _ _ _).symm.trans (by kernel_rfl)

theorem lpRCg_ok (l : List Cap) (out : List Int) (k : Nat) (hp : prlRCg l out k = true) : ∀ ex s', (outRCg l out k).val = some (ex, s') → LoopOK enRCg (loopN Tryd.f17 0) (stRCg l out k) ex s' := by
  simp only [prlRCg, Bool.and_eq_true, decide_eq_true_eq] at hp
  obtain ⟨⟨h1, h2⟩, h3⟩ := hp
  refine loop_gen (st := fun a : List Int × Nat => stRCg l a.1 a.2) (out := fun a => outRCg l a.1 a.2) (I := fun a => a.2 ≤ l.length ∧ a.1.length = 2 * a.2) (n := ([18, 17, 16, 5, 0], [5])) (e := ([5, 0], [5])) (r := ([], [])) (fun a => l.length - a.2) ?_ (out, k) ⟨h2, h3⟩
  rintro ⟨out, k⟩ ⟨hk, ho⟩
  simp only at hk ho
  by_cases hlt : k < l.length
  · right
    have hy : l[k]? = some l[k] := List.getElem?_eq_getElem hlt
    generalize l[k] = y at hy
    have hb : Nat.ble ((out.length + 2) * 8) 140737488355328 = true := ble_t (by omega)
    refine ⟨(out ++ [y.fr, y.to], k + 1), ?_, rfl, ⟨by simp only; omega, by simp; omega⟩, by simp only; omega, ?_⟩
    · rw [evRCgL]
      simp only [unRhC, unRAc, unEqI, unSo, unCpt, preRhC1, preRAc1, preEqI1, preSo1, preCpt1, unstRCg, unstRC2, unstRCg0, unstRC20, prlRCg, prlRC2, outRCg, outRC2, etaCap, etaMch, etaWrd, etaFnd, etaRatio, etaWay, Option.bind_some, List.length_map, unStrs, unInts, unBools, unCaps, uneL_eCaps, unMchs, unWrds, unFnds, unRatios, unWays, F.lt, F.le, cond_true, cond_false, Bool.and_true, Bool.true_and, cast_lt hlt, decide_eq_true hlt, next_at hlt (by omega : l.length ≤ 9223372036854775807), getD_at hy, stRCg, hb, app2I]
      try rfl
    · simp only [outRCg, drop_at hy]
      simp [F.ftT]
  · have : k = l.length := by omega
    subst this
    left
    refine ⟨(.exit 0, ⟨[(5, .own 5), (0, .sl (l.map eCap))], [(5, ⟨false, 3, 1, out.map eI⟩)]⟩), ?_, ?_, by simp, rfl⟩
    · rw [evRCgL]; simp
    · simp only [outRCg, List.drop_length, F.ftT, List.flatMap_nil, List.append_nil]
      rfl

theorem evRC2L (l : List Cap) (xs : List Int) (m : Nat) (out : List Int) (k : Nat) : ((exec enRCg (loopN Tryd.f17 1) (stRC2 l xs m out k)).bind (lessX ([35, 34, 33, 8, 0], [8, 5]) ([8], [8]) ([], []))).val =
  bif decide ((↑k : Int) < (↑m : Int)) then bif decide (k < m) then Option.bind (unenc (List.map eI) (List.map eI xs)) fun (z : List Int) => bif decide ((0 : Nat) + k <
  List.length z) then Option.bind (unenc encRAc [AV.sl (List.map eCap l), (vI (IntKind.wrap IntKind.i64 (List.getD z ((0 : Nat) + k) (0 : Int) - (1 : Int))))]) fun (z_1 :
  List Cap × Int) => bif decide (List.length z_1.fst ≤ (500 : Nat)) then Option.bind (unenc encRAc [AV.sl (List.map eCap l), (vI (List.getD z ((0 : Nat) + k) (0 : Int)))])
  fun (z_2 : List Cap × Int) => bif decide (List.length z_2.fst ≤ (500 : Nat)) then Option.bind (unenc encEqI [AV.sl (List.map eI (F.actF z_1.snd (0 : Nat) z_1.fst)), AV.sl
  (List.map eI (F.actF z_2.snd (0 : Nat) z_2.fst))]) fun (z_3 : List Int × List Int) => bif !F.sameIL z_3.fst z_3.snd then bif Nat.ble ((List.length (List.map eI out) + (1 :
  Nat)) * (8 : Nat)) (140737488355328 : Nat) && true then some (Ex.normal, St.mk [(35, (vI (IntKind.wrap IntKind.i64 ((↑k : Int) + (1 : Int))))), (34, (vI (↑m : Int))), (33,
  AV.win (5 : Nat) (0 : Nat) m), (8, .own 8), (0, AV.sl (List.map eCap l))] [(8, Blk.mk false 3 1 (List.map eI out ++ [[(vI (List.getD z ((0 : Nat) + k) (0 : Int)))]])), (5,
  Blk.mk false 3 1 (List.map eI xs))]) else none else some (Ex.normal, St.mk [(35, (vI (IntKind.wrap IntKind.i64 ((↑k : Int) + (1 : Int))))), (34, (vI (↑m : Int))), (33,
  AV.win (5 : Nat) (0 : Nat) m), (8, .own 8), (0, AV.sl (List.map eCap l))] [(8, Blk.mk false 3 1 (List.map eI out)), (5, Blk.mk false 3 1 (List.map eI xs))]) else none else
  none else none else none else some (Ex.exit (2 : Nat), St.mk [(8, .own 8)] [(8, Blk.mk false 3 1 (List.map eI out))]) := (execR_bind _ _ _).symm.trans (by kernel_rfl)

theorem lpRC2_ok (l : List Cap) (xs : List Int) (m : Nat) (out : List Int) (k : Nat) (hp : prlRC2 l xs m out k = true) : ∀ ex s', (outRC2 l xs m out k).val = some (ex, s') → LoopOK enRCg (loopN Tryd.f17 1) (stRC2 l xs m out k) ex s' := by
  simp only [prlRC2, Bool.and_eq_true, decide_eq_true_eq] at hp
  obtain ⟨⟨⟨⟨⟨h1, h2⟩, h3⟩, h4⟩, h5⟩, h6⟩ := hp
  refine loop_gen (st := fun a : List Int × Nat => stRC2 l xs m a.1 a.2) (out := fun a => outRC2 l xs m a.1 a.2) (I := fun a => a.2 ≤ m ∧ a.1.length ≤ a.2) (n := ([35, 34, 33, 8, 0], [8, 5])) (e := ([8], [8])) (r := ([], [])) (fun a => m - a.2) ?_ (out, k) ⟨h4, h5⟩
  rintro ⟨out, k⟩ ⟨hk, ho⟩
  simp only at hk ho
  by_cases hlt : k < m
  · right
    have hy : xs[k]? = some xs[k] := List.getElem?_eq_getElem (by omega)
    generalize xs[k] = y at hy
    have hlx := lt_at hy
    have hyt := List.all_eq_true.1 h6 y (List.mem_of_getElem? hy)
    simp only [Bool.and_eq_true, decide_eq_true_eq] at hyt
    have hb : Nat.ble ((out.length + 1) * 8) 140737488355328 = true := ble_t (by omega)
    have w1 : IntKind.i64.wrap (y - 1) = y - 1 := wrap_id (by omega) (by omega)
    have hty : (xs.take m)[k]? = some y := by rw [List.getElem?_take_of_lt hlt]; exact hy
    refine ⟨(bif F.chgP l y then out ++ [y] else out, k + 1), ?_, rfl, ⟨by simp only; omega, by cases F.chgP l y <;> simp <;> omega⟩, by simp only; omega, ?_⟩
    · rw [evRC2L]
      simp only [unRhC, unRAc, unEqI, unSo, unCpt, preRhC1, preRAc1, preEqI1, preSo1, preCpt1, unstRCg, unstRC2, unstRCg0, unstRC20, prlRCg, prlRC2, outRCg, outRC2, etaCap, etaMch, etaWrd, etaFnd, etaRatio, etaWay, Option.bind_some, List.length_map, unStrs, unInts, unBools, unCaps, uneL_eCaps, unMchs, unWrds, unFnds, unRatios, unWays, F.lt, F.le, cond_true, cond_false, Bool.and_true, Bool.true_and, cast_lt hlt, decide_eq_true hlt, Nat.zero_add, decide_eq_true hlx, decide_eq_true h1, next_at hlt (by omega : m ≤ 9223372036854775807), getD_at hy, stRC2, hb, w1, app1I]
      unfold F.chgP
      cases F.sameIL (F.actF (y - 1) 0 l) (F.actF y 0 l) <;> rfl
    · simp only [outRC2]
      rw [drop_at hty, List.filter_cons]
      cases F.chgP l y <;> simp
  · have : k = m := by omega
    subst this
    left
    refine ⟨(.exit 2, ⟨[(8, .own 8)], [(8, ⟨false, 3, 1, out.map eI⟩)]⟩), ?_, ?_, by simp, rfl⟩
    · rw [evRC2L]; simp
    · simp only [outRC2]
      rw [List.drop_of_length_le (by rw [List.length_take]; omega), List.filter_nil, List.append_nil]
      rfl

theorem evRCg (l : List Cap) : (runF enRCg false Tryd.f17 [.sl (l.map eCap)]).val =
  Option.bind (unenc encRhC [AV.sl (List.map eCap l)]) fun (z : List Cap) => bif F.smC z then bif F.chkC z != (0 : Int) then some (AV.tup [AV.sl [], (vI (F.chkC z))], [])
  else Option.bind (unenc stRCg1 (St.mk [(18, (vI (0 : Int))), (17, (vI (↑(List.length (List.map eCap l)) : Int))), (16, AV.sl (List.map eCap l)), (5, .own 5), (0, AV.sl
  (List.map eCap l))] [(5, Blk.mk false 3 1 [])])) fun (z : List Cap × List Int × Nat) => bif decide (List.length z.fst ≤ (500 : Nat)) && decide (z.snd.snd ≤ List.length
  z.fst) && decide (List.length z.snd.fst = (2 : Nat) * z.snd.snd) && true then Option.bind (unenc encSo ([.own 900], [(900, Blk.mk false 3 1 (List.map eI (z.snd.fst ++
  F.ftT (List.drop z.snd.snd z.fst))))])) fun (z_1 : List Int) => bif decide (List.length z_1 ≤ (100000 : Nat)) then Option.bind (unenc encCpt ([.own 900], [(900, Blk.mk
  false 3 1 (List.map eI (F.srtI z_1)))])) fun (z_2 : List Int) => bif decide (List.length z_2 ≤ (100000 : Nat)) then Option.bind (unenc stRC21 (St.mk [(35, (vI (0 : Int))),
  (34, (vI (↑(List.length (F.cmpI z_2)) : Int))), (33, AV.win (List.getD [(5 : Nat)] (0 : Nat) (0 : Nat)) (0 : Nat) (List.length (F.cmpI z_2))), (8, .own 8), (0, AV.sl
  (List.map eCap z.fst))] [(8, Blk.mk false 3 1 []), (List.getD [(5 : Nat)] (0 : Nat) (0 : Nat), Blk.mk false 3 1 (List.map eI (F.cmpI z_2 ++ List.replicate (List.length z_2
  - List.length (F.cmpI z_2)) (0 : Int))))])) fun (z : List Cap × List Int × Nat × List Int × Nat) => bif decide (List.length z.fst ≤ (500 : Nat)) && decide (List.length
  z.snd.fst ≤ (100000 : Nat)) && decide (z.snd.snd.fst ≤ List.length z.snd.fst) && decide (z.snd.snd.snd.snd ≤ z.snd.snd.fst) && decide (List.length z.snd.snd.snd.fst ≤
  z.snd.snd.snd.snd) && F.timesOK z.snd.fst && true then some (AV.tup [AV.sl (List.map eI (z.snd.snd.snd.fst ++ List.filter (F.chgP z.fst) (List.drop z.snd.snd.snd.snd
  (List.take z.snd.snd.fst z.snd.fst)))), (vI (0 : Int))], []) else none else none else none else none else none := (runFR_val).symm.trans (by kernel_rfl)

def encRCg1 (l : List Cap) : List AV := [.sl (l.map eCap)]

def encRCg (a : (List Cap)) : List AV := encRCg1 a

theorem encRCg_inj (a a' : (List Cap)) (h : encRCg a = encRCg a') : a = a' := by
  simp only [encRCg, encRCg1] at h
  try simp [strs_inj, ints_inj, bools_inj, eCaps_inj, eCap_iff, eL_eCaps_inj, eMchs_inj, eMch_iff, eWrds_inj, eWrd_iff, eFnds_inj, eFnd_iff, eRatios_inj, eRatio_iff, eWays_inj, eWay_iff] at h
  grind

theorem unRCg (l : List Cap) : unenc encRCg ([AV.sl (List.map eCap l)]) = some (l) := unenc_of encRCg_inj (l) rfl

def resRCg1 (l : List Cap) : AV × Heap := (.tup [.sl ((F.changes l).1.map eI), vI (F.changes l).2], [])

def preRCg1 (l : List Cap) : Bool := F.smC l

noncomputable def oRCg : Orc := orc 17 false encRCg (fun a => preRCg1 a) fun a => resRCg1 a

theorem okRCg : OrcOK Tryd.prog noG oRCg := by
  refine mk_ok Tryd.f17 (keep := false) (by kernel_rfl) (by kernel_rfl) enRCg_ok mixed (two_loops (x0 := loopN Tryd.f17 0) (x1 := loopN Tryd.f17 1) (by kernel_rfl) (lpo_ok ?_) (lpo_ok ?_)) (by first | exact fun _ _ => ⟨rfl, rfl⟩ | (intro h; cases h)) ?_
  · rintro ⟨l, out, k⟩ hp
    exact lpRCg_ok l out k hp
  · rintro ⟨l, xs, m, out, k⟩ hp
    exact lpRC2_ok l xs m out k hp
  rintro l hpre hok
  show (runF enRCg false _ (encRCg1 _)).val = some (resRCg1 _)
  unfold encRCg1 resRCg1
  rw [evRCg]
  simp only [preRCg1] at hpre
  have hK : List.getD [(5 : Nat)] 0 0 = 5 := rfl
  simp only [unRhC, unRAc, unEqI, unSo, unCpt, preRhC1, preRAc1, preEqI1, preSo1, preCpt1, unstRCg, unstRC2, unstRCg0, unstRC20, prlRCg, prlRC2, outRCg, outRC2, etaCap, etaMch, etaWrd, etaFnd, etaRatio, etaWay, Option.bind_some, List.length_map, unStrs, unInts, unBools, unCaps, uneL_eCaps, unMchs, unWrds, unFnds, unRatios, unWays, F.lt, F.le, cond_true, cond_false, Bool.and_true, Bool.true_and, hpre, F.changes, List.drop_zero, List.nil_append, Nat.zero_le, decide_true, List.length_nil, hK]
  by_cases h0 : F.chkC l = 0
  · rw [bne0 h0]
    have h5 := F.chk_len h0
    have d1 : decide ((F.ftT l).length ≤ 100000) = true := decide_eq_true (by rw [F.ftT_len]; omega)
    have d2 : decide ((F.srtI (F.ftT l)).length ≤ 100000) = true := decide_eq_true (by rw [F.srtI_len, F.ftT_len]; omega)
    obtain ⟨k1, k2⟩ := F.chgs_ok h0
    have hl := F.cmpI_len (F.srtI (F.ftT l))
    have d3 : decide ((F.cmpI (F.srtI (F.ftT l)) ++ List.replicate ((F.srtI (F.ftT l)).length - (F.cmpI (F.srtI (F.ftT l))).length) (0 : Int)).length ≤ 100000) = true := decide_eq_true (by rw [List.length_append, List.length_replicate, show (F.cmpI (F.srtI (F.ftT l))).length + ((F.srtI (F.ftT l)).length - (F.cmpI (F.srtI (F.ftT l))).length) = (F.srtI (F.ftT l)).length by omega, F.srtI_len, F.ftT_len]; omega)
    have d4 : decide ((F.cmpI (F.srtI (F.ftT l))).length ≤ (F.cmpI (F.srtI (F.ftT l)) ++ List.replicate ((F.srtI (F.ftT l)).length - (F.cmpI (F.srtI (F.ftT l))).length) (0 : Int)).length) = true := decide_eq_true (by rw [List.length_append]; omega)
    simp only [cond_false, decide_eq_true h5, Bool.and_self, cond_true, d1, d2, d3, d4, k2, Nat.mul_zero, decide_true, List.take_left, k1, F.chgs]
  · rw [bne1 h0]; rfl

noncomputable def enLTm : Env := envH ty noG lks [oAc, oRAct, oCg, oRCg, oEqI, oAwk] [] [] []

theorem enLTm_ok : EnvOK Tryd.prog enLTm := by
  refine envH_ok lks_ok ty_ok ?_ ?_
  · simp only [List.forall_mem_cons]
    exact ⟨okAc, okRAct, okCg, okRCg, okEqI, okAwk, by simp⟩
  · simp

theorem evLTm (l : List Cap) (t : Int) : (runF enLTm false Tryd.f5 [.sl (l.map eCap), vI t]).val =
  Option.bind (unenc encAc [AV.sl (List.map eCap l), (vI t)]) fun (z : List Cap × Int) => bif F.smC z.fst then Option.bind (unenc encRAct [AV.sl (List.map eCap l), (vI t)])
  fun (z_1 : List Cap × Int) => bif F.smC z_1.fst then bif !(F.active z.fst z.snd).snd != (F.active z_1.fst z_1.snd).snd then Option.bind (unenc encEqI [AV.sl (List.map eI
  (F.active z.fst z.snd).fst), AV.sl (List.map eI (F.active z_1.fst z_1.snd).fst)]) fun (z : List Int × List Int) => bif !F.sameIL z.fst z.snd then some ((vB false), [])
  else Option.bind (unenc encCg [AV.sl (List.map eCap l)]) fun (z : List Cap) => bif F.smC z then Option.bind (unenc encRCg [AV.sl (List.map eCap l)]) fun (z_2 : List Cap)
  => bif F.smC z_2 then bif (F.changes z).snd == (F.changes z_2).snd then Option.bind (unenc encEqI [AV.sl (List.map eI (F.changes z).fst), AV.sl (List.map eI (F.changes
  z_2).fst)]) fun (z : List Int × List Int) => bif F.sameIL z.fst z.snd then Option.bind (unenc encAwk []) fun (z : Unit) => some ((vB true), []) else some ((vB false), [])
  else some ((vB false), []) else none else none else some ((vB false), []) else none else none := (runFR_val).symm.trans (by kernel_rfl)

def encLTm1 (l : List Cap) (t : Int) : List AV := [.sl (l.map eCap), vI t]

def encLTm (a : (List Cap) × Int) : List AV := encLTm1 a.1 a.2

theorem encLTm_inj (a a' : (List Cap) × Int) (h : encLTm a = encLTm a') : a = a' := by
  simp only [encLTm, encLTm1] at h
  try simp [strs_inj, ints_inj, bools_inj, eCaps_inj, eCap_iff, eL_eCaps_inj, eMchs_inj, eMch_iff, eWrds_inj, eWrd_iff, eFnds_inj, eFnd_iff, eRatios_inj, eRatio_iff, eWays_inj, eWay_iff] at h
  grind

theorem unLTm (l : List Cap) (t : Int) : unenc encLTm ([AV.sl (List.map eCap l), (vI t)]) = some (l, t) := unenc_of encLTm_inj (l, t) rfl

def resLTm1 (l : List Cap) (t : Int) : AV × Heap := (vB true, [])

def preLTm1 (l : List Cap) (t : Int) : Bool := F.smC l

noncomputable def oLTm : Orc := orc 5 false encLTm (fun a => preLTm1 a.1 a.2) fun a => resLTm1 a.1 a.2

theorem okLTm : OrcOK Tryd.prog noG oLTm := by
  refine mk_ok Tryd.f5 (keep := false) (by kernel_rfl) (by kernel_rfl) enLTm_ok mixed (no_loops (by kernel_rfl)) (by first | exact fun _ _ => ⟨rfl, rfl⟩ | (intro h; cases h)) ?_
  rintro ⟨l, t⟩ hpre hok
  show (runF enLTm false _ (encLTm1 _ _)).val = some (resLTm1 _ _)
  unfold encLTm1 resLTm1
  rw [evLTm]
  simp only [preLTm1] at hpre
  simp only [unAc, unRAct, unCg, unRCg, unEqI, unAwk, preAc1, preRAct1, preCg1, preRCg1, preEqI1, preAwk1, etaCap, etaMch, etaWrd, etaFnd, etaRatio, etaWay, Option.bind_some, List.length_map, unStrs, unInts, unBools, unCaps, uneL_eCaps, unMchs, unWrds, unFnds, unRatios, unWays, F.lt, F.le, cond_true, cond_false, Bool.and_true, Bool.true_and, hpre, F.sameIL_refl, bne_self_eq_false, beq_self_eq_true, bne, Bool.not_true, Bool.not_false]

end M
end Go.Proofs.YtdmccifaggmmkaaDoor
