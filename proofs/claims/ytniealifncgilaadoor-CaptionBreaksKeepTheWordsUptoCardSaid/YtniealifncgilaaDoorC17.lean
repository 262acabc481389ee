/- What is proved here: Slow of the reference; the law of Speed and Slow. -/
import Derived.Test.YtniealifncgilaaDoorC16
namespace Go.Proofs.YtniealifncgilaaDoor
open Go Go.RowKit
set_option linter.unusedVariables false
set_option linter.unusedSimpArgs false

theorem F.eqd_next {a l : List Cap} {k : Nat} (h : F.eqd a l k = true) : a[k + 1]? = l[k + 1]? := by
  have h : a.drop k = l.drop k := by simpa [F.eqd] using h
  rw [← List.getElem?_drop, h, List.getElem?_drop]

theorem F.sl_same {m : Ratio} {g : Int} {nx : Option Cap} {y : Cap} (h : F.need m y ≤ y.to - y.fr) : F.slC m g nx y = y ∧ F.lt (F.slTo m g nx y - y.fr) (F.need m y) = false := by
  have e : F.slTo m g nx y = y.to := by unfold F.slTo; omega
  refine ⟨by rw [F.slC, e], ?_⟩
  rw [e]
  exact decide_eq_false (by omega)

theorem F.set_at {l : List Cap} {k : Nat} {y : Cap} (h : l[k]? = some y) : l.set k y = l := by
  obtain ⟨h1, rfl⟩ := List.getElem?_eq_some_iff.1 h
  exact List.set_getElem_self h1

namespace M

def stRSl (n : Nat) (m : Ratio) (g : Int) (l : List Cap) (out : List Cap) (fast : List Int) (k : Nat) : St := ⟨[(40, vI k), (39, vI n), (38, .sl (l.map eCap)), (11, .own 11), (10, .own 38000), (4, .ptr 4 0 0), (2, vI g), (0, .sl (l.map eCap))], [(38000, ⟨false, 43, 6, out.map eCap⟩), (11, ⟨false, 3, 1, fast.map eI⟩), (4, ⟨true, 0, 0, [eRatio m]⟩)]⟩

def stRSl1 (a : Nat × Ratio × Int × (List Cap) × (List Cap) × (List Int) × Nat) : St := stRSl a.1 a.2.1 a.2.2.1 a.2.2.2.1 a.2.2.2.2.1 a.2.2.2.2.2.1 a.2.2.2.2.2.2

theorem stRSl_inj (a a' : Nat × Ratio × Int × (List Cap) × (List Cap) × (List Int) × Nat) (h : stRSl1 a = stRSl1 a') : a = a' := by
  simp only [stRSl1, stRSl] at h
  try simp [strs_inj, ints_inj, bools_inj, eCaps_inj, eCap_iff, eL_eCaps_inj, eMchs_inj, eMch_iff, eWrds_inj, eWrd_iff, eFnds_inj, eFnd_iff, eRatios_inj, eRatio_iff, eWays_inj, eWay_iff] at h
  grind

theorem unstRSl (n : Nat) (m : Ratio) (g : Int) (l : List Cap) (out : List Cap) (fast : List Int) (k : Nat) : unenc stRSl1 (St.mk [(40, (vI (↑k : Int))), (39, (vI (↑n : Int))), (38, AV.sl (List.map eCap l)), (11, .own 11), (10, .own 38000), (4, .ptr 4 0 0), (2, (vI g)), (0, AV.sl (List.map eCap
  l))] [(38000, Blk.mk false 43 6 (List.map eCap out)), (11, Blk.mk false 3 1 (List.map eI fast)), (4, Blk.mk true 0 0 [[(vI m.num), (vI m.den)]])]) = some (n, m, g, l, out, fast, k) := unenc_of stRSl_inj (n, m, g, l, out, fast, k) rfl

theorem unstRSl0 (n : Nat) (m : Ratio) (g : Int) (l : List Cap) (out : List Cap) : unenc stRSl1 (St.mk [(40, (vI (0 : Int))), (39, (vI (↑n : Int))), (38, AV.sl (List.map eCap l)), (11, .own 11), (10, .own 38000), (4, .ptr 4 0 0), (2, (vI g)), (0, AV.sl (List.map eCap
  l))] [(38000, Blk.mk false 43 6 (List.map eCap out)), (11, Blk.mk false 3 1 []), (4, Blk.mk true 0 0 [[(vI m.num), (vI m.den)]])]) = some (n, m, g, l, out, [], 0) := unenc_of stRSl_inj (n, m, g, l, out, [], 0) rfl

def outRSl (n : Nat) (m : Ratio) (g : Int) (l : List Cap) (out : List Cap) (fast : List Int) (k : Nat) : T (Ex × St) := .ret (.exit 0, ⟨[(11, .own 11), (10, .own 38000)], [(38000, ⟨false, 43, 6, (F.mapF (F.slC m g) k out).map eCap⟩), (11, ⟨false, 3, 1, (fast ++ F.slF m g (out.drop k) k).map eI⟩)]⟩)

noncomputable def prlRSl (n : Nat) (m : Ratio) (g : Int) (l : List Cap) (out : List Cap) (fast : List Int) (k : Nat) : Bool := decide (n ≤ 500) && decide (k ≤ n) && decide (out.length = n) && decide (fast.length ≤ k) && F.mxOK m && F.tm g && F.capsOK (out.drop k) && F.eqd out l k && decide (l.length = n)

noncomputable def lpRSl : Nat × (St → T (Ex × St)) := (9, lpo [40, 39, 38, 11, 10, 4, 2, 0] [38000, 11, 4] stRSl1 (fun a => prlRSl a.1 a.2.1 a.2.2.1 a.2.2.2.1 a.2.2.2.2.1 a.2.2.2.2.2.1 a.2.2.2.2.2.2) fun a => outRSl a.1 a.2.1 a.2.2.1 a.2.2.2.1 a.2.2.2.2.1 a.2.2.2.2.2.1 a.2.2.2.2.2.2)

noncomputable def enRSl : Env := envH ty noG lks [oRhC, oWithin, oIsTm, oClK, oRd] [] [] [lpRSl]

theorem enRSl_ok : EnvOK Tryd.prog enRSl := by
  refine envH_ok lks_ok ty_ok ?_ ?_
  · simp only [List.forall_mem_cons]
    exact ⟨okRhC, okWithin, okIsTm, okClK, okRd, by simp⟩
  · simp

theorem evRSlL (n : Nat) (m : Ratio) (g : Int) (l : List Cap) (out : List Cap) (fast : List Int) (k : Nat) : ((exec enRSl (loopN Tryd.f27 0) (stRSl n m g l out fast k)).bind (lessX ([40, 39, 38, 11, 10, 4, 2, 0], [38000, 11, 4]) ([11, 10], [38000, 11]) ([], []))).val =
  bif decide ((↑k : Int) < (↑n : Int)) then Option.bind (unenc (List.map eCap) (List.map eCap l)) fun (z : List Cap) => bif decide (k < List.length z) then Option.bind
  (unenc encRd [AV.agg [(vI (List.getD z k (Cap.mk (0 : Int) (0 : Int) [] (0 : Int) false false)).fr), (vI (List.getD z k (Cap.mk (0 : Int) (0 : Int) [] (0 : Int) false
  false)).to), AV.sl (List.map eStr (List.getD z k (Cap.mk (0 : Int) (0 : Int) [] (0 : Int) false false)).lines), (vI (List.getD z k (Cap.mk (0 : Int) (0 : Int) [] (0 : Int)
  false false)).row), (vB (List.getD z k (Cap.mk (0 : Int) (0 : Int) [] (0 : Int) false false)).bef), (vB (List.getD z k (Cap.mk (0 : Int) (0 : Int) [] (0 : Int) false
  false)).aft)]]) fun (z_1 : Cap) => bif F.smL z_1.lines then bif m.num == (0 : Int) then none else bif decide (IntKind.wrap IntKind.i64 (Int.tdiv (IntKind.wrap IntKind.i64
  (IntKind.wrap IntKind.i64 (IntKind.wrap IntKind.i64 (IntKind.wrap IntKind.i64 ((1000 : Int) * F.chF (0 : Int) z_1.lines) * m.den) + m.num) - (1 : Int))) m.num) ≤
  IntKind.wrap IntKind.i64 ((List.getD z k (Cap.mk (0 : Int) (0 : Int) [] (0 : Int) false false)).to - (List.getD z k (Cap.mk (0 : Int) (0 : Int) [] (0 : Int) false
  false)).fr)) then some (Ex.normal, St.mk [(40, (vI (IntKind.wrap IntKind.i64 ((↑k : Int) + (1 : Int))))), (39, (vI (↑n : Int))), (38, AV.sl (List.map eCap l)), (11, .own
  11), (10, .own 38000), (4, .ptr 4 0 0), (2, (vI g)), (0, AV.sl (List.map eCap l))] [(38000, Blk.mk false 43 6 (List.map eCap out)), (11, Blk.mk false 3 1 (List.map eI
  fast)), (4, Blk.mk true 0 0 [[(vI m.num), (vI m.den)]])]) else bif decide (IntKind.wrap IntKind.i64 ((↑k : Int) + (1 : Int)) < (↑(List.length (List.map eCap l)) : Int))
  then Option.bind (idx (IntKind.wrap IntKind.i64 ((↑k : Int) + (1 : Int)))) fun (z_2 : Nat) => Option.bind (unenc (List.map eCap) (List.map eCap l)) fun (z_3 : List Cap) =>
  bif decide (z_2 < List.length z_3) then bif decide (k < List.length (Blk.mk false 43 6 (List.map eCap out)).rows) then Option.bind (unenc (List.map eCap) (List.map eCap
  out)) fun (z_4 : List Cap) => bif decide (k < List.length z_4) then bif decide (k < List.length (Blk.mk false 43 6 (List.set (List.map eCap out) k [(vI (List.getD z_4 k
  (Cap.mk (0 : Int) (0 : Int) [] (0 : Int) false false)).fr), (vI (max (List.getD z k (Cap.mk (0 : Int) (0 : Int) [] (0 : Int) false false)).to (min (min (IntKind.wrap
  IntKind.i64 ((List.getD z k (Cap.mk (0 : Int) (0 : Int) [] (0 : Int) false false)).fr + IntKind.wrap IntKind.i64 (Int.tdiv (IntKind.wrap IntKind.i64 (IntKind.wrap
  IntKind.i64 (IntKind.wrap IntKind.i64 (IntKind.wrap IntKind.i64 ((1000 : Int) * F.chF (0 : Int) z_1.lines) * m.den) + m.num) - (1 : Int))) m.num))) (359999999 : Int))
  (IntKind.wrap IntKind.i64 ((List.getD z_3 z_2 (Cap.mk (0 : Int) (0 : Int) [] (0 : Int) false false)).fr - g))))), AV.sl (List.map eStr (List.getD z_4 k (Cap.mk (0 : Int)
  (0 : Int) [] (0 : Int) false false)).lines), (vI (List.getD z_4 k (Cap.mk (0 : Int) (0 : Int) [] (0 : Int) false false)).row), (vB (List.getD z_4 k (Cap.mk (0 : Int) (0 :
  Int) [] (0 : Int) false false)).bef), (vB (List.getD z_4 k (Cap.mk (0 : Int) (0 : Int) [] (0 : Int) false false)).aft)])).rows) then Option.bind (unenc (List.map eCap)
  (List.set (List.map eCap out) k [(vI (List.getD z_4 k (Cap.mk (0 : Int) (0 : Int) [] (0 : Int) false false)).fr), (vI (max (List.getD z k (Cap.mk (0 : Int) (0 : Int) [] (0
  : Int) false false)).to (min (min (IntKind.wrap IntKind.i64 ((List.getD z k (Cap.mk (0 : Int) (0 : Int) [] (0 : Int) false false)).fr + IntKind.wrap IntKind.i64 (Int.tdiv
  (IntKind.wrap IntKind.i64 (IntKind.wrap IntKind.i64 (IntKind.wrap IntKind.i64 (IntKind.wrap IntKind.i64 ((1000 : Int) * F.chF (0 : Int) z_1.lines) * m.den) + m.num) - (1 :
  Int))) m.num))) (359999999 : Int)) (IntKind.wrap IntKind.i64 ((List.getD z_3 z_2 (Cap.mk (0 : Int) (0 : Int) [] (0 : Int) false false)).fr - g))))), AV.sl (List.map eStr
  (List.getD z_4 k (Cap.mk (0 : Int) (0 : Int) [] (0 : Int) false false)).lines), (vI (List.getD z_4 k (Cap.mk (0 : Int) (0 : Int) [] (0 : Int) false false)).row), (vB
  (List.getD z_4 k (Cap.mk (0 : Int) (0 : Int) [] (0 : Int) false false)).bef), (vB (List.getD z_4 k (Cap.mk (0 : Int) (0 : Int) [] (0 : Int) false false)).aft)])) fun (z_5
  : List Cap) => bif decide (k < List.length z_5) then bif decide (IntKind.wrap IntKind.i64 ((List.getD z_5 k (Cap.mk (0 : Int) (0 : Int) [] (0 : Int) false false)).to -
  (List.getD z k (Cap.mk (0 : Int) (0 : Int) [] (0 : Int) false false)).fr) < IntKind.wrap IntKind.i64 (Int.tdiv (IntKind.wrap IntKind.i64 (IntKind.wrap IntKind.i64
  (IntKind.wrap IntKind.i64 (IntKind.wrap IntKind.i64 ((1000 : Int) * F.chF (0 : Int) z_1.lines) * m.den) + m.num) - (1 : Int))) m.num)) then bif Nat.ble ((List.length
  (List.map eI fast) + (1 : Nat)) * (8 : Nat)) (140737488355328 : Nat) && true then some (Ex.normal, St.mk [(40, (vI (IntKind.wrap IntKind.i64 ((↑k : Int) + (1 : Int))))),
  (39, (vI (↑n : Int))), (38, AV.sl (List.map eCap l)), (11, .own 11), (10, .own 38000), (4, .ptr 4 0 0), (2, (vI g)), (0, AV.sl (List.map eCap l))] [(38000, Blk.mk false 43
  6 (List.set (List.map eCap out) k [(vI (List.getD z_4 k (Cap.mk (0 : Int) (0 : Int) [] (0 : Int) false false)).fr), (vI (max (List.getD z k (Cap.mk (0 : Int) (0 : Int) []
  (0 : Int) false false)).to (min (min (IntKind.wrap IntKind.i64 ((List.getD z k (Cap.mk (0 : Int) (0 : Int) [] (0 : Int) false false)).fr + IntKind.wrap IntKind.i64
  (Int.tdiv (IntKind.wrap IntKind.i64 (IntKind.wrap IntKind.i64 (IntKind.wrap IntKind.i64 (IntKind.wrap IntKind.i64 ((1000 : Int) * F.chF (0 : Int) z_1.lines) * m.den) +
  m.num) - (1 : Int))) m.num))) (359999999 : Int)) (IntKind.wrap IntKind.i64 ((List.getD z_3 z_2 (Cap.mk (0 : Int) (0 : Int) [] (0 : Int) false false)).fr - g))))), AV.sl
  (List.map eStr (List.getD z_4 k (Cap.mk (0 : Int) (0 : Int) [] (0 : Int) false false)).lines), (vI (List.getD z_4 k (Cap.mk (0 : Int) (0 : Int) [] (0 : Int) false
  false)).row), (vB (List.getD z_4 k (Cap.mk (0 : Int) (0 : Int) [] (0 : Int) false false)).bef), (vB (List.getD z_4 k (Cap.mk (0 : Int) (0 : Int) [] (0 : Int) false
  false)).aft)])), (11, Blk.mk false 3 1 (List.map eI fast ++ [[(vI (↑k : Int))]])), (4, Blk.mk true 0 0 [[(vI m.num), (vI m.den)]])]) else none else some (Ex.normal, St.mk
  [(40, (vI (IntKind.wrap IntKind.i64 ((↑k : Int) + (1 : Int))))), (39, (vI (↑n : Int))), (38, AV.sl (List.map eCap l)), (11, .own 11), (10, .own 38000), (4, .ptr 4 0 0),
  (2, (vI g)), (0, AV.sl (List.map eCap l))] [(38000, Blk.mk false 43 6 (List.set (List.map eCap out) k [(vI (List.getD z_4 k (Cap.mk (0 : Int) (0 : Int) [] (0 : Int) false
  false)).fr), (vI (max (List.getD z k (Cap.mk (0 : Int) (0 : Int) [] (0 : Int) false false)).to (min (min (IntKind.wrap IntKind.i64 ((List.getD z k (Cap.mk (0 : Int) (0 :
  Int) [] (0 : Int) false false)).fr + IntKind.wrap IntKind.i64 (Int.tdiv (IntKind.wrap IntKind.i64 (IntKind.wrap IntKind.i64 (IntKind.wrap IntKind.i64 (IntKind.wrap
  IntKind.i64 ((1000 : Int) * F.chF (0 : Int) z_1.lines) * m.den) + m.num) - (1 : Int))) m.num))) (359999999 : Int)) (IntKind.wrap IntKind.i64 ((List.getD z_3 z_2 (Cap.mk (0
  : Int) (0 : Int) [] (0 : Int) false false)).fr - g))))), AV.sl (List.map eStr (List.getD z_4 k (Cap.mk (0 : Int) (0 : Int) [] (0 : Int) false false)).lines), (vI
  (List.getD z_4 k (Cap.mk (0 : Int) (0 : Int) [] (0 : Int) false false)).row), (vB (List.getD z_4 k (Cap.mk (0 : Int) (0 : Int) [] (0 : Int) false false)).bef), (vB
  (List.getD z_4 k (Cap.mk (0 : Int) (0 : Int) [] (0 : Int) false false)).aft)])), (11, Blk.mk false 3 1 (List.map eI fast)), (4, Blk.mk true 0 0 [[(vI m.num), (vI
  m.den)]])]) else none else none else none else none else none else bif decide (k < List.length (Blk.mk false 43 6 (List.map eCap out)).rows) then Option.bind (unenc
  (List.map eCap) (List.map eCap out)) fun (z_2 : List Cap) => bif decide (k < List.length z_2) then bif decide (k < List.length (Blk.mk false 43 6 (List.set (List.map eCap
  out) k [(vI (List.getD z_2 k (Cap.mk (0 : Int) (0 : Int) [] (0 : Int) false false)).fr), (vI (max (List.getD z k (Cap.mk (0 : Int) (0 : Int) [] (0 : Int) false false)).to
  (min (IntKind.wrap IntKind.i64 ((List.getD z k (Cap.mk (0 : Int) (0 : Int) [] (0 : Int) false false)).fr + IntKind.wrap IntKind.i64 (Int.tdiv (IntKind.wrap IntKind.i64
  (IntKind.wrap IntKind.i64 (IntKind.wrap IntKind.i64 (IntKind.wrap IntKind.i64 ((1000 : Int) * F.chF (0 : Int) z_1.lines) * m.den) + m.num) - (1 : Int))) m.num)))
  (359999999 : Int)))), AV.sl (List.map eStr (List.getD z_2 k (Cap.mk (0 : Int) (0 : Int) [] (0 : Int) false false)).lines), (vI (List.getD z_2 k (Cap.mk (0 : Int) (0 : Int)
  [] (0 : Int) false false)).row), (vB (List.getD z_2 k (Cap.mk (0 : Int) (0 : Int) [] (0 : Int) false false)).bef), (vB (List.getD z_2 k (Cap.mk (0 : Int) (0 : Int) [] (0 :
  Int) false false)).aft)])).rows) then Option.bind (unenc (List.map eCap) (List.set (List.map eCap out) k [(vI (List.getD z_2 k (Cap.mk (0 : Int) (0 : Int) [] (0 : Int)
  false false)).fr), (vI (max (List.getD z k (Cap.mk (0 : Int) (0 : Int) [] (0 : Int) false false)).to (min (IntKind.wrap IntKind.i64 ((List.getD z k (Cap.mk (0 : Int) (0 :
  Int) [] (0 : Int) false false)).fr + IntKind.wrap IntKind.i64 (Int.tdiv (IntKind.wrap IntKind.i64 (IntKind.wrap IntKind.i64 (IntKind.wrap IntKind.i64 (IntKind.wrap
  IntKind.i64 ((1000 : Int) * F.chF (0 : Int) z_1.lines) * m.den) + m.num) - (1 : Int))) m.num))) (359999999 : Int)))), AV.sl (List.map eStr (List.getD z_2 k (Cap.mk (0 :
  Int) (0 : Int) [] (0 : Int) false false)).lines), (vI (List.getD z_2 k (Cap.mk (0 : Int) (0 : Int) [] (0 : Int) false false)).row), (vB (List.getD z_2 k (Cap.mk (0 : Int)
  (0 : Int) [] (0 : Int) false false)).bef), (vB (List.getD z_2 k (Cap.mk (0 : Int) (0 : Int) [] (0 : Int) false false)).aft)])) fun (z_3 : List Cap) => bif decide (k <
  List.length z_3) then bif decide (IntKind.wrap IntKind.i64 ((List.getD z_3 k (Cap.mk (0 : Int) (0 : Int) [] (0 : Int) false false)).to - (List.getD z k (Cap.mk (0 : Int)
  (0 : Int) [] (0 : Int) false false)).fr) < IntKind.wrap IntKind.i64 (Int.tdiv (IntKind.wrap IntKind.i64 (IntKind.wrap IntKind.i64 (IntKind.wrap IntKind.i64 (IntKind.wrap
  IntKind.i64 ((1000 : Int) * F.chF (0 : Int) z_1.lines) * m.den) + m.num) - (1 : Int))) m.num)) then bif Nat.ble ((List.length (List.map eI fast) + (1 : Nat)) * (8 : Nat))
  (140737488355328 : Nat) && true then some (Ex.normal, St.mk [(40, (vI (IntKind.wrap IntKind.i64 ((↑k : Int) + (1 : Int))))), (39, (vI (↑n : Int))), (38, AV.sl (List.map
  eCap l)), (11, .own 11), (10, .own 38000), (4, .ptr 4 0 0), (2, (vI g)), (0, AV.sl (List.map eCap l))] [(38000, Blk.mk false 43 6 (List.set (List.map eCap out) k [(vI
  (List.getD z_2 k (Cap.mk (0 : Int) (0 : Int) [] (0 : Int) false false)).fr), (vI (max (List.getD z k (Cap.mk (0 : Int) (0 : Int) [] (0 : Int) false false)).to (min
  (IntKind.wrap IntKind.i64 ((List.getD z k (Cap.mk (0 : Int) (0 : Int) [] (0 : Int) false false)).fr + IntKind.wrap IntKind.i64 (Int.tdiv (IntKind.wrap IntKind.i64
  (IntKind.wrap IntKind.i64 (IntKind.wrap IntKind.i64 (IntKind.wrap IntKind.i64 ((1000 : Int) * F.chF (0 : Int) z_1.lines) * m.den) + m.num) - (1 : Int))) m.num)))
  (359999999 : Int)))), AV.sl (List.map eStr (List.getD z_2 k (Cap.mk (0 : Int) (0 : Int) [] (0 : Int) false false)).lines), (vI (List.getD z_2 k (Cap.mk (0 : Int) (0 : Int)
  [] (0 : Int) false false)).row), (vB (List.getD z_2 k (Cap.mk (0 : Int) (0 : Int) [] (0 : Int) false false)).bef), (vB (List.getD z_2 k (Cap.mk (0 : Int) (0 : Int) [] (0 :
  Int) false false)).aft)])), (11, Blk.mk false 3 1 (List.map eI fast ++ [[(vI (↑k : Int))]])), (4, Blk.mk true 0 0 [[(vI m.num), (vI m.den)]])]) else none else some
  (Ex.normal, St.mk [(40, (vI (IntKind.wrap IntKind.i64 ((↑k : Int) + (1 : Int))))), (39, (vI (↑n : Int))), (38, AV.sl (List.map eCap l)), (11, .own 11), (10, .own 38000),
  (4, .ptr 4 0 0), (2, (vI g)), (0, AV.sl (List.map eCap l))] [(38000, Blk.mk false 43 6 (List.set (List.map eCap out) k [(vI (List.getD z_2 k (Cap.mk (0 : Int) (0 : Int) []
  (0 : Int) false false)).fr), (vI (max (List.getD z k (Cap.mk (0 : Int) (0 : Int) [] (0 : Int) false false)).to (min (IntKind.wrap IntKind.i64 ((List.getD z k (Cap.mk (0 :
  Int) (0 : Int) [] (0 : Int) false false)).fr + IntKind.wrap IntKind.i64 (Int.tdiv (IntKind.wrap IntKind.i64 (IntKind.wrap IntKind.i64 (IntKind.wrap IntKind.i64
  (IntKind.wrap IntKind.i64 ((1000 : Int) * F.chF (0 : Int) z_1.lines) * m.den) + m.num) - (1 : Int))) m.num))) (359999999 : Int)))), AV.sl (List.map eStr (List.getD z_2 k
  (Cap.mk (0 : Int) (0 : Int) [] (0 : Int) false false)).lines), (vI (List.getD z_2 k (Cap.mk (0 : Int) (0 : Int) [] (0 : Int) false false)).row), (vB (List.getD z_2 k
  (Cap.mk (0 : Int) (0 : Int) [] (0 : Int) false false)).bef), (vB (List.getD z_2 k (Cap.mk (0 : Int) (0 : Int) [] (0 : Int) false false)).aft)])), (11, Blk.mk false 3 1
  (List.map eI fast)), (4, Blk.mk true 0 0 [[(vI m.num), (vI m.den)]])]) else none else none else none else none else none else none else some (Ex.exit (0 : Nat), St.mk
  [(11, .own 11), (10, .own 38000)] [(38000, Blk.mk false 43 6 (List.map eCap out)), (11, Blk.mk false 3 1 (List.map eI fast))]) := by kernel_rfl

theorem lpRSl_ok (n : Nat) (m : Ratio) (g : Int) (l : List Cap) (out : List Cap) (fast : List Int) (k : Nat) (hp : prlRSl n m g l out fast k = true) : ∀ ex s', (outRSl n m g l out fast k).val = some (ex, s') → LoopOK enRSl (loopN Tryd.f27 0) (stRSl n m g l out fast k) ex s' := by
  simp only [prlRSl, Bool.and_eq_true, decide_eq_true_eq] at hp
  obtain ⟨⟨⟨⟨⟨⟨⟨⟨h1, h2⟩, h3⟩, h4⟩, h5⟩, h6⟩, h7⟩, h8⟩, h9⟩ := hp
  refine loop_gen (st := fun a : List Cap × List Int × Nat => stRSl n m g l a.1 a.2.1 a.2.2) (out := fun a => outRSl n m g l a.1 a.2.1 a.2.2) (I := fun a => a.2.2 ≤ n ∧ a.1.length = n ∧ a.2.1.length ≤ a.2.2 ∧ F.capsOK (a.1.drop a.2.2) = true ∧ F.eqd a.1 l a.2.2 = true) (n := ([40, 39, 38, 11, 10, 4, 2, 0], [38000, 11, 4])) (e := ([11, 10], [38000, 11])) (r := ([], [])) (fun a => n - a.2.2) ?_ (out, fast, k) ⟨h2, h3, h4, h7, h8⟩
  rintro ⟨out, fast, k⟩ ⟨h2, h3, h4, h7, h8⟩
  simp only at h2 h3 h4 h7 h8
  by_cases hkn : k < n
  · have hy : out[k]? = some out[k] := List.getElem?_eq_getElem (by omega)
    generalize out[k] = y at hy
    have hlt := lt_at hy
    obtain ⟨g1, g2⟩ := F.eqd_at h8 hy
    have g3 := F.eqd_next h8
    have hll := lt_at g1
    obtain ⟨q1, q2, q3⟩ := F.capsOK_at h7 hy
    obtain ⟨b1, b2, b3, b4⟩ := F.need_bd h5 q1
    obtain ⟨⟨⟨m1, m2⟩, m3⟩, m4⟩ := F.mxOK_iff.1 h5
    obtain ⟨c1, c2⟩ := F.ch_ok q1
    obtain ⟨f1, f2, f3, _⟩ := F.capOK_iff q1
    have hg := F.tm_iff.1 h6
    right
    refine ⟨(out.set k (F.slC m g out[k + 1]? y), fast ++ (bif F.lt (F.slTo m g out[k + 1]? y - y.fr) (F.need m y) then [(k : Int)] else []), k + 1), ?_, rfl, ⟨hkn, by simp only [List.length_set]; exact h3, ?_, by simp only; rw [List.drop_set_of_lt (Nat.lt_succ_self _)]; exact q3, g2 _⟩, by simp only; omega, ?_⟩
    · have hz : (m.num == 0) = false := by simp; omega
      have w1 : IntKind.i64.wrap (1000 * (F.chN y.lines : Int)) = 1000 * (F.chN y.lines : Int) := wrap_id (by omega) (by omega)
      have w2 : IntKind.i64.wrap (1000 * (F.chN y.lines : Int) * m.den) = 1000 * (F.chN y.lines : Int) * m.den := wrap_id (by omega) (by omega)
      have w3 : IntKind.i64.wrap (1000 * (F.chN y.lines : Int) * m.den + m.num) = 1000 * (F.chN y.lines : Int) * m.den + m.num := wrap_id (by omega) (by omega)
      have w4 : IntKind.i64.wrap (1000 * (F.chN y.lines : Int) * m.den + m.num - 1) = 1000 * (F.chN y.lines : Int) * m.den + m.num - 1 := wrap_id (by omega) (by omega)
      have w5 : (1000 * (F.chN y.lines : Int) * m.den + m.num - 1).tdiv m.num = F.need m y := Int.tdiv_eq_ediv_of_nonneg (by omega)
      have w6 : IntKind.i64.wrap (F.need m y) = F.need m y := wrap_id (by omega) (by omega)
      have w7 : IntKind.i64.wrap (y.fr + F.need m y) = y.fr + F.need m y := wrap_id (by omega) (by omega)
      have hN := next_at hkn (by omega : n ≤ 9223372036854775807)
      have hble : Nat.ble ((fast.length + 1) * 8) 140737488355328 = true := ble_t (by omega)
      have w0 : IntKind.i64.wrap (y.to - y.fr) = y.to - y.fr := wrap_id (by omega) (by omega)
      rw [evRSlL]
      by_cases hn : k + 1 < n
      · have hd : out[k + 1]? = some out[k + 1] := List.getElem?_eq_getElem (by omega)
        generalize out[k + 1] = d at hd
        obtain ⟨d1, d2, d3⟩ := F.capsOK_at q3 hd
        obtain ⟨d4, _⟩ := F.capOK_iff d1
        have g4 : l[k + 1]? = some d := by rw [← g3]; exact hd
        have hld := lt_at g4
        have w8 : IntKind.i64.wrap (d.fr - g) = d.fr - g := wrap_id (by omega) (by omega)
        have hto : max y.to (min (min (y.fr + F.need m y) 359999999) (d.fr - g)) = F.slTo m g (some d) y := by rw [Int.min_assoc]; rfl
        have w9 : IntKind.i64.wrap (F.slTo m g (some d) y - y.fr) = F.slTo m g (some d) y - y.fr := wrap_id (by unfold F.slTo; omega) (by unfold F.slTo F.room; omega)
        have e1 : decide (((k + 1 : Nat) : Int) < (l.length : Int)) = true := decide_eq_true (by omega)
        simp only [unRhC, unWithin, unIsTm, unClK, unRd, unRdw, preRhC1, preWithin1, preIsTm1, preClK1, preRd1, unstRSl, unstRSl0, prlRSl, outRSl, etaCap, etaMch, etaWrd, etaFnd, etaRatio, etaWay, Option.bind_some, List.length_map, unStrs, unInts, unBools, unCaps, uneL_eCaps, unMchs, unWrds, unFnds, unRatios, unWays, F.lt, F.le, cond_true, cond_false, Bool.and_true, Bool.true_and, cast_lt hkn, decide_eq_true hlt, hN, getD_at hy, getD_at g1, decide_eq_true hll, w0, c1, w1, w2, w3, w4, w5, w6, w7, hz, q2, e1, idx_nat, decide_eq_true hld, getD_at g4, w8, hto, setWCaps, List.length_set, getD_set hlt, w9, hble, hd]
        by_cases hq : F.need m y ≤ y.to - y.fr
        · obtain ⟨r1, r2⟩ := F.sl_same (g := g) (nx := (some d)) hq
          have r3 : decide (F.slTo m g (some d) y - y.fr < F.need m y) = false := r2
          rw [decide_eq_true hq, r1, r3]
          simp only [cond_true, cond_false, List.append_nil]
          rw [F.set_at hy]
          rfl
        rw [decide_eq_false hq, cond_false]
        cases decide (F.slTo m g (some d) y - y.fr < F.need m y)
        · simp only [cond_false, List.append_nil]; rfl
        · simp only [cond_true, stRSl, List.map_append, List.map_cons, List.map_nil]; rfl
      · have hd : out[k + 1]? = none := List.getElem?_eq_none (by omega)
        have hto : max y.to (min (y.fr + F.need m y) 359999999) = F.slTo m g none y := rfl
        have w9 : IntKind.i64.wrap (F.slTo m g none y - y.fr) = F.slTo m g none y - y.fr := wrap_id (by unfold F.slTo F.room; omega) (by unfold F.slTo F.room; omega)
        have e1 : decide (((k + 1 : Nat) : Int) < (l.length : Int)) = false := decide_eq_false (by omega)
        simp only [unRhC, unWithin, unIsTm, unClK, unRd, unRdw, preRhC1, preWithin1, preIsTm1, preClK1, preRd1, unstRSl, unstRSl0, prlRSl, outRSl, etaCap, etaMch, etaWrd, etaFnd, etaRatio, etaWay, Option.bind_some, List.length_map, unStrs, unInts, unBools, unCaps, uneL_eCaps, unMchs, unWrds, unFnds, unRatios, unWays, F.lt, F.le, cond_true, cond_false, Bool.and_true, Bool.true_and, cast_lt hkn, decide_eq_true hlt, hN, getD_at hy, getD_at g1, decide_eq_true hll, w0, c1, w1, w2, w3, w4, w5, w6, w7, hz, q2, e1, idx_nat, hto, setWCaps, List.length_set, getD_set hlt, w9, hble, hd]
        by_cases hq : F.need m y ≤ y.to - y.fr
        · obtain ⟨r1, r2⟩ := F.sl_same (g := g) (nx := none) hq
          have r3 : decide (F.slTo m g none y - y.fr < F.need m y) = false := r2
          rw [decide_eq_true hq, r1, r3]
          simp only [cond_true, cond_false, List.append_nil]
          rw [F.set_at hy]
          rfl
        rw [decide_eq_false hq, cond_false]
        cases decide (F.slTo m g none y - y.fr < F.need m y)
        · simp only [cond_false, List.append_nil]; rfl
        · simp only [cond_true, stRSl, List.map_append, List.map_cons, List.map_nil]; rfl
    · simp only [List.length_append]
      cases F.lt (F.slTo m g out[k + 1]? y - y.fr) (F.need m y) <;> simp <;> omega
    · have e3 : out.drop k = y :: out.drop (k + 1) := by
        rw [List.drop_eq_getElem_cons hlt]
        congr 1
        exact (List.getElem?_eq_some_iff.1 hy).2
      have e2 : (out.set k (F.slC m g out[k + 1]? y)).drop (k + 1) = out.drop (k + 1) := List.drop_set_of_lt (Nat.lt_succ_self _)
      simp only [outRSl, F.mapF_step hy, e2, e3, F.slF_cons, List.head?_drop, List.append_assoc]
  · have : k = n := by omega
    subst this
    left
    refine ⟨(.exit 0, ⟨[(11, .own 11), (10, .own 38000)], [(38000, ⟨false, 43, 6, out.map eCap⟩), (11, ⟨false, 3, 1, fast.map eI⟩)]⟩), ?_, ?_, by simp, rfl⟩
    · rw [evRSlL]; simp
    · simp only [outRSl]
      subst h3
      rw [F.mapF_end, List.drop_length]
      simp only [F.slF, List.append_nil]
      rfl

theorem evRSl (l : List Cap) (m : Ratio) (g : Int) : (runF enRSl false Tryd.f27 [.sl (l.map eCap), .agg (eRatio m), vI g]).val =
  Option.bind (unenc encRhC [AV.sl (List.map eCap l)]) fun (z : List Cap) => bif F.smC z then bif F.chkC z != (0 : Int) then some (AV.tup [AV.sl [], AV.sl [], (vI (F.chkC
  z))], []) else Option.bind (unenc encWithin [(vI m.num), (vI (1 : Int)), (vI (1000000 : Int))]) fun (z : Int × Int × Int) => bif !!F.within z.fst z.snd.fst z.snd.snd then
  Option.bind (unenc encWithin [(vI m.den), (vI (1 : Int)), (vI (1000000 : Int))]) fun (z_1 : Int × Int × Int) => bif !bif !F.within z.fst z.snd.fst z.snd.snd then true else
  !F.within z_1.fst z_1.snd.fst z_1.snd.snd then Option.bind (unenc encIsTm [(vI g)]) fun (z_2 : Int) => bif bif bif !F.within z.fst z.snd.fst z.snd.snd then true else
  !F.within z_1.fst z_1.snd.fst z_1.snd.snd then true else !!F.noTime z_2 then some (AV.tup [AV.sl [], AV.sl [], (vI (1 : Int))], []) else Option.bind (unenc encClK [AV.sl
  (List.map eCap l)]) fun (z : List Cap) => bif decide (List.length z ≤ (500 : Nat)) then Option.bind (unenc stRSl1 (St.mk [(40, (vI (0 : Int))), (39, (vI (↑(List.length
  (List.map eCap l)) : Int))), (38, AV.sl (List.map eCap l)), (11, .own 11), (10, .own 38000), (4, .ptr 4 0 0), (2, (vI g)), (0, AV.sl (List.map eCap l))] [(38000, Blk.mk
  false 43 6 (List.map eCap z)), (11, Blk.mk false 3 1 []), (4, Blk.mk true 0 0 [[(vI m.num), (vI m.den)]])])) fun (z : Nat × Ratio × Int × List Cap × List Cap × List Int ×
  Nat) => bif decide (z.fst ≤ (500 : Nat)) && decide (z.snd.snd.snd.snd.snd.snd ≤ z.fst) && decide (List.length z.snd.snd.snd.snd.fst = z.fst) && decide (List.length
  z.snd.snd.snd.snd.snd.fst ≤ z.snd.snd.snd.snd.snd.snd) && F.mxOK z.snd.fst && F.tm z.snd.snd.fst && F.capsOK (List.drop z.snd.snd.snd.snd.snd.snd z.snd.snd.snd.snd.fst) &&
  F.eqd z.snd.snd.snd.snd.fst z.snd.snd.snd.fst z.snd.snd.snd.snd.snd.snd && decide (List.length z.snd.snd.snd.fst = z.fst) && true then some (AV.tup [AV.sl (List.map eCap
  (F.mapF (F.slC z.snd.fst z.snd.snd.fst) z.snd.snd.snd.snd.snd.snd z.snd.snd.snd.snd.fst)), AV.sl (List.map eI (z.snd.snd.snd.snd.snd.fst ++ F.slF z.snd.fst z.snd.snd.fst
  (List.drop z.snd.snd.snd.snd.snd.snd z.snd.snd.snd.snd.fst) z.snd.snd.snd.snd.snd.snd)), (vI (0 : Int))], []) else none else none else bif !bif !F.within z.fst z.snd.fst
  z.snd.snd then true else !F.within z_1.fst z_1.snd.fst z_1.snd.snd then none else some (AV.tup [AV.sl [], AV.sl [], (vI (1 : Int))], []) else bif !!F.within z.fst
  z.snd.fst z.snd.snd then none else some (AV.tup [AV.sl [], AV.sl [], (vI (1 : Int))], []) else none := by kernel_rfl

def encRSl1 (l : List Cap) (m : Ratio) (g : Int) : List AV := [.sl (l.map eCap), .agg (eRatio m), vI g]

def encRSl (a : (List Cap) × Ratio × Int) : List AV := encRSl1 a.1 a.2.1 a.2.2

theorem encRSl_inj (a a' : (List Cap) × Ratio × Int) (h : encRSl a = encRSl a') : a = a' := by
  simp only [encRSl, encRSl1] at h
  try simp [strs_inj, ints_inj, bools_inj, eCaps_inj, eCap_iff, eL_eCaps_inj, eMchs_inj, eMch_iff, eWrds_inj, eWrd_iff, eFnds_inj, eFnd_iff, eRatios_inj, eRatio_iff, eWays_inj, eWay_iff] at h
  grind

theorem unRSl (l : List Cap) (m : Ratio) (g : Int) : unenc encRSl ([AV.sl (List.map eCap l), AV.agg [(vI m.num), (vI m.den)], (vI g)]) = some (l, m, g) := unenc_of encRSl_inj (l, m, g) rfl

theorem unRSlw (l : List Cap) (m_num : Int) (m_den : Int) (g : Int) : unenc encRSl ([AV.sl (List.map eCap l), AV.agg [(vI m_num), (vI m_den)], (vI g)]) = some (l, (Ratio.mk m_num m_den), g) := unenc_of encRSl_inj (l, (Ratio.mk m_num m_den), g) rfl

def resRSl1 (l : List Cap) (m : Ratio) (g : Int) : AV × Heap := (.tup [.sl ((F.slow l m g).1.map eCap), .sl ((F.slow l m g).2.1.map eI), vI (F.slow l m g).2.2], [])

def preRSl1 (l : List Cap) (m : Ratio) (g : Int) : Bool := F.smC l

noncomputable def oRSl : Orc := orc 27 false encRSl (fun a => preRSl1 a.1 a.2.1 a.2.2) fun a => resRSl1 a.1 a.2.1 a.2.2

theorem okRSl : OrcOK Tryd.prog noG oRSl := by
  refine mk_ok Tryd.f27 (keep := false) (by kernel_rfl) (by kernel_rfl) enRSl_ok mixed (one_loop (x0 := loopN Tryd.f27 0) (by kernel_rfl) (lpo_ok ?_)) (by first | exact fun _ _ => ⟨rfl, rfl⟩ | (intro h; cases h)) ?_
  · rintro ⟨n, m, g, l, out, fast, k⟩ hp
    exact lpRSl_ok n m g l out fast k hp
  rintro ⟨l, m, g⟩ hpre hok
  show (runF enRSl false _ (encRSl1 _ _ _)).val = some (resRSl1 _ _ _)
  unfold encRSl1 resRSl1
  rw [evRSl]
  simp only [preRSl1] at hpre
  simp only [unRhC, unWithin, unIsTm, unClK, unRd, unRdw, preRhC1, preWithin1, preIsTm1, preClK1, preRd1, unstRSl, unstRSl0, prlRSl, outRSl, etaCap, etaMch, etaWrd, etaFnd, etaRatio, etaWay, Option.bind_some, List.length_map, unStrs, unInts, unBools, unCaps, uneL_eCaps, unMchs, unWrds, unFnds, unRatios, unWays, F.lt, F.le, cond_true, cond_false, Bool.and_true, Bool.true_and, hpre, F.slow, F.mxB, F.within_out, Bool.not_not]
  by_cases h0 : F.chkC l = 0
  case neg =>
    rw [bne1 h0]; rfl
  rw [bne0 h0]
  have c1 := F.chk_sm h0
  have c2 := F.chk_len h0
  have c3 := F.chk_caps h0 hpre
  simp only [cond_false]
  cases h1 : F.out m.num 1 1000000
  case true => rfl
  cases h2 : F.out m.den 1 1000000
  case true => rfl
  cases h3 : F.noTime g
  case true => rfl
  have c6 : F.eqd l l 0 = true := F.eqd_self l
  have c4 : F.tm g = true := by unfold F.tm; rw [h3]; rfl
  have c5 : F.mxOK m = true := F.mxOK_of h1 h2
  simp only [Bool.not_false, cond_true, cond_false, c1, c3, c4, c5, decide_eq_true c2, Nat.zero_le, decide_true, Bool.and_true, Bool.and_self, List.drop_zero, List.length_nil, List.nil_append, F.mapF_zero, Bool.or_false, Bool.or_self, c6]

end M
end Go.Proofs.YtniealifncgilaaDoor
