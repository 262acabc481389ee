/- What is proved here: Slow of both (no statement of the seat). -/
import Derived.Test.YtniealifncgilaaDoorC14
namespace Go.Proofs.YtniealifncgilaaDoor
open Go Go.RowKit
set_option linter.unusedVariables false
set_option linter.unusedSimpArgs false

/-- The least time that is not too fast. -/
def F.need (m : Ratio) (c : Cap) : Int := (1000 * (F.chN c.lines : Int) * m.den + m.num - 1) / m.num

def F.room (g : Int) : Option Cap → Int
  | none => 359999999
  | some d => min 359999999 (d.fr - g)

def F.slTo (m : Ratio) (g : Int) (nx : Option Cap) (c : Cap) : Int := max c.to (min (c.fr + F.need m c) (F.room g nx))

def F.slC (m : Ratio) (g : Int) (nx : Option Cap) (c : Cap) : Cap := ⟨c.fr, F.slTo m g nx c, c.lines, c.row, c.bef, c.aft⟩

def F.slF (m : Ratio) (g : Int) : List Cap → Nat → List Int
  | [], _ => []
  | c :: l, k => bif F.lt (F.slTo m g l.head? c - c.fr) (F.need m c) then (k : Int) :: F.slF m g l (k + 1) else F.slF m g l (k + 1)

theorem F.slF_cons (m : Ratio) (g : Int) (c : Cap) (l : List Cap) (k : Nat) : F.slF m g (c :: l) k = (bif F.lt (F.slTo m g l.head? c - c.fr) (F.need m c) then [(k : Int)] else []) ++ F.slF m g l (k + 1) := by
  rw [F.slF]
  cases F.lt (F.slTo m g l.head? c - c.fr) (F.need m c) <;> rfl

def F.mxOK (m : Ratio) : Bool := F.le 1 m.num && F.le m.num 1000000 && F.le 1 m.den && F.le m.den 1000000

theorem F.mxOK_iff {m : Ratio} : F.mxOK m = true ↔ ((1 ≤ m.num ∧ m.num ≤ 1000000) ∧ 1 ≤ m.den) ∧ m.den ≤ 1000000 := by simp [F.mxOK, F.le]

def F.mxB (m : Ratio) (g : Int) : Bool := F.out m.num 1 1000000 || F.out m.den 1 1000000 || F.noTime g

def F.slow (l : List Cap) (m : Ratio) (g : Int) : List Cap × List Int × Int :=
  bif F.chkC l != 0 then ([], [], F.chkC l) else bif F.mxB m g then ([], [], 1) else (F.mapN (F.slC m g) l, F.slF m g l 0, 0)

def F.capsOK (l : List Cap) : Bool := l.all fun c => F.capOK c && F.smL c.lines

theorem F.need_bd {m : Ratio} (h : F.mxOK m = true) {c : Cap} (hc : F.capOK c = true) :
    0 ≤ 1000 * (F.chN c.lines : Int) * m.den ∧ 1000 * (F.chN c.lines : Int) * m.den ≤ 3000000000000 ∧ 0 ≤ F.need m c ∧ F.need m c ≤ 3000001000000 := by
  obtain ⟨⟨⟨h1, h2⟩, h3⟩, h4⟩ := F.mxOK_iff.1 h
  have hn := (F.ch_ok hc).2
  have a1 : (F.chN c.lines : Int) * m.den ≤ 3000 * m.den := Int.mul_le_mul_of_nonneg_right (by omega) (by omega)
  have a2 : 0 ≤ (F.chN c.lines : Int) * m.den := Int.mul_nonneg (by omega) (by omega)
  have e : 1000 * (F.chN c.lines : Int) * m.den = 1000 * ((F.chN c.lines : Int) * m.den) := Int.mul_assoc ..
  rw [F.need, e]
  generalize (F.chN c.lines : Int) * m.den = z at a1 a2 ⊢
  have h5 : 0 ≤ 1000 * z + m.num - 1 := by omega
  have h6 := Int.ediv_nonneg h5 (show 0 ≤ m.num by omega)
  have h7 := Int.ediv_le_self m.num h5
  refine ⟨by omega, by omega, h6, by omega⟩

theorem F.chk_caps {l : List Cap} (h : F.chkC l = 0) (hs : F.smC l = true) : F.capsOK l = true :=
  List.all_eq_true.2 fun c hc => Bool.and_eq_true_iff.2 ⟨F.chk_cap h hc, F.smC_at hs hc⟩

theorem F.mxOK_of {m : Ratio} (h1 : F.out m.num 1 1000000 = false) (h2 : F.out m.den 1 1000000 = false) : F.mxOK m = true := by
  rw [F.mxOK_iff]
  unfold F.out at h1 h2
  simp at h1 h2
  omega

theorem F.capsOK_at {l : List Cap} {k : Nat} {y : Cap} (h : F.capsOK (l.drop k) = true) (hy : l[k]? = some y) : F.capOK y = true ∧ F.smL y.lines = true ∧ F.capsOK (l.drop (k + 1)) = true := by
  have hlt := (List.getElem?_eq_some_iff.1 hy).1
  rw [List.drop_eq_getElem_cons hlt, (List.getElem?_eq_some_iff.1 hy).2] at h
  simp only [F.capsOK, List.all_cons, Bool.and_eq_true] at h ⊢
  exact ⟨h.1.1, h.1.2, h.2⟩

namespace M

def stSl (n : Nat) (m : Ratio) (g : Int) (out : List Cap) (fast : List Int) (k : Nat) : St := ⟨[(37, vI k), (36, vI n), (11, .own 11), (10, .own 35000), (4, .ptr 4 0 0), (2, vI g)], [(35000, ⟨false, 43, 6, out.map eCap⟩), (11, ⟨false, 3, 1, fast.map eI⟩), (4, ⟨true, 0, 0, [eRatio m]⟩)]⟩

def stSl1 (a : Nat × Ratio × Int × (List Cap) × (List Int) × Nat) : St := stSl a.1 a.2.1 a.2.2.1 a.2.2.2.1 a.2.2.2.2.1 a.2.2.2.2.2

theorem stSl_inj (a a' : Nat × Ratio × Int × (List Cap) × (List Int) × Nat) (h : stSl1 a = stSl1 a') : a = a' := by
  simp only [stSl1, stSl] at h
  try simp [strs_inj, ints_inj, bools_inj, eCaps_inj, eCap_iff, eL_eCaps_inj, eMchs_inj, eMch_iff, eWrds_inj, eWrd_iff, eFnds_inj, eFnd_iff, eRatios_inj, eRatio_iff, eWays_inj, eWay_iff] at h
  grind

theorem unstSl (n : Nat) (m : Ratio) (g : Int) (out : List Cap) (fast : List Int) (k : Nat) : unenc stSl1 (St.mk [(37, (vI (↑k : Int))), (36, (vI (↑n : Int))), (11, .own 11), (10, .own 35000), (4, .ptr 4 0 0), (2, (vI g))] [(35000, Blk.mk false 43 6 (List.map eCap out)), (11,
  Blk.mk false 3 1 (List.map eI fast)), (4, Blk.mk true 0 0 [[(vI m.num), (vI m.den)]])]) = some (n, m, g, out, fast, k) := unenc_of stSl_inj (n, m, g, out, fast, k) rfl

theorem unstSl0 (n : Nat) (m : Ratio) (g : Int) (out : List Cap) : unenc stSl1 (St.mk [(37, (vI (0 : Int))), (36, (vI (↑n : Int))), (11, .own 11), (10, .own 35000), (4, .ptr 4 0 0), (2, (vI g))] [(35000, Blk.mk false 43 6 (List.map eCap out)), (11,
  Blk.mk false 3 1 []), (4, Blk.mk true 0 0 [[(vI m.num), (vI m.den)]])]) = some (n, m, g, out, [], 0) := unenc_of stSl_inj (n, m, g, out, [], 0) rfl

def outSl (n : Nat) (m : Ratio) (g : Int) (out : List Cap) (fast : List Int) (k : Nat) : T (Ex × St) := .ret (.exit 0, ⟨[(11, .own 11), (10, .own 35000)], [(35000, ⟨false, 43, 6, (F.mapF (F.slC m g) k out).map eCap⟩), (11, ⟨false, 3, 1, (fast ++ F.slF m g (out.drop k) k).map eI⟩)]⟩)

noncomputable def prlSl (n : Nat) (m : Ratio) (g : Int) (out : List Cap) (fast : List Int) (k : Nat) : Bool := decide (n ≤ 500) && decide (k ≤ n) && decide (out.length = n) && decide (fast.length ≤ k) && F.mxOK m && F.tm g && F.capsOK (out.drop k)

noncomputable def lpSl : Nat × (St → T (Ex × St)) := (9, lpo [37, 36, 11, 10, 4, 2] [35000, 11, 4] stSl1 (fun a => prlSl a.1 a.2.1 a.2.2.1 a.2.2.2.1 a.2.2.2.2.1 a.2.2.2.2.2) fun a => outSl a.1 a.2.1 a.2.2.1 a.2.2.2.1 a.2.2.2.2.1 a.2.2.2.2.2)

noncomputable def enSl : Env := envH ty noG lks [oChC, oOut, oNoT, oCpO, oChs] [] [] [lpSl]

theorem enSl_ok : EnvOK Tryd.prog enSl := by
  refine envH_ok lks_ok ty_ok ?_ ?_
  · simp only [List.forall_mem_cons]
    exact ⟨okChC, okOut, okNoT, okCpO, okChs, by simp⟩
  · simp

theorem evSlL (n : Nat) (m : Ratio) (g : Int) (out : List Cap) (fast : List Int) (k : Nat) : ((exec enSl (loopN Tryd.f26 0) (stSl n m g out fast k)).bind (lessX ([37, 36, 11, 10, 4, 2], [35000, 11, 4]) ([11, 10], [35000, 11]) ([], []))).val =
  bif decide ((↑k : Int) < (↑n : Int)) then bif decide (k < List.length (Blk.mk false 43 6 (List.map eCap out)).rows) then Option.bind (unenc (List.map eCap) (List.map eCap
  out)) fun (z : List Cap) => bif decide (k < List.length z) then Option.bind (unenc encChs [AV.agg [(vI (List.getD z k (Cap.mk (0 : Int) (0 : Int) [] (0 : Int) false
  false)).fr), (vI (List.getD z k (Cap.mk (0 : Int) (0 : Int) [] (0 : Int) false false)).to), AV.sl (List.map eStr (List.getD z k (Cap.mk (0 : Int) (0 : Int) [] (0 : Int)
  false false)).lines), (vI (List.getD z k (Cap.mk (0 : Int) (0 : Int) [] (0 : Int) false false)).row), (vB (List.getD z k (Cap.mk (0 : Int) (0 : Int) [] (0 : Int) false
  false)).bef), (vB (List.getD z k (Cap.mk (0 : Int) (0 : Int) [] (0 : Int) false false)).aft)]]) fun (z : Cap) => bif F.smL z.lines then bif m.num == (0 : Int) then none
  else bif decide (IntKind.wrap IntKind.i64 ((↑k : Int) + (1 : Int)) < (↑(List.length (List.map eCap out)) : Int)) then Option.bind (idx (IntKind.wrap IntKind.i64 ((↑k :
  Int) + (1 : Int)))) fun (z_1 : Nat) => bif decide (z_1 < List.length (Blk.mk false 43 6 (List.map eCap out)).rows) then Option.bind (unenc (List.map eCap) (List.map eCap
  out)) fun (z_2 : List Cap) => bif decide (z_1 < List.length z_2) then Option.bind (unenc (List.map eCap) (List.map eCap out)) fun (z_3 : List Cap) => bif decide (k <
  List.length z_3) then Option.bind (unenc (List.map eCap) (List.map eCap out)) fun (z_4 : List Cap) => bif decide (k < List.length z_4) then Option.bind (unenc (List.map
  eCap) (List.map eCap out)) fun (z_5 : List Cap) => bif decide (k < List.length z_5) then Option.bind (unenc (List.map eCap) (List.set (List.map eCap out) k [(vI (List.getD
  z_5 k (Cap.mk (0 : Int) (0 : Int) [] (0 : Int) false false)).fr), (vI (max (List.getD z_3 k (Cap.mk (0 : Int) (0 : Int) [] (0 : Int) false false)).to (min (IntKind.wrap
  IntKind.i64 ((List.getD z_4 k (Cap.mk (0 : Int) (0 : Int) [] (0 : Int) false false)).fr + IntKind.wrap IntKind.i64 (Int.tdiv (IntKind.wrap IntKind.i64 (IntKind.wrap
  IntKind.i64 (IntKind.wrap IntKind.i64 (IntKind.wrap IntKind.i64 ((1000 : Int) * F.chF (0 : Int) z.lines) * m.den) + m.num) - (1 : Int))) m.num))) (min (359999999 : Int)
  (IntKind.wrap IntKind.i64 ((List.getD z_2 z_1 (Cap.mk (0 : Int) (0 : Int) [] (0 : Int) false false)).fr - g)))))), AV.sl (List.map eStr (List.getD z_5 k (Cap.mk (0 : Int)
  (0 : Int) [] (0 : Int) false false)).lines), (vI (List.getD z_5 k (Cap.mk (0 : Int) (0 : Int) [] (0 : Int) false false)).row), (vB (List.getD z_5 k (Cap.mk (0 : Int) (0 :
  Int) [] (0 : Int) false false)).bef), (vB (List.getD z_5 k (Cap.mk (0 : Int) (0 : Int) [] (0 : Int) false false)).aft)])) fun (z_6 : List Cap) => bif decide (k <
  List.length z_6) then Option.bind (unenc (List.map eCap) (List.set (List.map eCap out) k [(vI (List.getD z_5 k (Cap.mk (0 : Int) (0 : Int) [] (0 : Int) false false)).fr),
  (vI (max (List.getD z_3 k (Cap.mk (0 : Int) (0 : Int) [] (0 : Int) false false)).to (min (IntKind.wrap IntKind.i64 ((List.getD z_4 k (Cap.mk (0 : Int) (0 : Int) [] (0 :
  Int) false false)).fr + IntKind.wrap IntKind.i64 (Int.tdiv (IntKind.wrap IntKind.i64 (IntKind.wrap IntKind.i64 (IntKind.wrap IntKind.i64 (IntKind.wrap IntKind.i64 ((1000 :
  Int) * F.chF (0 : Int) z.lines) * m.den) + m.num) - (1 : Int))) m.num))) (min (359999999 : Int) (IntKind.wrap IntKind.i64 ((List.getD z_2 z_1 (Cap.mk (0 : Int) (0 : Int)
  [] (0 : Int) false false)).fr - g)))))), AV.sl (List.map eStr (List.getD z_5 k (Cap.mk (0 : Int) (0 : Int) [] (0 : Int) false false)).lines), (vI (List.getD z_5 k (Cap.mk
  (0 : Int) (0 : Int) [] (0 : Int) false false)).row), (vB (List.getD z_5 k (Cap.mk (0 : Int) (0 : Int) [] (0 : Int) false false)).bef), (vB (List.getD z_5 k (Cap.mk (0 :
  Int) (0 : Int) [] (0 : Int) false false)).aft)])) fun (z_7 : List Cap) => bif decide (k < List.length z_7) then bif decide (IntKind.wrap IntKind.i64 ((List.getD z_6 k
  (Cap.mk (0 : Int) (0 : Int) [] (0 : Int) false false)).to - (List.getD z_7 k (Cap.mk (0 : Int) (0 : Int) [] (0 : Int) false false)).fr) < IntKind.wrap IntKind.i64
  (Int.tdiv (IntKind.wrap IntKind.i64 (IntKind.wrap IntKind.i64 (IntKind.wrap IntKind.i64 (IntKind.wrap IntKind.i64 ((1000 : Int) * F.chF (0 : Int) z.lines) * m.den) +
  m.num) - (1 : Int))) m.num)) then bif Nat.ble ((List.length (List.map eI fast) + (1 : Nat)) * (8 : Nat)) (140737488355328 : Nat) && true then some (Ex.normal, St.mk [(37,
  (vI (IntKind.wrap IntKind.i64 ((↑k : Int) + (1 : Int))))), (36, (vI (↑n : Int))), (11, .own 11), (10, .own 35000), (4, .ptr 4 0 0), (2, (vI g))] [(35000, Blk.mk false 43 6
  (List.set (List.map eCap out) k [(vI (List.getD z_5 k (Cap.mk (0 : Int) (0 : Int) [] (0 : Int) false false)).fr), (vI (max (List.getD z_3 k (Cap.mk (0 : Int) (0 : Int) []
  (0 : Int) false false)).to (min (IntKind.wrap IntKind.i64 ((List.getD z_4 k (Cap.mk (0 : Int) (0 : Int) [] (0 : Int) false false)).fr + IntKind.wrap IntKind.i64 (Int.tdiv
  (IntKind.wrap IntKind.i64 (IntKind.wrap IntKind.i64 (IntKind.wrap IntKind.i64 (IntKind.wrap IntKind.i64 ((1000 : Int) * F.chF (0 : Int) z.lines) * m.den) + m.num) - (1 :
  Int))) m.num))) (min (359999999 : Int) (IntKind.wrap IntKind.i64 ((List.getD z_2 z_1 (Cap.mk (0 : Int) (0 : Int) [] (0 : Int) false false)).fr - g)))))), AV.sl (List.map
  eStr (List.getD z_5 k (Cap.mk (0 : Int) (0 : Int) [] (0 : Int) false false)).lines), (vI (List.getD z_5 k (Cap.mk (0 : Int) (0 : Int) [] (0 : Int) false false)).row), (vB
  (List.getD z_5 k (Cap.mk (0 : Int) (0 : Int) [] (0 : Int) false false)).bef), (vB (List.getD z_5 k (Cap.mk (0 : Int) (0 : Int) [] (0 : Int) false false)).aft)])), (11,
  Blk.mk false 3 1 (List.map eI fast ++ [[(vI (↑k : Int))]])), (4, Blk.mk true 0 0 [[(vI m.num), (vI m.den)]])]) else none else some (Ex.normal, St.mk [(37, (vI
  (IntKind.wrap IntKind.i64 ((↑k : Int) + (1 : Int))))), (36, (vI (↑n : Int))), (11, .own 11), (10, .own 35000), (4, .ptr 4 0 0), (2, (vI g))] [(35000, Blk.mk false 43 6
  (List.set (List.map eCap out) k [(vI (List.getD z_5 k (Cap.mk (0 : Int) (0 : Int) [] (0 : Int) false false)).fr), (vI (max (List.getD z_3 k (Cap.mk (0 : Int) (0 : Int) []
  (0 : Int) false false)).to (min (IntKind.wrap IntKind.i64 ((List.getD z_4 k (Cap.mk (0 : Int) (0 : Int) [] (0 : Int) false false)).fr + IntKind.wrap IntKind.i64 (Int.tdiv
  (IntKind.wrap IntKind.i64 (IntKind.wrap IntKind.i64 (IntKind.wrap IntKind.i64 (IntKind.wrap IntKind.i64 ((1000 : Int) * F.chF (0 : Int) z.lines) * m.den) + m.num) - (1 :
  Int))) m.num))) (min (359999999 : Int) (IntKind.wrap IntKind.i64 ((List.getD z_2 z_1 (Cap.mk (0 : Int) (0 : Int) [] (0 : Int) false false)).fr - g)))))), AV.sl (List.map
  eStr (List.getD z_5 k (Cap.mk (0 : Int) (0 : Int) [] (0 : Int) false false)).lines), (vI (List.getD z_5 k (Cap.mk (0 : Int) (0 : Int) [] (0 : Int) false false)).row), (vB
  (List.getD z_5 k (Cap.mk (0 : Int) (0 : Int) [] (0 : Int) false false)).bef), (vB (List.getD z_5 k (Cap.mk (0 : Int) (0 : Int) [] (0 : Int) false false)).aft)])), (11,
  Blk.mk false 3 1 (List.map eI fast)), (4, Blk.mk true 0 0 [[(vI m.num), (vI m.den)]])]) else none else none else none else none else none else none else none else
  Option.bind (unenc (List.map eCap) (List.map eCap out)) fun (z_1 : List Cap) => bif decide (k < List.length z_1) then Option.bind (unenc (List.map eCap) (List.map eCap
  out)) fun (z_2 : List Cap) => bif decide (k < List.length z_2) then Option.bind (unenc (List.map eCap) (List.map eCap out)) fun (z_3 : List Cap) => bif decide (k <
  List.length z_3) then Option.bind (unenc (List.map eCap) (List.set (List.map eCap out) k [(vI (List.getD z_3 k (Cap.mk (0 : Int) (0 : Int) [] (0 : Int) false false)).fr),
  (vI (max (List.getD z_1 k (Cap.mk (0 : Int) (0 : Int) [] (0 : Int) false false)).to (min (IntKind.wrap IntKind.i64 ((List.getD z_2 k (Cap.mk (0 : Int) (0 : Int) [] (0 :
  Int) false false)).fr + IntKind.wrap IntKind.i64 (Int.tdiv (IntKind.wrap IntKind.i64 (IntKind.wrap IntKind.i64 (IntKind.wrap IntKind.i64 (IntKind.wrap IntKind.i64 ((1000 :
  Int) * F.chF (0 : Int) z.lines) * m.den) + m.num) - (1 : Int))) m.num))) (359999999 : Int)))), AV.sl (List.map eStr (List.getD z_3 k (Cap.mk (0 : Int) (0 : Int) [] (0 :
  Int) false false)).lines), (vI (List.getD z_3 k (Cap.mk (0 : Int) (0 : Int) [] (0 : Int) false false)).row), (vB (List.getD z_3 k (Cap.mk (0 : Int) (0 : Int) [] (0 : Int)
  false false)).bef), (vB (List.getD z_3 k (Cap.mk (0 : Int) (0 : Int) [] (0 : Int) false false)).aft)])) fun (z_4 : List Cap) => bif decide (k < List.length z_4) then
  Option.bind (unenc (List.map eCap) (List.set (List.map eCap out) k [(vI (List.getD z_3 k (Cap.mk (0 : Int) (0 : Int) [] (0 : Int) false false)).fr), (vI (max (List.getD
  z_1 k (Cap.mk (0 : Int) (0 : Int) [] (0 : Int) false false)).to (min (IntKind.wrap IntKind.i64 ((List.getD z_2 k (Cap.mk (0 : Int) (0 : Int) [] (0 : Int) false false)).fr
  + IntKind.wrap IntKind.i64 (Int.tdiv (IntKind.wrap IntKind.i64 (IntKind.wrap IntKind.i64 (IntKind.wrap IntKind.i64 (IntKind.wrap IntKind.i64 ((1000 : Int) * F.chF (0 :
  Int) z.lines) * m.den) + m.num) - (1 : Int))) m.num))) (359999999 : Int)))), AV.sl (List.map eStr (List.getD z_3 k (Cap.mk (0 : Int) (0 : Int) [] (0 : Int) false
  false)).lines), (vI (List.getD z_3 k (Cap.mk (0 : Int) (0 : Int) [] (0 : Int) false false)).row), (vB (List.getD z_3 k (Cap.mk (0 : Int) (0 : Int) [] (0 : Int) false
  false)).bef), (vB (List.getD z_3 k (Cap.mk (0 : Int) (0 : Int) [] (0 : Int) false false)).aft)])) fun (z_5 : List Cap) => bif decide (k < List.length z_5) then bif decide
  (IntKind.wrap IntKind.i64 ((List.getD z_4 k (Cap.mk (0 : Int) (0 : Int) [] (0 : Int) false false)).to - (List.getD z_5 k (Cap.mk (0 : Int) (0 : Int) [] (0 : Int) false
  false)).fr) < IntKind.wrap IntKind.i64 (Int.tdiv (IntKind.wrap IntKind.i64 (IntKind.wrap IntKind.i64 (IntKind.wrap IntKind.i64 (IntKind.wrap IntKind.i64 ((1000 : Int) *
  F.chF (0 : Int) z.lines) * m.den) + m.num) - (1 : Int))) m.num)) then bif Nat.ble ((List.length (List.map eI fast) + (1 : Nat)) * (8 : Nat)) (140737488355328 : Nat) &&
  true then some (Ex.normal, St.mk [(37, (vI (IntKind.wrap IntKind.i64 ((↑k : Int) + (1 : Int))))), (36, (vI (↑n : Int))), (11, .own 11), (10, .own 35000), (4, .ptr 4 0 0),
  (2, (vI g))] [(35000, Blk.mk false 43 6 (List.set (List.map eCap out) k [(vI (List.getD z_3 k (Cap.mk (0 : Int) (0 : Int) [] (0 : Int) false false)).fr), (vI (max
  (List.getD z_1 k (Cap.mk (0 : Int) (0 : Int) [] (0 : Int) false false)).to (min (IntKind.wrap IntKind.i64 ((List.getD z_2 k (Cap.mk (0 : Int) (0 : Int) [] (0 : Int) false
  false)).fr + IntKind.wrap IntKind.i64 (Int.tdiv (IntKind.wrap IntKind.i64 (IntKind.wrap IntKind.i64 (IntKind.wrap IntKind.i64 (IntKind.wrap IntKind.i64 ((1000 : Int) *
  F.chF (0 : Int) z.lines) * m.den) + m.num) - (1 : Int))) m.num))) (359999999 : Int)))), AV.sl (List.map eStr (List.getD z_3 k (Cap.mk (0 : Int) (0 : Int) [] (0 : Int)
  false false)).lines), (vI (List.getD z_3 k (Cap.mk (0 : Int) (0 : Int) [] (0 : Int) false false)).row), (vB (List.getD z_3 k (Cap.mk (0 : Int) (0 : Int) [] (0 : Int) false
  false)).bef), (vB (List.getD z_3 k (Cap.mk (0 : Int) (0 : Int) [] (0 : Int) false false)).aft)])), (11, Blk.mk false 3 1 (List.map eI fast ++ [[(vI (↑k : Int))]])), (4,
  Blk.mk true 0 0 [[(vI m.num), (vI m.den)]])]) else none else some (Ex.normal, St.mk [(37, (vI (IntKind.wrap IntKind.i64 ((↑k : Int) + (1 : Int))))), (36, (vI (↑n : Int))),
  (11, .own 11), (10, .own 35000), (4, .ptr 4 0 0), (2, (vI g))] [(35000, Blk.mk false 43 6 (List.set (List.map eCap out) k [(vI (List.getD z_3 k (Cap.mk (0 : Int) (0 : Int)
  [] (0 : Int) false false)).fr), (vI (max (List.getD z_1 k (Cap.mk (0 : Int) (0 : Int) [] (0 : Int) false false)).to (min (IntKind.wrap IntKind.i64 ((List.getD z_2 k
  (Cap.mk (0 : Int) (0 : Int) [] (0 : Int) false false)).fr + IntKind.wrap IntKind.i64 (Int.tdiv (IntKind.wrap IntKind.i64 (IntKind.wrap IntKind.i64 (IntKind.wrap
  IntKind.i64 (IntKind.wrap IntKind.i64 ((1000 : Int) * F.chF (0 : Int) z.lines) * m.den) + m.num) - (1 : Int))) m.num))) (359999999 : Int)))), AV.sl (List.map eStr
  (List.getD z_3 k (Cap.mk (0 : Int) (0 : Int) [] (0 : Int) false false)).lines), (vI (List.getD z_3 k (Cap.mk (0 : Int) (0 : Int) [] (0 : Int) false false)).row), (vB
  (List.getD z_3 k (Cap.mk (0 : Int) (0 : Int) [] (0 : Int) false false)).bef), (vB (List.getD z_3 k (Cap.mk (0 : Int) (0 : Int) [] (0 : Int) false false)).aft)])), (11,
  Blk.mk false 3 1 (List.map eI fast)), (4, Blk.mk true 0 0 [[(vI m.num), (vI m.den)]])]) else none else none else none else none else none else none else none else none
  else some (Ex.exit (0 : Nat), St.mk [(11, .own 11), (10, .own 35000)] [(35000, Blk.mk false 43 6 (List.map eCap out)), (11, Blk.mk false 3 1 (List.map eI fast))]) := by kernel_rfl

theorem lpSl_ok (n : Nat) (m : Ratio) (g : Int) (out : List Cap) (fast : List Int) (k : Nat) (hp : prlSl n m g out fast k = true) : ∀ ex s', (outSl n m g out fast k).val = some (ex, s') → LoopOK enSl (loopN Tryd.f26 0) (stSl n m g out fast k) ex s' := by
  simp only [prlSl, Bool.and_eq_true, decide_eq_true_eq] at hp
  obtain ⟨⟨⟨⟨⟨⟨h1, h2⟩, h3⟩, h4⟩, h5⟩, h6⟩, h7⟩ := hp
  refine loop_gen (st := fun a : List Cap × List Int × Nat => stSl n m g a.1 a.2.1 a.2.2) (out := fun a => outSl n m g a.1 a.2.1 a.2.2) (I := fun a => a.2.2 ≤ n ∧ a.1.length = n ∧ a.2.1.length ≤ a.2.2 ∧ F.capsOK (a.1.drop a.2.2) = true) (n := ([37, 36, 11, 10, 4, 2], [35000, 11, 4])) (e := ([11, 10], [35000, 11])) (r := ([], [])) (fun a => n - a.2.2) ?_ (out, fast, k) ⟨h2, h3, h4, h7⟩
  rintro ⟨out, fast, k⟩ ⟨h2, h3, h4, h7⟩
  simp only at h2 h3 h4 h7
  by_cases hkn : k < n
  · have hy : out[k]? = some out[k] := List.getElem?_eq_getElem (by omega)
    generalize out[k] = y at hy
    have hlt := lt_at hy
    obtain ⟨q1, q2, q3⟩ := F.capsOK_at h7 hy
    obtain ⟨b1, b2, b3, b4⟩ := F.need_bd h5 q1
    obtain ⟨⟨⟨m1, m2⟩, m3⟩, m4⟩ := F.mxOK_iff.1 h5
    obtain ⟨c1, c2⟩ := F.ch_ok q1
    obtain ⟨f1, f2, f3, _⟩ := F.capOK_iff q1
    have hg := F.tm_iff.1 h6
    right
    refine ⟨(out.set k (F.slC m g out[k + 1]? y), fast ++ (bif F.lt (F.slTo m g out[k + 1]? y - y.fr) (F.need m y) then [(k : Int)] else []), k + 1), ?_, rfl, ⟨hkn, by simp only [List.length_set]; exact h3, ?_, by simp only; rw [List.drop_set_of_lt (Nat.lt_succ_self _)]; exact q3⟩, by simp only; omega, ?_⟩
    · have hz : (m.num == 0) = false := by simp; omega
      have w1 : IntKind.i64.wrap (1000 * (F.chN y.lines : Int)) = 1000 * (F.chN y.lines : Int) := wrap_id (by omega) (by omega)
      have w2 : IntKind.i64.wrap (1000 * (F.chN y.lines : Int) * m.den) = 1000 * (F.chN y.lines : Int) * m.den := wrap_id (by omega) (by omega)
      have w3 : IntKind.i64.wrap (1000 * (F.chN y.lines : Int) * m.den + m.num) = 1000 * (F.chN y.lines : Int) * m.den + m.num := wrap_id (by omega) (by omega)
      have w4 : IntKind.i64.wrap (1000 * (F.chN y.lines : Int) * m.den + m.num - 1) = 1000 * (F.chN y.lines : Int) * m.den + m.num - 1 := wrap_id (by omega) (by omega)
      have w5 : (1000 * (F.chN y.lines : Int) * m.den + m.num - 1).tdiv m.num = F.need m y := Int.tdiv_eq_ediv_of_nonneg (by omega)
      have w6 : IntKind.i64.wrap (F.need m y) = F.need m y := wrap_id (by omega) (by omega)
      have w7 : IntKind.i64.wrap (y.fr + F.need m y) = y.fr + F.need m y := wrap_id (by omega) (by omega)
      have hN := next_at hkn (by omega : n ≤ 9223372036854775807)
      have hble : Nat.ble ((fast.length + 1) * 8) 140737488355328 = true := ble_t (by omega)
      rw [evSlL]
      by_cases hn : k + 1 < n
      · have hd : out[k + 1]? = some out[k + 1] := List.getElem?_eq_getElem (by omega)
        generalize out[k + 1] = d at hd
        obtain ⟨d1, d2, d3⟩ := F.capsOK_at q3 hd
        obtain ⟨d4, _⟩ := F.capOK_iff d1
        have hld := lt_at hd
        have w8 : IntKind.i64.wrap (d.fr - g) = d.fr - g := wrap_id (by omega) (by omega)
        have hto : max y.to (min (y.fr + F.need m y) (min 359999999 (d.fr - g))) = F.slTo m g (some d) y := rfl
        have w9 : IntKind.i64.wrap (F.slTo m g (some d) y - y.fr) = F.slTo m g (some d) y - y.fr := wrap_id (by unfold F.slTo; omega) (by unfold F.slTo F.room; omega)
        have e1 : decide (((k + 1 : Nat) : Int) < (out.length : Int)) = true := decide_eq_true (by omega)
        simp only [unChC, unOut, unNoT, unCpO, unChs, unChsw, preChC1, preOut1, preNoT1, preCpO1, preChs1, unstSl, unstSl0, prlSl, outSl, etaCap, etaMch, etaWrd, etaFnd, etaRatio, etaWay, Option.bind_some, List.length_map, unStrs, unInts, unBools, unCaps, uneL_eCaps, unMchs, unWrds, unFnds, unRatios, unWays, F.lt, F.le, cond_true, cond_false, Bool.and_true, Bool.true_and, cast_lt hkn, decide_eq_true hlt, hN, getD_at hy, c1, w1, w2, w3, w4, w5, w6, w7, hz, q2, e1, idx_nat, decide_eq_true hld, getD_at hd, w8, hto, setWCaps, List.length_set, getD_set hlt, w9, hble, hd]
        cases decide (F.slTo m g (some d) y - y.fr < F.need m y)
        · simp only [cond_false, List.append_nil]; rfl
        · simp only [cond_true, stSl, List.map_append, List.map_cons, List.map_nil]; rfl
      · have hd : out[k + 1]? = none := List.getElem?_eq_none (by omega)
        have hto : max y.to (min (y.fr + F.need m y) 359999999) = F.slTo m g none y := rfl
        have w9 : IntKind.i64.wrap (F.slTo m g none y - y.fr) = F.slTo m g none y - y.fr := wrap_id (by unfold F.slTo F.room; omega) (by unfold F.slTo F.room; omega)
        have e1 : decide (((k + 1 : Nat) : Int) < (out.length : Int)) = false := decide_eq_false (by omega)
        simp only [unChC, unOut, unNoT, unCpO, unChs, unChsw, preChC1, preOut1, preNoT1, preCpO1, preChs1, unstSl, unstSl0, prlSl, outSl, etaCap, etaMch, etaWrd, etaFnd, etaRatio, etaWay, Option.bind_some, List.length_map, unStrs, unInts, unBools, unCaps, uneL_eCaps, unMchs, unWrds, unFnds, unRatios, unWays, F.lt, F.le, cond_true, cond_false, Bool.and_true, Bool.true_and, cast_lt hkn, decide_eq_true hlt, hN, getD_at hy, c1, w1, w2, w3, w4, w5, w6, w7, hz, q2, e1, idx_nat, hto, setWCaps, List.length_set, getD_set hlt, w9, hble, hd]
        cases decide (F.slTo m g none y - y.fr < F.need m y)
        · simp only [cond_false, List.append_nil]; rfl
        · simp only [cond_true, stSl, List.map_append, List.map_cons, List.map_nil]; rfl
    · simp only [List.length_append]
      cases F.lt (F.slTo m g out[k + 1]? y - y.fr) (F.need m y) <;> simp <;> omega
    · have e3 : out.drop k = y :: out.drop (k + 1) := by
        rw [List.drop_eq_getElem_cons hlt]
        congr 1
        exact (List.getElem?_eq_some_iff.1 hy).2
      have e2 : (out.set k (F.slC m g out[k + 1]? y)).drop (k + 1) = out.drop (k + 1) := List.drop_set_of_lt (Nat.lt_succ_self _)
      simp only [outSl, F.mapF_step hy, e2, e3, F.slF_cons, List.head?_drop, List.append_assoc]
  · have : k = n := by omega
    subst this
    left
    refine ⟨(.exit 0, ⟨[(11, .own 11), (10, .own 35000)], [(35000, ⟨false, 43, 6, out.map eCap⟩), (11, ⟨false, 3, 1, fast.map eI⟩)]⟩), ?_, ?_, by simp, rfl⟩
    · rw [evSlL]; simp
    · simp only [outSl]
      subst h3
      rw [F.mapF_end, List.drop_length]
      simp only [F.slF, List.append_nil]
      rfl

theorem evSl (l : List Cap) (m : Ratio) (g : Int) : (runF enSl false Tryd.f26 [.sl (l.map eCap), .agg (eRatio m), vI g]).val =
  Option.bind (unenc encChC [AV.sl (List.map eCap l)]) fun (z : List Cap) => bif F.smC z then bif F.chkC z != (0 : Int) then some (AV.tup [AV.sl [], AV.sl [], (vI (F.chkC
  z))], []) else Option.bind (unenc encOut [(vI m.num), (vI (1 : Int)), (vI (1000000 : Int))]) fun (z : Int × Int × Int) => bif !F.out z.fst z.snd.fst z.snd.snd then
  Option.bind (unenc encOut [(vI m.den), (vI (1 : Int)), (vI (1000000 : Int))]) fun (z_1 : Int × Int × Int) => bif !bif F.out z.fst z.snd.fst z.snd.snd then true else F.out
  z_1.fst z_1.snd.fst z_1.snd.snd then Option.bind (unenc encNoT [(vI g)]) fun (z_2 : Int) => bif bif bif F.out z.fst z.snd.fst z.snd.snd then true else F.out z_1.fst
  z_1.snd.fst z_1.snd.snd then true else F.noTime z_2 then some (AV.tup [AV.sl [], AV.sl [], (vI (1 : Int))], []) else Option.bind (unenc encCpO [AV.sl (List.map eCap l)])
  fun (z : List Cap) => bif F.capSm z then Option.bind (unenc stSl1 (St.mk [(37, (vI (0 : Int))), (36, (vI (↑(List.length (List.map eCap z)) : Int))), (11, .own 11), (10,
  .own 35000), (4, .ptr 4 0 0), (2, (vI g))] [(35000, Blk.mk false 43 6 (List.map eCap z)), (11, Blk.mk false 3 1 []), (4, Blk.mk true 0 0 [[(vI m.num), (vI m.den)]])])) fun
  (z : Nat × Ratio × Int × List Cap × List Int × Nat) => bif decide (z.fst ≤ (500 : Nat)) && decide (z.snd.snd.snd.snd.snd ≤ z.fst) && decide (List.length z.snd.snd.snd.fst
  = z.fst) && decide (List.length z.snd.snd.snd.snd.fst ≤ z.snd.snd.snd.snd.snd) && F.mxOK z.snd.fst && F.tm z.snd.snd.fst && F.capsOK (List.drop z.snd.snd.snd.snd.snd
  z.snd.snd.snd.fst) && true then some (AV.tup [AV.sl (List.map eCap (F.mapF (F.slC z.snd.fst z.snd.snd.fst) z.snd.snd.snd.snd.snd z.snd.snd.snd.fst)), AV.sl (List.map eI
  (z.snd.snd.snd.snd.fst ++ F.slF z.snd.fst z.snd.snd.fst (List.drop z.snd.snd.snd.snd.snd z.snd.snd.snd.fst) z.snd.snd.snd.snd.snd)), (vI (0 : Int))], []) else none else
  none else some (AV.tup [AV.sl [], AV.sl [], (vI (1 : Int))], []) else some (AV.tup [AV.sl [], AV.sl [], (vI (1 : Int))], []) else none := by kernel_rfl

def encSl1 (l : List Cap) (m : Ratio) (g : Int) : List AV := [.sl (l.map eCap), .agg (eRatio m), vI g]

def encSl (a : (List Cap) × Ratio × Int) : List AV := encSl1 a.1 a.2.1 a.2.2

theorem encSl_inj (a a' : (List Cap) × Ratio × Int) (h : encSl a = encSl a') : a = a' := by
  simp only [encSl, encSl1] at h
  try simp [strs_inj, ints_inj, bools_inj, eCaps_inj, eCap_iff, eL_eCaps_inj, eMchs_inj, eMch_iff, eWrds_inj, eWrd_iff, eFnds_inj, eFnd_iff, eRatios_inj, eRatio_iff, eWays_inj, eWay_iff] at h
  grind

theorem unSl (l : List Cap) (m : Ratio) (g : Int) : unenc encSl ([AV.sl (List.map eCap l), AV.agg [(vI m.num), (vI m.den)], (vI g)]) = some (l, m, g) := unenc_of encSl_inj (l, m, g) rfl

theorem unSlw (l : List Cap) (m_num : Int) (m_den : Int) (g : Int) : unenc encSl ([AV.sl (List.map eCap l), AV.agg [(vI m_num), (vI m_den)], (vI g)]) = some (l, (Ratio.mk m_num m_den), g) := unenc_of encSl_inj (l, (Ratio.mk m_num m_den), g) rfl

def resSl1 (l : List Cap) (m : Ratio) (g : Int) : AV × Heap := (.tup [.sl ((F.slow l m g).1.map eCap), .sl ((F.slow l m g).2.1.map eI), vI (F.slow l m g).2.2], [])

def preSl1 (l : List Cap) (m : Ratio) (g : Int) : Bool := F.smC l

noncomputable def oSl : Orc := orc 26 false encSl (fun a => preSl1 a.1 a.2.1 a.2.2) fun a => resSl1 a.1 a.2.1 a.2.2

theorem okSl : OrcOK Tryd.prog noG oSl := by
  refine mk_ok Tryd.f26 (keep := false) (by kernel_rfl) (by kernel_rfl) enSl_ok mixed (one_loop (x0 := loopN Tryd.f26 0) (by kernel_rfl) (lpo_ok ?_)) (by first | exact fun _ _ => ⟨rfl, rfl⟩ | (intro h; cases h)) ?_
  · rintro ⟨n, m, g, out, fast, k⟩ hp
    exact lpSl_ok n m g out fast k hp
  rintro ⟨l, m, g⟩ hpre hok
  show (runF enSl false _ (encSl1 _ _ _)).val = some (resSl1 _ _ _)
  unfold encSl1 resSl1
  rw [evSl]
  simp only [preSl1] at hpre
  simp only [unChC, unOut, unNoT, unCpO, unChs, unChsw, preChC1, preOut1, preNoT1, preCpO1, preChs1, unstSl, unstSl0, prlSl, outSl, etaCap, etaMch, etaWrd, etaFnd, etaRatio, etaWay, Option.bind_some, List.length_map, unStrs, unInts, unBools, unCaps, uneL_eCaps, unMchs, unWrds, unFnds, unRatios, unWays, F.lt, F.le, cond_true, cond_false, Bool.and_true, Bool.true_and, hpre, F.slow, F.mxB]
  by_cases h0 : F.chkC l = 0
  case neg =>
    rw [bne1 h0]; rfl
  rw [bne0 h0]
  have c1 := F.chk_sm h0
  have c2 := F.chk_len h0
  have c3 := F.chk_caps h0 hpre
  simp only [cond_false]
  cases h1 : F.out m.num 1 1000000
  case true => rfl
  cases h2 : F.out m.den 1 1000000
  case true => rfl
  cases h3 : F.noTime g
  case true => rfl
  have c4 : F.tm g = true := by unfold F.tm; rw [h3]; rfl
  have c5 : F.mxOK m = true := F.mxOK_of h1 h2
  simp only [Bool.not_false, cond_true, cond_false, c1, c3, c4, c5, decide_eq_true c2, Nat.zero_le, decide_true, Bool.and_true, Bool.and_self, List.drop_zero, List.length_nil, List.nil_append, F.mapF_zero, Bool.or_false, Bool.or_self]

end M
end Go.Proofs.YtniealifncgilaaDoor
