/- What is proved here: Shift and Stretch of both (no statement of the seat). -/
import Derived.Test.YtniealifncgilaaDoorC11
namespace Go.Proofs.YtniealifncgilaaDoor
open Go Go.RowKit
set_option linter.unusedVariables false
set_option linter.unusedSimpArgs false

def F.stC (a b : Mch) (c : Cap) : Cap := ⟨F.strT a b c.fr, F.strT a b c.to, c.lines, c.row, c.bef, c.aft⟩

def F.mTm (a b : Mch) : Bool := F.noTime a.was || F.noTime a.now || F.noTime b.was || F.noTime b.now

def F.stretch (l : List Cap) (a b : Mch) : List Cap × Int :=
  bif F.chkC l != 0 then ([], F.chkC l) else bif F.mTm a b then ([], 1) else bif F.le b.was a.was || F.le b.now a.now then ([], 8) else F.fin (l.map (F.stC a b))

def F.tmL (l : List Cap) : Bool := l.all fun c => F.tm c.fr && F.tm c.to

theorem F.chk_tm {l : List Cap} (h : F.chkC l = 0) : F.tmL l = true := by
  refine List.all_eq_true.2 fun c hc => ?_
  obtain ⟨q, hq⟩ := F.chk_at h hc
  obtain ⟨h1, h2, _⟩ := F.capF_ok hq
  simp only [F.tm, h1, h2]; rfl

theorem F.tmL_at {l : List Cap} {k : Nat} {y : Cap} (h : F.tmL (l.drop k) = true) (hy : l[k]? = some y) : F.tm y.fr = true ∧ F.tm y.to = true ∧ F.tmL (l.drop (k + 1)) = true := by
  have hlt := (List.getElem?_eq_some_iff.1 hy).1
  rw [List.drop_eq_getElem_cons hlt, (List.getElem?_eq_some_iff.1 hy).2] at h
  simp only [F.tmL, List.all_cons, Bool.and_eq_true] at h ⊢
  exact ⟨h.1.1, h.1.2, h.2⟩

open Classical in
/-- From a place on the lists are one. -/
noncomputable def F.eqd (a l : List Cap) (k : Nat) : Bool := decide (a.drop k = l.drop k)

theorem F.eqd_self (l : List Cap) : F.eqd l l 0 = true := by simp [F.eqd]

theorem F.eqd_at {a l : List Cap} {k : Nat} {y : Cap} (h : F.eqd a l k = true) (hy : a[k]? = some y) : l[k]? = some y ∧ ∀ x, F.eqd (a.set k x) l (k + 1) = true := by
  have h : a.drop k = l.drop k := by simpa [F.eqd] using h
  have e : ∀ j, a[k + j]? = l[k + j]? := fun j => by rw [← List.getElem?_drop, h, List.getElem?_drop]
  refine ⟨by rw [← hy]; exact (e 0).symm, fun x => ?_⟩
  simp only [F.eqd, decide_eq_true_eq]
  rw [List.drop_set_of_lt (Nat.lt_succ_self _)]
  apply List.ext_getElem?
  intro j
  rw [List.getElem?_drop, List.getElem?_drop, show k + 1 + j = k + (1 + j) by omega, e]

theorem F.within_out (n l h : Int) : F.within n l h = !F.out n l h := by
  unfold F.within F.out
  by_cases h1 : l ≤ n <;> by_cases h2 : n ≤ h <;> simp [h1, h2] <;> omega

namespace M

theorem getD_set {α : Type} {l : List α} {i : Nat} {x d : α} (h : i < l.length) : (l.set i x).getD i d = x := by simp [List.getD, h]

def stSh (n : Nat) (b : Int) (out : List Cap) (k : Nat) : St := ⟨[(20, vI k), (19, vI n), (7, .own 18000), (1, vI b)], [(18000, ⟨false, 43, 6, out.map eCap⟩)]⟩

def stSh1 (a : Nat × Int × (List Cap) × Nat) : St := stSh a.1 a.2.1 a.2.2.1 a.2.2.2

theorem stSh_inj (a a' : Nat × Int × (List Cap) × Nat) (h : stSh1 a = stSh1 a') : a = a' := by
  simp only [stSh1, stSh] at h
  try simp [strs_inj, ints_inj, bools_inj, eCaps_inj, eCap_iff, eL_eCaps_inj, eMchs_inj, eMch_iff, eWrds_inj, eWrd_iff, eFnds_inj, eFnd_iff, eRatios_inj, eRatio_iff, eWays_inj, eWay_iff] at h
  grind

theorem unstSh (n : Nat) (b : Int) (out : List Cap) (k : Nat) : unenc stSh1 (St.mk [(20, (vI (↑k : Int))), (19, (vI (↑n : Int))), (7, .own 18000), (1, (vI b))] [(18000, Blk.mk false 43 6 (List.map eCap out))]) = some (n, b, out, k) := unenc_of stSh_inj (n, b, out, k) rfl

theorem unstSh0 (n : Nat) (b : Int) (out : List Cap) : unenc stSh1 (St.mk [(20, (vI (0 : Int))), (19, (vI (↑n : Int))), (7, .own 18000), (1, (vI b))] [(18000, Blk.mk false 43 6 (List.map eCap out))]) = some (n, b, out, 0) := unenc_of stSh_inj (n, b, out, 0) rfl

def outSh (n : Nat) (b : Int) (out : List Cap) (k : Nat) : T (Ex × St) := .ret (.exit 0, ⟨[(7, .own 18000)], [(18000, ⟨false, 43, 6, (F.mapF (fun _ c => F.shC b c) k out).map eCap⟩)]⟩)

noncomputable def prlSh (n : Nat) (b : Int) (out : List Cap) (k : Nat) : Bool := decide (n ≤ 500) && decide (k ≤ n) && decide (out.length = n)

noncomputable def lpSh : Nat × (St → T (Ex × St)) := (8, lpo [20, 19, 7, 1] [18000] stSh1 (fun a => prlSh a.1 a.2.1 a.2.2.1 a.2.2.2) fun a => outSh a.1 a.2.1 a.2.2.1 a.2.2.2)

noncomputable def enSh : Env := envH ty noG lks [oChC, oOut, oCpO, oCkd] [] [] [lpSh]

theorem enSh_ok : EnvOK Tryd.prog enSh := by
  refine envH_ok lks_ok ty_ok ?_ ?_
  · simp only [List.forall_mem_cons]
    exact ⟨okChC, okOut, okCpO, okCkd, by simp⟩
  · simp

theorem evShL (n : Nat) (b : Int) (out : List Cap) (k : Nat) : ((exec enSh (loopN Tryd.f30 0) (stSh n b out k)).bind (lessX ([20, 19, 7, 1], [18000]) ([7], [18000]) ([], []))).val =
  bif decide ((↑k : Int) < (↑n : Int)) then bif decide (k < List.length (Blk.mk false 43 6 (List.map eCap out)).rows) then Option.bind (unenc (List.map eCap) (List.map eCap
  out)) fun (z : List Cap) => bif decide (k < List.length z) then bif decide (k < List.length (Blk.mk false 43 6 (List.map eCap out)).rows) then Option.bind (unenc (List.map
  eCap) (List.map eCap out)) fun (z_1 : List Cap) => bif decide (k < List.length z_1) then bif decide (k < List.length (Blk.mk false 43 6 (List.set (List.map eCap out) k
  [(vI (IntKind.wrap IntKind.i64 ((List.getD z k (Cap.mk (0 : Int) (0 : Int) [] (0 : Int) false false)).fr + b))), (vI (List.getD z_1 k (Cap.mk (0 : Int) (0 : Int) [] (0 :
  Int) false false)).to), AV.sl (List.map eStr (List.getD z_1 k (Cap.mk (0 : Int) (0 : Int) [] (0 : Int) false false)).lines), (vI (List.getD z_1 k (Cap.mk (0 : Int) (0 :
  Int) [] (0 : Int) false false)).row), (vB (List.getD z_1 k (Cap.mk (0 : Int) (0 : Int) [] (0 : Int) false false)).bef), (vB (List.getD z_1 k (Cap.mk (0 : Int) (0 : Int) []
  (0 : Int) false false)).aft)])).rows) then Option.bind (unenc (List.map eCap) (List.set (List.map eCap out) k [(vI (IntKind.wrap IntKind.i64 ((List.getD z k (Cap.mk (0 :
  Int) (0 : Int) [] (0 : Int) false false)).fr + b))), (vI (List.getD z_1 k (Cap.mk (0 : Int) (0 : Int) [] (0 : Int) false false)).to), AV.sl (List.map eStr (List.getD z_1 k
  (Cap.mk (0 : Int) (0 : Int) [] (0 : Int) false false)).lines), (vI (List.getD z_1 k (Cap.mk (0 : Int) (0 : Int) [] (0 : Int) false false)).row), (vB (List.getD z_1 k
  (Cap.mk (0 : Int) (0 : Int) [] (0 : Int) false false)).bef), (vB (List.getD z_1 k (Cap.mk (0 : Int) (0 : Int) [] (0 : Int) false false)).aft)])) fun (z_2 : List Cap) =>
  bif decide (k < List.length z_2) then bif decide (k < List.length (Blk.mk false 43 6 (List.set (List.map eCap out) k [(vI (IntKind.wrap IntKind.i64 ((List.getD z k (Cap.mk
  (0 : Int) (0 : Int) [] (0 : Int) false false)).fr + b))), (vI (List.getD z_1 k (Cap.mk (0 : Int) (0 : Int) [] (0 : Int) false false)).to), AV.sl (List.map eStr (List.getD
  z_1 k (Cap.mk (0 : Int) (0 : Int) [] (0 : Int) false false)).lines), (vI (List.getD z_1 k (Cap.mk (0 : Int) (0 : Int) [] (0 : Int) false false)).row), (vB (List.getD z_1 k
  (Cap.mk (0 : Int) (0 : Int) [] (0 : Int) false false)).bef), (vB (List.getD z_1 k (Cap.mk (0 : Int) (0 : Int) [] (0 : Int) false false)).aft)])).rows) then Option.bind
  (unenc (List.map eCap) (List.set (List.map eCap out) k [(vI (IntKind.wrap IntKind.i64 ((List.getD z k (Cap.mk (0 : Int) (0 : Int) [] (0 : Int) false false)).fr + b))), (vI
  (List.getD z_1 k (Cap.mk (0 : Int) (0 : Int) [] (0 : Int) false false)).to), AV.sl (List.map eStr (List.getD z_1 k (Cap.mk (0 : Int) (0 : Int) [] (0 : Int) false
  false)).lines), (vI (List.getD z_1 k (Cap.mk (0 : Int) (0 : Int) [] (0 : Int) false false)).row), (vB (List.getD z_1 k (Cap.mk (0 : Int) (0 : Int) [] (0 : Int) false
  false)).bef), (vB (List.getD z_1 k (Cap.mk (0 : Int) (0 : Int) [] (0 : Int) false false)).aft)])) fun (z_3 : List Cap) => bif decide (k < List.length z_3) then some
  (Ex.normal, St.mk [(20, (vI (IntKind.wrap IntKind.i64 ((↑k : Int) + (1 : Int))))), (19, (vI (↑n : Int))), (7, .own 18000), (1, (vI b))] [(18000, Blk.mk false 43 6
  (List.set (List.set (List.map eCap out) k [(vI (IntKind.wrap IntKind.i64 ((List.getD z k (Cap.mk (0 : Int) (0 : Int) [] (0 : Int) false false)).fr + b))), (vI (List.getD
  z_1 k (Cap.mk (0 : Int) (0 : Int) [] (0 : Int) false false)).to), AV.sl (List.map eStr (List.getD z_1 k (Cap.mk (0 : Int) (0 : Int) [] (0 : Int) false false)).lines), (vI
  (List.getD z_1 k (Cap.mk (0 : Int) (0 : Int) [] (0 : Int) false false)).row), (vB (List.getD z_1 k (Cap.mk (0 : Int) (0 : Int) [] (0 : Int) false false)).bef), (vB
  (List.getD z_1 k (Cap.mk (0 : Int) (0 : Int) [] (0 : Int) false false)).aft)]) k [(vI (List.getD z_3 k (Cap.mk (0 : Int) (0 : Int) [] (0 : Int) false false)).fr), (vI
  (IntKind.wrap IntKind.i64 ((List.getD z_2 k (Cap.mk (0 : Int) (0 : Int) [] (0 : Int) false false)).to + b))), AV.sl (List.map eStr (List.getD z_3 k (Cap.mk (0 : Int) (0 :
  Int) [] (0 : Int) false false)).lines), (vI (List.getD z_3 k (Cap.mk (0 : Int) (0 : Int) [] (0 : Int) false false)).row), (vB (List.getD z_3 k (Cap.mk (0 : Int) (0 : Int)
  [] (0 : Int) false false)).bef), (vB (List.getD z_3 k (Cap.mk (0 : Int) (0 : Int) [] (0 : Int) false false)).aft)]))]) else none else none else none else none else none
  else none else none else none else some (Ex.exit (0 : Nat), St.mk [(7, .own 18000)] [(18000, Blk.mk false 43 6 (List.map eCap out))]) := by kernel_rfl

theorem lpSh_ok (n : Nat) (b : Int) (out : List Cap) (k : Nat) (hp : prlSh n b out k = true) : ∀ ex s', (outSh n b out k).val = some (ex, s') → LoopOK enSh (loopN Tryd.f30 0) (stSh n b out k) ex s' := by
  simp only [prlSh, Bool.and_eq_true, decide_eq_true_eq] at hp
  obtain ⟨⟨h1, h2⟩, h3⟩ := hp
  refine loop_map (m := n) (st := fun a k => stSh n b a k) (f := fun _ c => F.shC b c) (fin := fun a => (.exit 0, ⟨[(7, .own 18000)], [(18000, ⟨false, 43, 6, a.map eCap⟩)]⟩)) (I := fun _ _ => True) (n := ([20, 19, 7, 1], [18000])) (e := ([7], [18000])) (r := ([], [])) ?_ (fun _ => ⟨by simp, rfl⟩) (fun _ _ => rfl) ?_ out k h3 h2 trivial
  · intro a _
    rw [evShL]; simp
  · intro a k y hl _ hy
    have hlt := lt_at hy
    have hkn : k < n := by omega
    refine ⟨?_, trivial⟩
    rw [evShL]
    simp only [unChC, unOut, unCpO, unCkd, preChC1, preOut1, preCpO1, preCkd1, unstSh, unstSh0, prlSh, outSh, etaCap, etaMch, etaWrd, etaFnd, etaRatio, etaWay, Option.bind_some, List.length_map, unStrs, unInts, unBools, unCaps, uneL_eCaps, unMchs, unWrds, unFnds, unRatios, unWays, F.lt, F.le, cond_true, cond_false, Bool.and_true, Bool.true_and, cast_lt hkn, decide_eq_true hlt, next_at hkn (by omega : n ≤ 9223372036854775807), getD_at hy, stSh, setWCaps, F.shC, getD_set hlt, List.length_set, List.set_set]

theorem evSh (l : List Cap) (b : Int) : (runF enSh false Tryd.f30 [.sl (l.map eCap), vI b]).val =
  Option.bind (unenc encChC [AV.sl (List.map eCap l)]) fun (z : List Cap) => bif F.smC z then bif F.chkC z != (0 : Int) then some (AV.tup [AV.sl [], (vI (F.chkC z))], [])
  else Option.bind (unenc encOut [(vI b), (vI (-359999999 : Int)), (vI (359999999 : Int))]) fun (z : Int × Int × Int) => bif F.out z.fst z.snd.fst z.snd.snd then some
  (AV.tup [AV.sl [], (vI (1 : Int))], []) else Option.bind (unenc encCpO [AV.sl (List.map eCap l)]) fun (z : List Cap) => bif F.capSm z then Option.bind (unenc stSh1 (St.mk
  [(20, (vI (0 : Int))), (19, (vI (↑(List.length (List.map eCap z)) : Int))), (7, .own 18000), (1, (vI b))] [(18000, Blk.mk false 43 6 (List.map eCap z))])) fun (z : Nat ×
  Int × List Cap × Nat) => bif decide (z.fst ≤ (500 : Nat)) && decide (z.snd.snd.snd ≤ z.fst) && decide (List.length z.snd.snd.fst = z.fst) && true then Option.bind (unenc
  encCkd [AV.sl (List.map eCap (F.mapF (fun (x : Option Cap) (c : Cap) => F.shC z.snd.fst c) z.snd.snd.snd z.snd.snd.fst))]) fun (z : List Cap) => bif F.smC z then some
  (AV.tup [AV.sl (List.map eCap (F.fin z).fst), (vI (F.fin z).snd)], []) else none else none else none else none := by kernel_rfl

def encSh1 (l : List Cap) (b : Int) : List AV := [.sl (l.map eCap), vI b]

def encSh (a : (List Cap) × Int) : List AV := encSh1 a.1 a.2

theorem encSh_inj (a a' : (List Cap) × Int) (h : encSh a = encSh a') : a = a' := by
  simp only [encSh, encSh1] at h
  try simp [strs_inj, ints_inj, bools_inj, eCaps_inj, eCap_iff, eL_eCaps_inj, eMchs_inj, eMch_iff, eWrds_inj, eWrd_iff, eFnds_inj, eFnd_iff, eRatios_inj, eRatio_iff, eWays_inj, eWay_iff] at h
  grind

theorem unSh (l : List Cap) (b : Int) : unenc encSh ([AV.sl (List.map eCap l), (vI b)]) = some (l, b) := unenc_of encSh_inj (l, b) rfl

def resSh1 (l : List Cap) (b : Int) : AV × Heap := (.tup [.sl ((F.shift l b).1.map eCap), vI (F.shift l b).2], [])

def preSh1 (l : List Cap) (b : Int) : Bool := F.smC l

noncomputable def oSh : Orc := orc 30 false encSh (fun a => preSh1 a.1 a.2) fun a => resSh1 a.1 a.2

theorem okSh : OrcOK Tryd.prog noG oSh := by
  refine mk_ok Tryd.f30 (keep := false) (by kernel_rfl) (by kernel_rfl) enSh_ok mixed (one_loop (x0 := loopN Tryd.f30 0) (by kernel_rfl) (lpo_ok ?_)) (by first | exact fun _ _ => ⟨rfl, rfl⟩ | (intro h; cases h)) ?_
  · rintro ⟨n, b, out, k⟩ hp
    exact lpSh_ok n b out k hp
  rintro ⟨l, b⟩ hpre hok
  show (runF enSh false _ (encSh1 _ _)).val = some (resSh1 _ _)
  unfold encSh1 resSh1
  rw [evSh]
  simp only [preSh1] at hpre
  simp only [unChC, unOut, unCpO, unCkd, preChC1, preOut1, preCpO1, preCkd1, unstSh, unstSh0, prlSh, outSh, etaCap, etaMch, etaWrd, etaFnd, etaRatio, etaWay, Option.bind_some, List.length_map, unStrs, unInts, unBools, unCaps, uneL_eCaps, unMchs, unWrds, unFnds, unRatios, unWays, F.lt, F.le, cond_true, cond_false, Bool.and_true, Bool.true_and, hpre, F.shift]
  by_cases h0 : F.chkC l = 0
  case neg =>
    rw [bne1 h0]; rfl
  rw [bne0 h0]
  have c1 := F.chk_sm h0
  have c2 := F.chk_len h0
  have c3 : F.smC (l.map (F.shC b)) = true := by
    simp only [F.smC, List.all_map]; exact hpre
  simp only [cond_false]
  cases F.out b (-359999999) 359999999
  case true => rfl
  simp only [cond_false, c1, cond_true, Option.bind_some, decide_eq_true c2, Nat.zero_le, decide_true, Bool.and_true, F.mapF_zero, F.mapN_map, c3]

def stRSh (n : Nat) (b : Int) (out : List Cap) (k : Nat) : St := ⟨[(22, vI k), (21, vI n), (7, .own 20000), (1, vI b)], [(20000, ⟨false, 43, 6, out.map eCap⟩)]⟩

def stRSh1 (a : Nat × Int × (List Cap) × Nat) : St := stRSh a.1 a.2.1 a.2.2.1 a.2.2.2

theorem stRSh_inj (a a' : Nat × Int × (List Cap) × Nat) (h : stRSh1 a = stRSh1 a') : a = a' := by
  simp only [stRSh1, stRSh] at h
  try simp [strs_inj, ints_inj, bools_inj, eCaps_inj, eCap_iff, eL_eCaps_inj, eMchs_inj, eMch_iff, eWrds_inj, eWrd_iff, eFnds_inj, eFnd_iff, eRatios_inj, eRatio_iff, eWays_inj, eWay_iff] at h
  grind

theorem unstRSh (n : Nat) (b : Int) (out : List Cap) (k : Nat) : unenc stRSh1 (St.mk [(22, (vI (↑k : Int))), (21, (vI (↑n : Int))), (7, .own 20000), (1, (vI b))] [(20000, Blk.mk false 43 6 (List.map eCap out))]) = some (n, b, out, k) := unenc_of stRSh_inj (n, b, out, k) rfl

theorem unstRSh0 (n : Nat) (b : Int) (out : List Cap) : unenc stRSh1 (St.mk [(22, (vI (0 : Int))), (21, (vI (↑n : Int))), (7, .own 20000), (1, (vI b))] [(20000, Blk.mk false 43 6 (List.map eCap out))]) = some (n, b, out, 0) := unenc_of stRSh_inj (n, b, out, 0) rfl

def outRSh (n : Nat) (b : Int) (out : List Cap) (k : Nat) : T (Ex × St) := .ret (.exit 0, ⟨[(7, .own 20000)], [(20000, ⟨false, 43, 6, (F.mapF (fun _ c => F.shC b c) k out).map eCap⟩)]⟩)

noncomputable def prlRSh (n : Nat) (b : Int) (out : List Cap) (k : Nat) : Bool := decide (n ≤ 500) && decide (k ≤ n) && decide (out.length = n)

noncomputable def lpRSh : Nat × (St → T (Ex × St)) := (8, lpo [22, 21, 7, 1] [20000] stRSh1 (fun a => prlRSh a.1 a.2.1 a.2.2.1 a.2.2.2) fun a => outRSh a.1 a.2.1 a.2.2.1 a.2.2.2)

noncomputable def enRSh : Env := envH ty noG lks [oRhC, oWithin, oClK] [] [] [lpRSh]

theorem enRSh_ok : EnvOK Tryd.prog enRSh := by
  refine envH_ok lks_ok ty_ok ?_ ?_
  · simp only [List.forall_mem_cons]
    exact ⟨okRhC, okWithin, okClK, by simp⟩
  · simp

theorem evRShL (n : Nat) (b : Int) (out : List Cap) (k : Nat) : ((exec enRSh (loopN Tryd.f31 0) (stRSh n b out k)).bind (lessX ([22, 21, 7, 1], [20000]) ([7], [20000]) ([], []))).val =
  bif decide ((↑k : Int) < (↑n : Int)) then bif decide (k < List.length (Blk.mk false 43 6 (List.map eCap out)).rows) then Option.bind (unenc (List.map eCap) (List.map eCap
  out)) fun (z : List Cap) => bif decide (k < List.length z) then bif decide (k < List.length (Blk.mk false 43 6 (List.map eCap out)).rows) then Option.bind (unenc (List.map
  eCap) (List.map eCap out)) fun (z_1 : List Cap) => bif decide (k < List.length z_1) then bif decide (k < List.length (Blk.mk false 43 6 (List.set (List.map eCap out) k
  [(vI (IntKind.wrap IntKind.i64 ((List.getD z k (Cap.mk (0 : Int) (0 : Int) [] (0 : Int) false false)).fr + b))), (vI (List.getD z_1 k (Cap.mk (0 : Int) (0 : Int) [] (0 :
  Int) false false)).to), AV.sl (List.map eStr (List.getD z_1 k (Cap.mk (0 : Int) (0 : Int) [] (0 : Int) false false)).lines), (vI (List.getD z_1 k (Cap.mk (0 : Int) (0 :
  Int) [] (0 : Int) false false)).row), (vB (List.getD z_1 k (Cap.mk (0 : Int) (0 : Int) [] (0 : Int) false false)).bef), (vB (List.getD z_1 k (Cap.mk (0 : Int) (0 : Int) []
  (0 : Int) false false)).aft)])).rows) then Option.bind (unenc (List.map eCap) (List.set (List.map eCap out) k [(vI (IntKind.wrap IntKind.i64 ((List.getD z k (Cap.mk (0 :
  Int) (0 : Int) [] (0 : Int) false false)).fr + b))), (vI (List.getD z_1 k (Cap.mk (0 : Int) (0 : Int) [] (0 : Int) false false)).to), AV.sl (List.map eStr (List.getD z_1 k
  (Cap.mk (0 : Int) (0 : Int) [] (0 : Int) false false)).lines), (vI (List.getD z_1 k (Cap.mk (0 : Int) (0 : Int) [] (0 : Int) false false)).row), (vB (List.getD z_1 k
  (Cap.mk (0 : Int) (0 : Int) [] (0 : Int) false false)).bef), (vB (List.getD z_1 k (Cap.mk (0 : Int) (0 : Int) [] (0 : Int) false false)).aft)])) fun (z_2 : List Cap) =>
  bif decide (k < List.length z_2) then bif decide (k < List.length (Blk.mk false 43 6 (List.set (List.map eCap out) k [(vI (IntKind.wrap IntKind.i64 ((List.getD z k (Cap.mk
  (0 : Int) (0 : Int) [] (0 : Int) false false)).fr + b))), (vI (List.getD z_1 k (Cap.mk (0 : Int) (0 : Int) [] (0 : Int) false false)).to), AV.sl (List.map eStr (List.getD
  z_1 k (Cap.mk (0 : Int) (0 : Int) [] (0 : Int) false false)).lines), (vI (List.getD z_1 k (Cap.mk (0 : Int) (0 : Int) [] (0 : Int) false false)).row), (vB (List.getD z_1 k
  (Cap.mk (0 : Int) (0 : Int) [] (0 : Int) false false)).bef), (vB (List.getD z_1 k (Cap.mk (0 : Int) (0 : Int) [] (0 : Int) false false)).aft)])).rows) then Option.bind
  (unenc (List.map eCap) (List.set (List.map eCap out) k [(vI (IntKind.wrap IntKind.i64 ((List.getD z k (Cap.mk (0 : Int) (0 : Int) [] (0 : Int) false false)).fr + b))), (vI
  (List.getD z_1 k (Cap.mk (0 : Int) (0 : Int) [] (0 : Int) false false)).to), AV.sl (List.map eStr (List.getD z_1 k (Cap.mk (0 : Int) (0 : Int) [] (0 : Int) false
  false)).lines), (vI (List.getD z_1 k (Cap.mk (0 : Int) (0 : Int) [] (0 : Int) false false)).row), (vB (List.getD z_1 k (Cap.mk (0 : Int) (0 : Int) [] (0 : Int) false
  false)).bef), (vB (List.getD z_1 k (Cap.mk (0 : Int) (0 : Int) [] (0 : Int) false false)).aft)])) fun (z_3 : List Cap) => bif decide (k < List.length z_3) then some
  (Ex.normal, St.mk [(22, (vI (IntKind.wrap IntKind.i64 ((↑k : Int) + (1 : Int))))), (21, (vI (↑n : Int))), (7, .own 20000), (1, (vI b))] [(20000, Blk.mk false 43 6
  (List.set (List.set (List.map eCap out) k [(vI (IntKind.wrap IntKind.i64 ((List.getD z k (Cap.mk (0 : Int) (0 : Int) [] (0 : Int) false false)).fr + b))), (vI (List.getD
  z_1 k (Cap.mk (0 : Int) (0 : Int) [] (0 : Int) false false)).to), AV.sl (List.map eStr (List.getD z_1 k (Cap.mk (0 : Int) (0 : Int) [] (0 : Int) false false)).lines), (vI
  (List.getD z_1 k (Cap.mk (0 : Int) (0 : Int) [] (0 : Int) false false)).row), (vB (List.getD z_1 k (Cap.mk (0 : Int) (0 : Int) [] (0 : Int) false false)).bef), (vB
  (List.getD z_1 k (Cap.mk (0 : Int) (0 : Int) [] (0 : Int) false false)).aft)]) k [(vI (List.getD z_3 k (Cap.mk (0 : Int) (0 : Int) [] (0 : Int) false false)).fr), (vI
  (IntKind.wrap IntKind.i64 ((List.getD z_2 k (Cap.mk (0 : Int) (0 : Int) [] (0 : Int) false false)).to + b))), AV.sl (List.map eStr (List.getD z_3 k (Cap.mk (0 : Int) (0 :
  Int) [] (0 : Int) false false)).lines), (vI (List.getD z_3 k (Cap.mk (0 : Int) (0 : Int) [] (0 : Int) false false)).row), (vB (List.getD z_3 k (Cap.mk (0 : Int) (0 : Int)
  [] (0 : Int) false false)).bef), (vB (List.getD z_3 k (Cap.mk (0 : Int) (0 : Int) [] (0 : Int) false false)).aft)]))]) else none else none else none else none else none
  else none else none else none else some (Ex.exit (0 : Nat), St.mk [(7, .own 20000)] [(20000, Blk.mk false 43 6 (List.map eCap out))]) := by kernel_rfl

theorem lpRSh_ok (n : Nat) (b : Int) (out : List Cap) (k : Nat) (hp : prlRSh n b out k = true) : ∀ ex s', (outRSh n b out k).val = some (ex, s') → LoopOK enRSh (loopN Tryd.f31 0) (stRSh n b out k) ex s' := by
  simp only [prlRSh, Bool.and_eq_true, decide_eq_true_eq] at hp
  obtain ⟨⟨h1, h2⟩, h3⟩ := hp
  refine loop_map (m := n) (st := fun a k => stRSh n b a k) (f := fun _ c => F.shC b c) (fin := fun a => (.exit 0, ⟨[(7, .own 20000)], [(20000, ⟨false, 43, 6, a.map eCap⟩)]⟩)) (I := fun _ _ => True) (n := ([22, 21, 7, 1], [20000])) (e := ([7], [20000])) (r := ([], [])) ?_ (fun _ => ⟨by simp, rfl⟩) (fun _ _ => rfl) ?_ out k h3 h2 trivial
  · intro a _
    rw [evRShL]; simp
  · intro a k y hl _ hy
    have hlt := lt_at hy
    have hkn : k < n := by omega
    refine ⟨?_, trivial⟩
    rw [evRShL]
    simp only [unRhC, unWithin, unClK, preRhC1, preWithin1, preClK1, unstRSh, unstRSh0, prlRSh, outRSh, etaCap, etaMch, etaWrd, etaFnd, etaRatio, etaWay, Option.bind_some, List.length_map, unStrs, unInts, unBools, unCaps, uneL_eCaps, unMchs, unWrds, unFnds, unRatios, unWays, F.lt, F.le, cond_true, cond_false, Bool.and_true, Bool.true_and, cast_lt hkn, decide_eq_true hlt, next_at hkn (by omega : n ≤ 9223372036854775807), getD_at hy, stRSh, setWCaps, F.shC, getD_set hlt, List.length_set, List.set_set]

theorem evRSh (l : List Cap) (b : Int) : (runF enRSh false Tryd.f31 [.sl (l.map eCap), vI b]).val =
  Option.bind (unenc encRhC [AV.sl (List.map eCap l)]) fun (z : List Cap) => bif F.smC z then bif F.chkC z != (0 : Int) then some (AV.tup [AV.sl [], (vI (F.chkC z))], [])
  else Option.bind (unenc encWithin [(vI b), (vI (-359999999 : Int)), (vI (359999999 : Int))]) fun (z : Int × Int × Int) => bif !F.within z.fst z.snd.fst z.snd.snd then some
  (AV.tup [AV.sl [], (vI (1 : Int))], []) else Option.bind (unenc encClK [AV.sl (List.map eCap l)]) fun (z : List Cap) => bif decide (List.length z ≤ (500 : Nat)) then
  Option.bind (unenc stRSh1 (St.mk [(22, (vI (0 : Int))), (21, (vI (↑(List.length (List.map eCap z)) : Int))), (7, .own 20000), (1, (vI b))] [(20000, Blk.mk false 43 6
  (List.map eCap z))])) fun (z : Nat × Int × List Cap × Nat) => bif decide (z.fst ≤ (500 : Nat)) && decide (z.snd.snd.snd ≤ z.fst) && decide (List.length z.snd.snd.fst =
  z.fst) && true then Option.bind (unenc encRhC [AV.sl (List.map eCap (F.mapF (fun (x : Option Cap) (c : Cap) => F.shC z.snd.fst c) z.snd.snd.snd z.snd.snd.fst))]) fun (z_1
  : List Cap) => bif F.smC z_1 then bif F.chkC z_1 != (0 : Int) then some (AV.tup [AV.sl [], (vI (F.chkC z_1))], []) else some (AV.tup [AV.sl (List.map eCap (F.mapF (fun (x
  : Option Cap) (c : Cap) => F.shC z.snd.fst c) z.snd.snd.snd z.snd.snd.fst)), (vI (0 : Int))], []) else none else none else none else none := by kernel_rfl

def encRSh1 (l : List Cap) (b : Int) : List AV := [.sl (l.map eCap), vI b]

def encRSh (a : (List Cap) × Int) : List AV := encRSh1 a.1 a.2

theorem encRSh_inj (a a' : (List Cap) × Int) (h : encRSh a = encRSh a') : a = a' := by
  simp only [encRSh, encRSh1] at h
  try simp [strs_inj, ints_inj, bools_inj, eCaps_inj, eCap_iff, eL_eCaps_inj, eMchs_inj, eMch_iff, eWrds_inj, eWrd_iff, eFnds_inj, eFnd_iff, eRatios_inj, eRatio_iff, eWays_inj, eWay_iff] at h
  grind

theorem unRSh (l : List Cap) (b : Int) : unenc encRSh ([AV.sl (List.map eCap l), (vI b)]) = some (l, b) := unenc_of encRSh_inj (l, b) rfl

def resRSh1 (l : List Cap) (b : Int) : AV × Heap := (.tup [.sl ((F.shift l b).1.map eCap), vI (F.shift l b).2], [])

def preRSh1 (l : List Cap) (b : Int) : Bool := F.smC l

noncomputable def oRSh : Orc := orc 31 false encRSh (fun a => preRSh1 a.1 a.2) fun a => resRSh1 a.1 a.2

theorem okRSh : OrcOK Tryd.prog noG oRSh := by
  refine mk_ok Tryd.f31 (keep := false) (by kernel_rfl) (by kernel_rfl) enRSh_ok mixed (one_loop (x0 := loopN Tryd.f31 0) (by kernel_rfl) (lpo_ok ?_)) (by first | exact fun _ _ => ⟨rfl, rfl⟩ | (intro h; cases h)) ?_
  · rintro ⟨n, b, out, k⟩ hp
    exact lpRSh_ok n b out k hp
  rintro ⟨l, b⟩ hpre hok
  show (runF enRSh false _ (encRSh1 _ _)).val = some (resRSh1 _ _)
  unfold encRSh1 resRSh1
  rw [evRSh]
  simp only [preRSh1] at hpre
  simp only [unRhC, unWithin, unClK, preRhC1, preWithin1, preClK1, unstRSh, unstRSh0, prlRSh, outRSh, etaCap, etaMch, etaWrd, etaFnd, etaRatio, etaWay, Option.bind_some, List.length_map, unStrs, unInts, unBools, unCaps, uneL_eCaps, unMchs, unWrds, unFnds, unRatios, unWays, F.lt, F.le, cond_true, cond_false, Bool.and_true, Bool.true_and, hpre, F.shift, F.within_out, Bool.not_not]
  by_cases h0 : F.chkC l = 0
  case neg =>
    rw [bne1 h0]; rfl
  rw [bne0 h0]
  have c1 := F.chk_sm h0
  have c2 := F.chk_len h0
  have c3 : F.smC (l.map (F.shC b)) = true := by
    simp only [F.smC, List.all_map]; exact hpre
  simp only [cond_false]
  cases F.out b (-359999999) 359999999
  case true => rfl
  simp only [cond_false, c1, cond_true, Option.bind_some, decide_eq_true c2, Nat.zero_le, decide_true, Bool.and_true, F.mapF_zero, F.mapN_map, c3]
  simp only [F.fin]
  cases F.chkC (l.map (F.shC b)) != 0 <;> rfl

def stSt (n : Nat) (u : Mch) (v : Mch) (out : List Cap) (k : Nat) : St := ⟨[(61, vI k), (60, vI n), (11, .own 59000), (10, .fn 71 [.ptr 4 0 0, .ptr 5 0 0, .ptr 9 0 0])], [(59000, ⟨false, 43, 6, out.map eCap⟩), (9, ⟨true, 0, 0, [[vI (F.den u v)]]⟩), (5, ⟨true, 0, 0, [eMch v]⟩), (4, ⟨true, 0, 0, [eMch u]⟩)]⟩

def stSt1 (a : Nat × Mch × Mch × (List Cap) × Nat) : St := stSt a.1 a.2.1 a.2.2.1 a.2.2.2.1 a.2.2.2.2

theorem stSt_inj (a a' : Nat × Mch × Mch × (List Cap) × Nat) (h : stSt1 a = stSt1 a') : a = a' := by
  simp only [stSt1, stSt] at h
  try simp [strs_inj, ints_inj, bools_inj, eCaps_inj, eCap_iff, eL_eCaps_inj, eMchs_inj, eMch_iff, eWrds_inj, eWrd_iff, eFnds_inj, eFnd_iff, eRatios_inj, eRatio_iff, eWays_inj, eWay_iff] at h
  grind

theorem unstSt (n : Nat) (u : Mch) (v : Mch) (out : List Cap) (k : Nat) : unenc stSt1 (St.mk [(61, (vI (↑k : Int))), (60, (vI (↑n : Int))), (11, .own 59000), (10, AV.fn (71 : FuncId) [.ptr 4 0 0, .ptr 5 0 0, .ptr 9 0 0])] [(59000, Blk.mk false 43 6 (List.map
  eCap out)), (9, Blk.mk true 0 0 [[(vI (F.den u v))]]), (5, Blk.mk true 0 0 [[(vI v.was), (vI v.now)]]), (4, Blk.mk true 0 0 [[(vI u.was), (vI u.now)]])]) = some (n, u, v, out, k) := unenc_of stSt_inj (n, u, v, out, k) rfl

theorem unstSt0 (n : Nat) (u : Mch) (v : Mch) (out : List Cap) : unenc stSt1 (St.mk [(61, (vI (0 : Int))), (60, (vI (↑n : Int))), (11, .own 59000), (10, AV.fn (71 : FuncId) [.ptr 4 0 0, .ptr 5 0 0, .ptr 9 0 0])] [(59000, Blk.mk false 43 6 (List.map
  eCap out)), (9, Blk.mk true 0 0 [[(vI (F.den u v))]]), (5, Blk.mk true 0 0 [[(vI v.was), (vI v.now)]]), (4, Blk.mk true 0 0 [[(vI u.was), (vI u.now)]])]) = some (n, u, v, out, 0) := unenc_of stSt_inj (n, u, v, out, 0) rfl

def outSt (n : Nat) (u : Mch) (v : Mch) (out : List Cap) (k : Nat) : T (Ex × St) := .ret (.exit 1, ⟨[(11, .own 59000)], [(59000, ⟨false, 43, 6, (F.mapF (fun _ c => F.stC u v c) k out).map eCap⟩)]⟩)

noncomputable def prlSt (n : Nat) (u : Mch) (v : Mch) (out : List Cap) (k : Nat) : Bool := decide (n ≤ 500) && decide (k ≤ n) && decide (out.length = n) && F.mOK u v && F.tmL (out.drop k)

noncomputable def lpSt : Nat × (St → T (Ex × St)) := (12, lpo [61, 60, 11, 10] [59000, 9, 5, 4] stSt1 (fun a => prlSt a.1 a.2.1 a.2.2.1 a.2.2.2.1 a.2.2.2.2) fun a => outSt a.1 a.2.1 a.2.2.1 a.2.2.2.1 a.2.2.2.2)

noncomputable def enSt : Env := envH ty noG lks [oChC, oNoT, oCpO, oCkd, oCl] [] [] [lpSt]

theorem enSt_ok : EnvOK Tryd.prog enSt := by
  refine envH_ok lks_ok ty_ok ?_ ?_
  · simp only [List.forall_mem_cons]
    exact ⟨okChC, okNoT, okCpO, okCkd, okCl, by simp⟩
  · simp

theorem evStL (n : Nat) (u : Mch) (v : Mch) (out : List Cap) (k : Nat) : ((exec enSt (loopN Tryd.f32 0) (stSt n u v out k)).bind (lessX ([61, 60, 11, 10], [59000, 9, 5, 4]) ([11], [59000]) ([], []))).val =
  bif decide ((↑k : Int) < (↑n : Int)) then bif decide (k < List.length (Blk.mk false 43 6 (List.map eCap out)).rows) then Option.bind (unenc (List.map eCap) (List.map eCap
  out)) fun (z : List Cap) => bif decide (k < List.length z) then Option.bind (unenc encCl [(vI (List.getD z k (Cap.mk (0 : Int) (0 : Int) [] (0 : Int) false false)).fr),
  AV.pel [(vI u.was), (vI u.now)] (0 : Nat), AV.pel [(vI v.was), (vI v.now)] (0 : Nat), AV.pel [(vI (F.den u v))] (0 : Nat)]) fun (z : Int × Mch × Mch × Int) => bif F.mOK
  z.snd.fst z.snd.snd.fst && F.tm z.fst && z.snd.snd.snd == F.den z.snd.fst z.snd.snd.fst then bif decide (k < List.length (Blk.mk false 43 6 (List.map eCap out)).rows) then
  Option.bind (unenc (List.map eCap) (List.map eCap out)) fun (z_1 : List Cap) => bif decide (k < List.length z_1) then Option.bind (unenc encCl [(vI (List.getD z_1 k
  (Cap.mk (0 : Int) (0 : Int) [] (0 : Int) false false)).to), AV.pel [(vI u.was), (vI u.now)] (0 : Nat), AV.pel [(vI v.was), (vI v.now)] (0 : Nat), AV.pel [(vI (F.den u v))]
  (0 : Nat)]) fun (z_2 : Int × Mch × Mch × Int) => bif F.mOK z_2.snd.fst z_2.snd.snd.fst && F.tm z_2.fst && z_2.snd.snd.snd == F.den z_2.snd.fst z_2.snd.snd.fst then bif
  decide (k < List.length (Blk.mk false 43 6 (List.map eCap out)).rows) then Option.bind (unenc (List.map eCap) (List.map eCap out)) fun (z_3 : List Cap) => bif decide (k <
  List.length z_3) then bif decide (k < List.length (Blk.mk false 43 6 (List.set (List.map eCap out) k [(vI (F.strT z.snd.fst z.snd.snd.fst z.fst)), (vI (List.getD z_3 k
  (Cap.mk (0 : Int) (0 : Int) [] (0 : Int) false false)).to), AV.sl (List.map eStr (List.getD z_3 k (Cap.mk (0 : Int) (0 : Int) [] (0 : Int) false false)).lines), (vI
  (List.getD z_3 k (Cap.mk (0 : Int) (0 : Int) [] (0 : Int) false false)).row), (vB (List.getD z_3 k (Cap.mk (0 : Int) (0 : Int) [] (0 : Int) false false)).bef), (vB
  (List.getD z_3 k (Cap.mk (0 : Int) (0 : Int) [] (0 : Int) false false)).aft)])).rows) then Option.bind (unenc (List.map eCap) (List.set (List.map eCap out) k [(vI (F.strT
  z.snd.fst z.snd.snd.fst z.fst)), (vI (List.getD z_3 k (Cap.mk (0 : Int) (0 : Int) [] (0 : Int) false false)).to), AV.sl (List.map eStr (List.getD z_3 k (Cap.mk (0 : Int)
  (0 : Int) [] (0 : Int) false false)).lines), (vI (List.getD z_3 k (Cap.mk (0 : Int) (0 : Int) [] (0 : Int) false false)).row), (vB (List.getD z_3 k (Cap.mk (0 : Int) (0 :
  Int) [] (0 : Int) false false)).bef), (vB (List.getD z_3 k (Cap.mk (0 : Int) (0 : Int) [] (0 : Int) false false)).aft)])) fun (z_4 : List Cap) => bif decide (k <
  List.length z_4) then some (Ex.normal, St.mk [(61, (vI (IntKind.wrap IntKind.i64 ((↑k : Int) + (1 : Int))))), (60, (vI (↑n : Int))), (11, .own 59000), (10, AV.fn (71 :
  FuncId) [.ptr 4 0 0, .ptr 5 0 0, .ptr 9 0 0])] [(59000, Blk.mk false 43 6 (List.set (List.set (List.map eCap out) k [(vI (F.strT z.snd.fst z.snd.snd.fst z.fst)), (vI
  (List.getD z_3 k (Cap.mk (0 : Int) (0 : Int) [] (0 : Int) false false)).to), AV.sl (List.map eStr (List.getD z_3 k (Cap.mk (0 : Int) (0 : Int) [] (0 : Int) false
  false)).lines), (vI (List.getD z_3 k (Cap.mk (0 : Int) (0 : Int) [] (0 : Int) false false)).row), (vB (List.getD z_3 k (Cap.mk (0 : Int) (0 : Int) [] (0 : Int) false
  false)).bef), (vB (List.getD z_3 k (Cap.mk (0 : Int) (0 : Int) [] (0 : Int) false false)).aft)]) k [(vI (List.getD z_4 k (Cap.mk (0 : Int) (0 : Int) [] (0 : Int) false
  false)).fr), (vI (F.strT z_2.snd.fst z_2.snd.snd.fst z_2.fst)), AV.sl (List.map eStr (List.getD z_4 k (Cap.mk (0 : Int) (0 : Int) [] (0 : Int) false false)).lines), (vI
  (List.getD z_4 k (Cap.mk (0 : Int) (0 : Int) [] (0 : Int) false false)).row), (vB (List.getD z_4 k (Cap.mk (0 : Int) (0 : Int) [] (0 : Int) false false)).bef), (vB
  (List.getD z_4 k (Cap.mk (0 : Int) (0 : Int) [] (0 : Int) false false)).aft)])), (9, Blk.mk true 0 0 [[(vI (F.den u v))]]), (5, Blk.mk true 0 0 [[(vI v.was), (vI
  v.now)]]), (4, Blk.mk true 0 0 [[(vI u.was), (vI u.now)]])]) else none else none else none else none else none else none else none else none else none else none else some
  (Ex.exit (1 : Nat), St.mk [(11, .own 59000)] [(59000, Blk.mk false 43 6 (List.map eCap out))]) := by kernel_rfl

theorem lpSt_ok (n : Nat) (u : Mch) (v : Mch) (out : List Cap) (k : Nat) (hp : prlSt n u v out k = true) : ∀ ex s', (outSt n u v out k).val = some (ex, s') → LoopOK enSt (loopN Tryd.f32 0) (stSt n u v out k) ex s' := by
  simp only [prlSt, Bool.and_eq_true, decide_eq_true_eq] at hp
  obtain ⟨⟨⟨⟨h1, h2⟩, h3⟩, h4⟩, h5⟩ := hp
  refine loop_map (m := n) (st := fun a k => stSt n u v a k) (f := fun _ c => F.stC u v c) (fin := fun a => (.exit 1, ⟨[(11, .own 59000)], [(59000, ⟨false, 43, 6, a.map eCap⟩)]⟩)) (I := fun a k => F.tmL (a.drop k) = true) (n := ([61, 60, 11, 10], [59000, 9, 5, 4])) (e := ([11], [59000])) (r := ([], [])) ?_ (fun _ => ⟨by simp, rfl⟩) (fun _ _ => rfl) ?_ out k h3 h2 h5
  · intro a _
    rw [evStL]; simp
  · intro a k y hl hI hy
    have hlt := lt_at hy
    have hkn : k < n := by omega
    obtain ⟨t1, t2, t3⟩ := F.tmL_at hI hy
    have hden : (F.den u v == F.den u v) = true := by simp
    refine ⟨?_, by rw [List.drop_set_of_lt (Nat.lt_succ_self _)]; exact t3⟩
    rw [evStL]
    simp only [unChC, unNoT, unCpO, unCkd, unCl, unClw, preChC1, preNoT1, preCpO1, preCkd1, preCl1, unstSt, unstSt0, prlSt, outSt, etaCap, etaMch, etaWrd, etaFnd, etaRatio, etaWay, Option.bind_some, List.length_map, unStrs, unInts, unBools, unCaps, uneL_eCaps, unMchs, unWrds, unFnds, unRatios, unWays, F.lt, F.le, cond_true, cond_false, Bool.and_true, Bool.true_and, cast_lt hkn, decide_eq_true hlt, next_at hkn (by omega : n ≤ 9223372036854775807), getD_at hy, stSt, setWCaps, F.stC, getD_set hlt, List.length_set, List.set_set, h4, t1, t2, hden]
    rfl

theorem evSt (l : List Cap) (u : Mch) (v : Mch) : (runF enSt false Tryd.f32 [.sl (l.map eCap), .agg (eMch u), .agg (eMch v)]).val =
  Option.bind (unenc encChC [AV.sl (List.map eCap l)]) fun (z : List Cap) => bif F.smC z then bif F.chkC z != (0 : Int) then some (AV.tup [AV.sl [], (vI (F.chkC z))], [])
  else Option.bind (unenc encNoT [(vI u.was)]) fun (z : Int) => bif !F.noTime z then Option.bind (unenc encNoT [(vI u.now)]) fun (z_1 : Int) => bif !bif F.noTime z then true
  else F.noTime z_1 then Option.bind (unenc encNoT [(vI v.was)]) fun (z_2 : Int) => bif !bif bif F.noTime z then true else F.noTime z_1 then true else F.noTime z_2 then
  Option.bind (unenc encNoT [(vI v.now)]) fun (z_3 : Int) => bif bif bif bif F.noTime z then true else F.noTime z_1 then true else F.noTime z_2 then true else F.noTime z_3
  then some (AV.tup [AV.sl [], (vI (1 : Int))], []) else bif bif decide (v.was ≤ u.was) then true else decide (v.now ≤ u.now) then some (AV.tup [AV.sl [], (vI (8 : Int))],
  []) else Option.bind (unenc encCpO [AV.sl (List.map eCap l)]) fun (z : List Cap) => bif F.capSm z then Option.bind (unenc stSt1 (St.mk [(61, (vI (0 : Int))), (60, (vI
  (↑(List.length (List.map eCap z)) : Int))), (11, .own 59000), (10, AV.fn (71 : Nat) [.ptr 4 0 0, .ptr 5 0 0, .ptr 9 0 0])] [(59000, Blk.mk false 43 6 (List.map eCap z)),
  (9, Blk.mk true 0 0 [[(vI (IntKind.wrap IntKind.i64 ((2 : Int) * IntKind.wrap IntKind.i64 (v.was - u.was))))]]), (5, Blk.mk true 0 0 [[(vI v.was), (vI v.now)]]), (4,
  Blk.mk true 0 0 [[(vI u.was), (vI u.now)]])])) fun (z : Nat × Mch × Mch × List Cap × Nat) => bif decide (z.fst ≤ (500 : Nat)) && decide (z.snd.snd.snd.snd ≤ z.fst) &&
  decide (List.length z.snd.snd.snd.fst = z.fst) && F.mOK z.snd.fst z.snd.snd.fst && F.tmL (List.drop z.snd.snd.snd.snd z.snd.snd.snd.fst) && true then Option.bind (unenc
  encCkd [AV.sl (List.map eCap (F.mapF (fun (x : Option Cap) (c : Cap) => F.stC z.snd.fst z.snd.snd.fst c) z.snd.snd.snd.snd z.snd.snd.snd.fst))]) fun (z : List Cap) => bif
  F.smC z then some (AV.tup [AV.sl (List.map eCap (F.fin z).fst), (vI (F.fin z).snd)], []) else none else none else none else some (AV.tup [AV.sl [], (vI (1 : Int))], [])
  else some (AV.tup [AV.sl [], (vI (1 : Int))], []) else some (AV.tup [AV.sl [], (vI (1 : Int))], []) else none := by kernel_rfl

def encSt1 (l : List Cap) (u : Mch) (v : Mch) : List AV := [.sl (l.map eCap), .agg (eMch u), .agg (eMch v)]

def encSt (a : (List Cap) × Mch × Mch) : List AV := encSt1 a.1 a.2.1 a.2.2

theorem encSt_inj (a a' : (List Cap) × Mch × Mch) (h : encSt a = encSt a') : a = a' := by
  simp only [encSt, encSt1] at h
  try simp [strs_inj, ints_inj, bools_inj, eCaps_inj, eCap_iff, eL_eCaps_inj, eMchs_inj, eMch_iff, eWrds_inj, eWrd_iff, eFnds_inj, eFnd_iff, eRatios_inj, eRatio_iff, eWays_inj, eWay_iff] at h
  grind

theorem unSt (l : List Cap) (u : Mch) (v : Mch) : unenc encSt ([AV.sl (List.map eCap l), AV.agg [(vI u.was), (vI u.now)], AV.agg [(vI v.was), (vI v.now)]]) = some (l, u, v) := unenc_of encSt_inj (l, u, v) rfl

theorem unStw (l : List Cap) (u_was : Int) (u_now : Int) (v_was : Int) (v_now : Int) : unenc encSt ([AV.sl (List.map eCap l), AV.agg [(vI u_was), (vI u_now)], AV.agg [(vI v_was), (vI v_now)]]) = some (l, (Mch.mk u_was u_now), (Mch.mk v_was v_now)) := unenc_of encSt_inj (l, (Mch.mk u_was u_now), (Mch.mk v_was v_now)) rfl

def resSt1 (l : List Cap) (u : Mch) (v : Mch) : AV × Heap := (.tup [.sl ((F.stretch l u v).1.map eCap), vI (F.stretch l u v).2], [])

def preSt1 (l : List Cap) (u : Mch) (v : Mch) : Bool := F.smC l

noncomputable def oSt : Orc := orc 32 false encSt (fun a => preSt1 a.1 a.2.1 a.2.2) fun a => resSt1 a.1 a.2.1 a.2.2

theorem okSt : OrcOK Tryd.prog noG oSt := by
  refine mk_ok Tryd.f32 (keep := false) (by kernel_rfl) (by kernel_rfl) enSt_ok mixed (one_loop (x0 := loopN Tryd.f32 0) (by kernel_rfl) (lpo_ok ?_)) (by first | exact fun _ _ => ⟨rfl, rfl⟩ | (intro h; cases h)) ?_
  · rintro ⟨n, u, v, out, k⟩ hp
    exact lpSt_ok n u v out k hp
  rintro ⟨l, u, v⟩ hpre hok
  show (runF enSt false _ (encSt1 _ _ _)).val = some (resSt1 _ _ _)
  unfold encSt1 resSt1
  rw [evSt]
  simp only [preSt1] at hpre
  simp only [unChC, unNoT, unCpO, unCkd, unCl, unClw, preChC1, preNoT1, preCpO1, preCkd1, preCl1, unstSt, unstSt0, prlSt, outSt, etaCap, etaMch, etaWrd, etaFnd, etaRatio, etaWay, Option.bind_some, List.length_map, unStrs, unInts, unBools, unCaps, uneL_eCaps, unMchs, unWrds, unFnds, unRatios, unWays, F.lt, F.le, cond_true, cond_false, Bool.and_true, Bool.true_and, hpre, F.stretch]
  by_cases h0 : F.chkC l = 0
  case neg =>
    rw [bne1 h0]; rfl
  rw [bne0 h0]
  have c1 := F.chk_sm h0
  have c2 := F.chk_len h0
  have c3 : F.smC (l.map (F.stC u v)) = true := by
    simp only [F.smC, List.all_map]; exact hpre
  have e1 : eMch u = [vI u.was, vI u.now] := rfl
  simp only [cond_false, F.mTm]
  cases h1 : F.noTime u.was
  case true => rfl
  cases h2 : F.noTime u.now
  case true => rfl
  cases h3 : F.noTime v.was
  case true => rfl
  cases h4 : F.noTime v.now
  case true => rfl
  have c4 : F.tmL (l.drop 0) = true := F.chk_tm h0
  cases h5 : decide (v.was ≤ u.was)
  case true => rfl
  cases h6 : decide (v.now ≤ u.now)
  case true => rfl
  have h5 := of_decide_eq_false h5
  have h6 := of_decide_eq_false h6
  have c5 : F.mOK u v = true := by
    simp only [F.mOK, F.tm, h1, h2, h3, h4, F.lt, decide_eq_true (show u.was < v.was by omega), decide_eq_true (show u.now < v.now by omega)]; rfl
  have t1 := F.tm_iff.1 (show F.tm u.was = true by unfold F.tm; rw [h1]; rfl)
  have t2 := F.tm_iff.1 (show F.tm v.was = true by unfold F.tm; rw [h3]; rfl)
  have w1 : IntKind.i64.wrap (v.was - u.was) = v.was - u.was := wrap_id (by omega) (by omega)
  have w2 : IntKind.i64.wrap (2 * (v.was - u.was)) = F.den u v := wrap_id (by omega) (by omega)
  rw [w1, w2]
  simp only [Bool.not_false, cond_true, cond_false, c1, unstSt0, Option.bind_some, decide_eq_true c2, Nat.zero_le, decide_true, Bool.and_true, Bool.and_self, c5, c4, F.mapF_zero, F.mapN_map, c3, Bool.or_false, Bool.or_self]

def stRSt (n : Nat) (u : Mch) (v : Mch) (l : List Cap) (out : List Cap) (k : Nat) : St := ⟨[(55, vI k), (54, vI n), (9, .own 53000), (5, .ptr 5 0 0), (4, .ptr 4 0 0), (0, .sl (l.map eCap))], [(53000, ⟨false, 43, 6, out.map eCap⟩), (5, ⟨true, 0, 0, [eMch v]⟩), (4, ⟨true, 0, 0, [eMch u]⟩)]⟩

def stRSt1 (a : Nat × Mch × Mch × (List Cap) × (List Cap) × Nat) : St := stRSt a.1 a.2.1 a.2.2.1 a.2.2.2.1 a.2.2.2.2.1 a.2.2.2.2.2

theorem stRSt_inj (a a' : Nat × Mch × Mch × (List Cap) × (List Cap) × Nat) (h : stRSt1 a = stRSt1 a') : a = a' := by
  simp only [stRSt1, stRSt] at h
  try simp [strs_inj, ints_inj, bools_inj, eCaps_inj, eCap_iff, eL_eCaps_inj, eMchs_inj, eMch_iff, eWrds_inj, eWrd_iff, eFnds_inj, eFnd_iff, eRatios_inj, eRatio_iff, eWays_inj, eWay_iff] at h
  grind

theorem unstRSt (n : Nat) (u : Mch) (v : Mch) (l : List Cap) (out : List Cap) (k : Nat) : unenc stRSt1 (St.mk [(55, (vI (↑k : Int))), (54, (vI (↑n : Int))), (9, .own 53000), (5, .ptr 5 0 0), (4, .ptr 4 0 0), (0, AV.sl (List.map eCap l))] [(53000, Blk.mk false 43 6 (List.map
  eCap out)), (5, Blk.mk true 0 0 [[(vI v.was), (vI v.now)]]), (4, Blk.mk true 0 0 [[(vI u.was), (vI u.now)]])]) = some (n, u, v, l, out, k) := unenc_of stRSt_inj (n, u, v, l, out, k) rfl

theorem unstRSt0 (n : Nat) (u : Mch) (v : Mch) (l : List Cap) (out : List Cap) : unenc stRSt1 (St.mk [(55, (vI (0 : Int))), (54, (vI (↑n : Int))), (9, .own 53000), (5, .ptr 5 0 0), (4, .ptr 4 0 0), (0, AV.sl (List.map eCap l))] [(53000, Blk.mk false 43 6 (List.map
  eCap out)), (5, Blk.mk true 0 0 [[(vI v.was), (vI v.now)]]), (4, Blk.mk true 0 0 [[(vI u.was), (vI u.now)]])]) = some (n, u, v, l, out, 0) := unenc_of stRSt_inj (n, u, v, l, out, 0) rfl

def outRSt (n : Nat) (u : Mch) (v : Mch) (l : List Cap) (out : List Cap) (k : Nat) : T (Ex × St) := .ret (.exit 0, ⟨[(9, .own 53000)], [(53000, ⟨false, 43, 6, (F.mapF (fun _ c => F.stC u v c) k out).map eCap⟩)]⟩)

noncomputable def prlRSt (n : Nat) (u : Mch) (v : Mch) (l : List Cap) (out : List Cap) (k : Nat) : Bool := decide (n ≤ 500) && decide (k ≤ n) && decide (out.length = n) && F.mOK u v && F.tmL (out.drop k) && F.eqd out l k

noncomputable def lpRSt : Nat × (St → T (Ex × St)) := (10, lpo [55, 54, 9, 5, 4, 0] [53000, 5, 4] stRSt1 (fun a => prlRSt a.1 a.2.1 a.2.2.1 a.2.2.2.1 a.2.2.2.2.1 a.2.2.2.2.2) fun a => outRSt a.1 a.2.1 a.2.2.1 a.2.2.2.1 a.2.2.2.2.1 a.2.2.2.2.2)

noncomputable def enRSt : Env := envH ty noG lks [oRhC, oIsTm, oClK, oSd] [] [] [lpRSt]

theorem enRSt_ok : EnvOK Tryd.prog enRSt := by
  refine envH_ok lks_ok ty_ok ?_ ?_
  · simp only [List.forall_mem_cons]
    exact ⟨okRhC, okIsTm, okClK, okSd, by simp⟩
  · simp

theorem evRStL (n : Nat) (u : Mch) (v : Mch) (l : List Cap) (out : List Cap) (k : Nat) : ((exec enRSt (loopN Tryd.f33 0) (stRSt n u v l out k)).bind (lessX ([55, 54, 9, 5, 4, 0], [53000, 5, 4]) ([9], [53000]) ([], []))).val =
  bif decide ((↑k : Int) < (↑n : Int)) then Option.bind (unenc (List.map eCap) (List.map eCap l)) fun (z : List Cap) => bif decide (k < List.length z) then Option.bind
  (unenc encSd [(vI (List.getD z k (Cap.mk (0 : Int) (0 : Int) [] (0 : Int) false false)).fr), AV.agg [(vI u.was), (vI u.now)], AV.agg [(vI v.was), (vI v.now)]]) fun (z :
  Int × Mch × Mch) => bif F.mOK z.snd.fst z.snd.snd && F.tm z.fst then Option.bind (unenc (List.map eCap) (List.map eCap l)) fun (z_1 : List Cap) => bif decide (k <
  List.length z_1) then Option.bind (unenc encSd [(vI (List.getD z_1 k (Cap.mk (0 : Int) (0 : Int) [] (0 : Int) false false)).to), AV.agg [(vI u.was), (vI u.now)], AV.agg
  [(vI v.was), (vI v.now)]]) fun (z_2 : Int × Mch × Mch) => bif F.mOK z_2.snd.fst z_2.snd.snd && F.tm z_2.fst then bif decide (k < List.length (Blk.mk false 43 6 (List.map
  eCap out)).rows) then Option.bind (unenc (List.map eCap) (List.map eCap out)) fun (z_3 : List Cap) => bif decide (k < List.length z_3) then bif decide (k < List.length
  (Blk.mk false 43 6 (List.set (List.map eCap out) k [(vI (F.strT z.snd.fst z.snd.snd z.fst)), (vI (List.getD z_3 k (Cap.mk (0 : Int) (0 : Int) [] (0 : Int) false
  false)).to), AV.sl (List.map eStr (List.getD z_3 k (Cap.mk (0 : Int) (0 : Int) [] (0 : Int) false false)).lines), (vI (List.getD z_3 k (Cap.mk (0 : Int) (0 : Int) [] (0 :
  Int) false false)).row), (vB (List.getD z_3 k (Cap.mk (0 : Int) (0 : Int) [] (0 : Int) false false)).bef), (vB (List.getD z_3 k (Cap.mk (0 : Int) (0 : Int) [] (0 : Int)
  false false)).aft)])).rows) then Option.bind (unenc (List.map eCap) (List.set (List.map eCap out) k [(vI (F.strT z.snd.fst z.snd.snd z.fst)), (vI (List.getD z_3 k (Cap.mk
  (0 : Int) (0 : Int) [] (0 : Int) false false)).to), AV.sl (List.map eStr (List.getD z_3 k (Cap.mk (0 : Int) (0 : Int) [] (0 : Int) false false)).lines), (vI (List.getD z_3
  k (Cap.mk (0 : Int) (0 : Int) [] (0 : Int) false false)).row), (vB (List.getD z_3 k (Cap.mk (0 : Int) (0 : Int) [] (0 : Int) false false)).bef), (vB (List.getD z_3 k
  (Cap.mk (0 : Int) (0 : Int) [] (0 : Int) false false)).aft)])) fun (z_4 : List Cap) => bif decide (k < List.length z_4) then some (Ex.normal, St.mk [(55, (vI (IntKind.wrap
  IntKind.i64 ((↑k : Int) + (1 : Int))))), (54, (vI (↑n : Int))), (9, .own 53000), (5, .ptr 5 0 0), (4, .ptr 4 0 0), (0, AV.sl (List.map eCap l))] [(53000, Blk.mk false 43 6
  (List.set (List.set (List.map eCap out) k [(vI (F.strT z.snd.fst z.snd.snd z.fst)), (vI (List.getD z_3 k (Cap.mk (0 : Int) (0 : Int) [] (0 : Int) false false)).to), AV.sl
  (List.map eStr (List.getD z_3 k (Cap.mk (0 : Int) (0 : Int) [] (0 : Int) false false)).lines), (vI (List.getD z_3 k (Cap.mk (0 : Int) (0 : Int) [] (0 : Int) false
  false)).row), (vB (List.getD z_3 k (Cap.mk (0 : Int) (0 : Int) [] (0 : Int) false false)).bef), (vB (List.getD z_3 k (Cap.mk (0 : Int) (0 : Int) [] (0 : Int) false
  false)).aft)]) k [(vI (List.getD z_4 k (Cap.mk (0 : Int) (0 : Int) [] (0 : Int) false false)).fr), (vI (F.strT z_2.snd.fst z_2.snd.snd z_2.fst)), AV.sl (List.map eStr
  (List.getD z_4 k (Cap.mk (0 : Int) (0 : Int) [] (0 : Int) false false)).lines), (vI (List.getD z_4 k (Cap.mk (0 : Int) (0 : Int) [] (0 : Int) false false)).row), (vB
  (List.getD z_4 k (Cap.mk (0 : Int) (0 : Int) [] (0 : Int) false false)).bef), (vB (List.getD z_4 k (Cap.mk (0 : Int) (0 : Int) [] (0 : Int) false false)).aft)])), (5,
  Blk.mk true 0 0 [[(vI v.was), (vI v.now)]]), (4, Blk.mk true 0 0 [[(vI u.was), (vI u.now)]])]) else none else none else none else none else none else none else none else
  none else some (Ex.exit (0 : Nat), St.mk [(9, .own 53000)] [(53000, Blk.mk false 43 6 (List.map eCap out))]) := by kernel_rfl

theorem lpRSt_ok (n : Nat) (u : Mch) (v : Mch) (l : List Cap) (out : List Cap) (k : Nat) (hp : prlRSt n u v l out k = true) : ∀ ex s', (outRSt n u v l out k).val = some (ex, s') → LoopOK enRSt (loopN Tryd.f33 0) (stRSt n u v l out k) ex s' := by
  simp only [prlRSt, Bool.and_eq_true, decide_eq_true_eq] at hp
  obtain ⟨⟨⟨⟨⟨h1, h2⟩, h3⟩, h4⟩, h5⟩, h6⟩ := hp
  refine loop_map (m := n) (st := fun a k => stRSt n u v l a k) (f := fun _ c => F.stC u v c) (fin := fun a => (.exit 0, ⟨[(9, .own 53000)], [(53000, ⟨false, 43, 6, a.map eCap⟩)]⟩)) (I := fun a k => F.tmL (a.drop k) = true ∧ F.eqd a l k = true) (n := ([55, 54, 9, 5, 4, 0], [53000, 5, 4])) (e := ([9], [53000])) (r := ([], [])) ?_ (fun _ => ⟨by simp, rfl⟩) (fun _ _ => rfl) ?_ out k h3 h2 ⟨h5, h6⟩
  · intro a _
    rw [evRStL]; simp
  · intro a k y hl hI hy
    have hlt := lt_at hy
    have hkn : k < n := by omega
    obtain ⟨t1, t2, t3⟩ := F.tmL_at hI.1 hy
    obtain ⟨g1, g2⟩ := F.eqd_at hI.2 hy
    have hll := lt_at g1
    refine ⟨?_, by rw [List.drop_set_of_lt (Nat.lt_succ_self _)]; exact t3, g2 _⟩
    rw [evRStL]
    simp only [unRhC, unIsTm, unClK, unSd, unSdw, preRhC1, preIsTm1, preClK1, preSd1, unstRSt, unstRSt0, prlRSt, outRSt, etaCap, etaMch, etaWrd, etaFnd, etaRatio, etaWay, Option.bind_some, List.length_map, unStrs, unInts, unBools, unCaps, uneL_eCaps, unMchs, unWrds, unFnds, unRatios, unWays, F.lt, F.le, cond_true, cond_false, Bool.and_true, Bool.true_and, cast_lt hkn, decide_eq_true hlt, decide_eq_true hll, next_at hkn (by omega : n ≤ 9223372036854775807), getD_at hy, getD_at g1, stRSt, setWCaps, F.stC, getD_set hlt, List.length_set, List.set_set, h4, t1, t2]
    rfl

theorem evRSt (l : List Cap) (u : Mch) (v : Mch) : (runF enRSt false Tryd.f33 [.sl (l.map eCap), .agg (eMch u), .agg (eMch v)]).val =
  Option.bind (unenc encRhC [AV.sl (List.map eCap l)]) fun (z : List Cap) => bif F.smC z then bif F.chkC z != (0 : Int) then some (AV.tup [AV.sl [], (vI (F.chkC z))], [])
  else Option.bind (unenc encIsTm [(vI u.was)]) fun (z : Int) => bif !!!F.noTime z then Option.bind (unenc encIsTm [(vI u.now)]) fun (z_1 : Int) => bif !bif !!F.noTime z
  then true else !!F.noTime z_1 then Option.bind (unenc encIsTm [(vI v.was)]) fun (z_2 : Int) => bif !bif bif !!F.noTime z then true else !!F.noTime z_1 then true else
  !!F.noTime z_2 then Option.bind (unenc encIsTm [(vI v.now)]) fun (z_3 : Int) => bif bif bif bif !!F.noTime z then true else !!F.noTime z_1 then true else !!F.noTime z_2
  then true else !!F.noTime z_3 then some (AV.tup [AV.sl [], (vI (1 : Int))], []) else bif bif decide (v.was ≤ u.was) then true else decide (v.now ≤ u.now) then some (AV.tup
  [AV.sl [], (vI (8 : Int))], []) else Option.bind (unenc encClK [AV.sl (List.map eCap l)]) fun (z : List Cap) => bif decide (List.length z ≤ (500 : Nat)) then Option.bind
  (unenc stRSt1 (St.mk [(55, (vI (0 : Int))), (54, (vI (↑(List.length (List.map eCap z)) : Int))), (9, .own 53000), (5, .ptr 5 0 0), (4, .ptr 4 0 0), (0, AV.sl (List.map
  eCap l))] [(53000, Blk.mk false 43 6 (List.map eCap z)), (5, Blk.mk true 0 0 [[(vI v.was), (vI v.now)]]), (4, Blk.mk true 0 0 [[(vI u.was), (vI u.now)]])])) fun (z : Nat ×
  Mch × Mch × List Cap × List Cap × Nat) => bif decide (z.fst ≤ (500 : Nat)) && decide (z.snd.snd.snd.snd.snd ≤ z.fst) && decide (List.length z.snd.snd.snd.snd.fst = z.fst)
  && F.mOK z.snd.fst z.snd.snd.fst && F.tmL (List.drop z.snd.snd.snd.snd.snd z.snd.snd.snd.snd.fst) && F.eqd z.snd.snd.snd.snd.fst z.snd.snd.snd.fst z.snd.snd.snd.snd.snd &&
  true then Option.bind (unenc encRhC [AV.sl (List.map eCap (F.mapF (fun (x : Option Cap) (c : Cap) => F.stC z.snd.fst z.snd.snd.fst c) z.snd.snd.snd.snd.snd
  z.snd.snd.snd.snd.fst))]) fun (z_4 : List Cap) => bif F.smC z_4 then bif F.chkC z_4 != (0 : Int) then some (AV.tup [AV.sl [], (vI (F.chkC z_4))], []) else some (AV.tup
  [AV.sl (List.map eCap (F.mapF (fun (x : Option Cap) (c : Cap) => F.stC z.snd.fst z.snd.snd.fst c) z.snd.snd.snd.snd.snd z.snd.snd.snd.snd.fst)), (vI (0 : Int))], []) else
  none else none else none else bif !bif bif !!F.noTime z then true else !!F.noTime z_1 then true else !!F.noTime z_2 then none else some (AV.tup [AV.sl [], (vI (1 : Int))],
  []) else bif !bif !!F.noTime z then true else !!F.noTime z_1 then none else some (AV.tup [AV.sl [], (vI (1 : Int))], []) else bif !!!F.noTime z then none else some (AV.tup
  [AV.sl [], (vI (1 : Int))], []) else none := by kernel_rfl

def encRSt1 (l : List Cap) (u : Mch) (v : Mch) : List AV := [.sl (l.map eCap), .agg (eMch u), .agg (eMch v)]

def encRSt (a : (List Cap) × Mch × Mch) : List AV := encRSt1 a.1 a.2.1 a.2.2

theorem encRSt_inj (a a' : (List Cap) × Mch × Mch) (h : encRSt a = encRSt a') : a = a' := by
  simp only [encRSt, encRSt1] at h
  try simp [strs_inj, ints_inj, bools_inj, eCaps_inj, eCap_iff, eL_eCaps_inj, eMchs_inj, eMch_iff, eWrds_inj, eWrd_iff, eFnds_inj, eFnd_iff, eRatios_inj, eRatio_iff, eWays_inj, eWay_iff] at h
  grind

theorem unRSt (l : List Cap) (u : Mch) (v : Mch) : unenc encRSt ([AV.sl (List.map eCap l), AV.agg [(vI u.was), (vI u.now)], AV.agg [(vI v.was), (vI v.now)]]) = some (l, u, v) := unenc_of encRSt_inj (l, u, v) rfl

theorem unRStw (l : List Cap) (u_was : Int) (u_now : Int) (v_was : Int) (v_now : Int) : unenc encRSt ([AV.sl (List.map eCap l), AV.agg [(vI u_was), (vI u_now)], AV.agg [(vI v_was), (vI v_now)]]) = some (l, (Mch.mk u_was u_now), (Mch.mk v_was v_now)) := unenc_of encRSt_inj (l, (Mch.mk u_was u_now), (Mch.mk v_was v_now)) rfl

def resRSt1 (l : List Cap) (u : Mch) (v : Mch) : AV × Heap := (.tup [.sl ((F.stretch l u v).1.map eCap), vI (F.stretch l u v).2], [])

def preRSt1 (l : List Cap) (u : Mch) (v : Mch) : Bool := F.smC l

noncomputable def oRSt : Orc := orc 33 false encRSt (fun a => preRSt1 a.1 a.2.1 a.2.2) fun a => resRSt1 a.1 a.2.1 a.2.2

theorem okRSt : OrcOK Tryd.prog noG oRSt := by
  refine mk_ok Tryd.f33 (keep := false) (by kernel_rfl) (by kernel_rfl) enRSt_ok mixed (one_loop (x0 := loopN Tryd.f33 0) (by kernel_rfl) (lpo_ok ?_)) (by first | exact fun _ _ => ⟨rfl, rfl⟩ | (intro h; cases h)) ?_
  · rintro ⟨n, u, v, l, out, k⟩ hp
    exact lpRSt_ok n u v l out k hp
  rintro ⟨l, u, v⟩ hpre hok
  show (runF enRSt false _ (encRSt1 _ _ _)).val = some (resRSt1 _ _ _)
  unfold encRSt1 resRSt1
  rw [evRSt]
  simp only [preRSt1] at hpre
  simp only [unRhC, unIsTm, unClK, unSd, unSdw, preRhC1, preIsTm1, preClK1, preSd1, unstRSt, unstRSt0, prlRSt, outRSt, etaCap, etaMch, etaWrd, etaFnd, etaRatio, etaWay, Option.bind_some, List.length_map, unStrs, unInts, unBools, unCaps, uneL_eCaps, unMchs, unWrds, unFnds, unRatios, unWays, F.lt, F.le, cond_true, cond_false, Bool.and_true, Bool.true_and, hpre, F.stretch]
  by_cases h0 : F.chkC l = 0
  case neg =>
    rw [bne1 h0]; rfl
  rw [bne0 h0]
  have c1 := F.chk_sm h0
  have c2 := F.chk_len h0
  have c3 : F.smC (l.map (F.stC u v)) = true := by
    simp only [F.smC, List.all_map]; exact hpre
  have e1 : eMch u = [vI u.was, vI u.now] := rfl
  simp only [cond_false, F.mTm, Bool.not_not]
  cases h1 : F.noTime u.was
  case true => rfl
  cases h2 : F.noTime u.now
  case true => rfl
  cases h3 : F.noTime v.was
  case true => rfl
  cases h4 : F.noTime v.now
  case true => rfl
  have c6 : F.eqd l l 0 = true := F.eqd_self l
  have c4 : F.tmL (l.drop 0) = true := F.chk_tm h0
  cases h5 : decide (v.was ≤ u.was)
  case true => rfl
  cases h6 : decide (v.now ≤ u.now)
  case true => rfl
  have h5 := of_decide_eq_false h5
  have h6 := of_decide_eq_false h6
  have c5 : F.mOK u v = true := by
    simp only [F.mOK, F.tm, h1, h2, h3, h4, F.lt, decide_eq_true (show u.was < v.was by omega), decide_eq_true (show u.now < v.now by omega)]; rfl
  have t1 := F.tm_iff.1 (show F.tm u.was = true by unfold F.tm; rw [h1]; rfl)
  have t2 := F.tm_iff.1 (show F.tm v.was = true by unfold F.tm; rw [h3]; rfl)
  have w1 : IntKind.i64.wrap (v.was - u.was) = v.was - u.was := wrap_id (by omega) (by omega)
  have w2 : IntKind.i64.wrap (2 * (v.was - u.was)) = F.den u v := wrap_id (by omega) (by omega)
  simp only [Bool.not_false, cond_true, cond_false, c1, unstRSt0, Option.bind_some, decide_eq_true c2, Nat.zero_le, decide_true, Bool.and_true, Bool.and_self, c5, c4, F.mapF_zero, F.mapN_map, c3, Bool.or_false, Bool.or_self, c6]
  simp only [F.fin]
  cases F.chkC (l.map (F.stC u v)) != 0 <;> rfl

end M
end Go.Proofs.YtniealifncgilaaDoor
