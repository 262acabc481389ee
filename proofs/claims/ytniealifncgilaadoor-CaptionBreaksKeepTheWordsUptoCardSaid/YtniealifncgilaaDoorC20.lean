/- What is proved here: Apart of both (no statement of the seat). -/
import Derived.Test.YtniealifncgilaaDoorC15
import Derived.Test.YtniealifncgilaaDoorC17
namespace Go.Proofs.YtniealifncgilaaDoor
open Go Go.RowKit
set_option linter.unusedVariables false
set_option linter.unusedSimpArgs false

def F.apTo (g : Int) (nx c : Cap) : Int := min c.to (nx.fr - g)

def F.apC (g : Int) (nx : Option Cap) (c : Cap) : Cap := match nx with
  | none => c
  | some d => ⟨c.fr, F.apTo g d c, c.lines, c.row, c.bef, c.aft⟩

def F.apB (g : Int) (nx : Option Cap) (c : Cap) : Bool := match nx with
  | none => false
  | some d => F.le (F.apTo g d c) c.fr

/-- One of them, with the one that follows, is so. -/
def F.anyN {α : Type} (f : Option α → α → Bool) : List α → Bool
  | [] => false
  | c :: l => f l.head? c || F.anyN f l

def F.apart (l : List Cap) (g : Int) : List Cap × Int :=
  bif F.chkC l != 0 then ([], F.chkC l) else bif F.noTime g then ([], 1) else bif F.anyN (F.apB g) l then ([], 12) else (F.mapN (F.apC g) l, 0)

theorem F.apN_one (g : Int) : ∀ l : List Cap, l.length ≤ 1 → F.mapN (F.apC g) l = l ∧ F.anyN (F.apB g) l = false
  | [], _ => ⟨rfl, rfl⟩
  | [c], _ => ⟨rfl, rfl⟩
  | a :: b :: l, h => by simp at h

theorem F.mapF_last {g : Int} {out : List Cap} {k : Nat} (h : out.length ≤ k + 1) : F.mapF (F.apC g) k out = out ∧ F.anyN (F.apB g) (out.drop k) = false := by
  obtain ⟨h1, h2⟩ := F.apN_one g (out.drop k) (by rw [List.length_drop]; omega)
  refine ⟨?_, h2⟩
  rw [F.mapF, h1, List.take_append_drop]

namespace M

/-- A loop that changes what it goes through, all but the last one, or stops. -/
theorem loop_mapB {E : Env} {x : Code} {n e r : List Nat × List Nat} {m : Nat} {g : Int} {st : List Cap → Nat → St} {fin : List Cap → Ex × St} {o : Ex × St} {I : List Cap → Nat → Prop}
    (hfin : ∀ out k, out.length = m → k ≤ m → m ≤ k + 1 → I out k → ((exec E x (st out k)).bind (lessX n e r)).val = some (fin out)) (hf1 : ∀ a, (fin a).1 ≠ .normal ∧ closedB (fin a).2 = true) (ho : o.1 ≠ .normal ∧ closedB o.2 = true) (hs : ∀ a k, closedB (st a k) = true)
    (hgo : ∀ out k y d, out.length = m → I out k → out[k]? = some y → out[k + 1]? = some d → ((exec E x (st out k)).bind (lessX n e r)).val = (bif F.le (F.apTo g d y) y.fr then some o else some (.normal, st (out.set k (F.apC g (some d) y)) (k + 1))) ∧ I (out.set k (F.apC g (some d) y)) (k + 1)) :
    ∀ out k, out.length = m → k ≤ m → I out k → ∀ ex s', (T.ifB (F.anyN (F.apB g) (out.drop k)) (.ret o) (.ret (fin (F.mapF (F.apC g) k out)))).val = some (ex, s') → LoopOK E x (st out k) ex s' := by
  intro out k h1 h2 hI
  refine loop_gen (st := fun a : List Cap × Nat => st a.1 a.2) (out := fun a => T.ifB (F.anyN (F.apB g) (a.1.drop a.2)) (.ret o) (.ret (fin (F.mapF (F.apC g) a.2 a.1)))) (I := fun a => a.1.length = m ∧ a.2 ≤ m ∧ I a.1 a.2) (n := n) (e := e) (r := r) (fun a => m - a.2) ?_ (out, k) ⟨h1, h2, hI⟩
  rintro ⟨out, k⟩ ⟨h1, h2, hI⟩
  simp only at h1 h2 hI
  by_cases hlt : k + 1 < m
  · have hy : out[k]? = some out[k] := List.getElem?_eq_getElem (by omega)
    have hd : out[k + 1]? = some out[k + 1] := List.getElem?_eq_getElem (by omega)
    generalize out[k] = y at hy
    generalize out[k + 1] = d at hd
    have hg := hgo out k y d h1 hI hy hd
    have e3 : out.drop k = y :: out.drop (k + 1) := by
      rw [List.drop_eq_getElem_cons (by omega)]
      congr 1
      exact (List.getElem?_eq_some_iff.1 hy).2
    have e4 : F.anyN (F.apB g) (out.drop k) = (F.le (F.apTo g d y) y.fr || F.anyN (F.apB g) (out.drop (k + 1))) := by
      rw [e3, F.anyN, List.head?_drop, hd]; rfl
    cases hb : F.le (F.apTo g d y) y.fr
    · right
      rw [hb] at hg
      refine ⟨(out.set k (F.apC g (some d) y), k + 1), hg.1, hs _ _, ⟨by simp only [List.length_set]; exact h1, by simp only; omega, hg.2⟩, by simp only; omega, ?_⟩
      have e2 : (out.set k (F.apC g (some d) y)).drop (k + 1) = out.drop (k + 1) := List.drop_set_of_lt (Nat.lt_succ_self _)
      have e5 := F.mapF_step (f := F.apC g) hy
      rw [hd] at e5
      simp only [e2, e4, hb, Bool.false_or, e5]
    · left
      rw [hb] at hg
      refine ⟨o, hg.1, ?_, ho⟩
      simp only [e4, hb, Bool.true_or]
      rfl
  · left
    obtain ⟨f1, f2⟩ := F.mapF_last (g := g) (out := out) (k := k) (by omega)
    refine ⟨fin out, hfin out k h1 h2 (by omega) hI, ?_, hf1 _⟩
    simp only [f1, f2]
    rfl

def stAp (g : Int) (out : List Cap) (k : Nat) : St := ⟨[(8, vI k), (7, .own 18000), (1, vI g)], [(18000, ⟨false, 43, 6, out.map eCap⟩)]⟩

def stAp1 (a : Int × (List Cap) × Nat) : St := stAp a.1 a.2.1 a.2.2

theorem stAp_inj (a a' : Int × (List Cap) × Nat) (h : stAp1 a = stAp1 a') : a = a' := by
  simp only [stAp1, stAp] at h
  try simp [strs_inj, ints_inj, bools_inj, eCaps_inj, eCap_iff, eL_eCaps_inj, eMchs_inj, eMch_iff, eWrds_inj, eWrd_iff, eFnds_inj, eFnd_iff, eRatios_inj, eRatio_iff, eWays_inj, eWay_iff] at h
  grind

theorem unstAp (g : Int) (out : List Cap) (k : Nat) : unenc stAp1 (St.mk [(8, (vI (↑k : Int))), (7, .own 18000), (1, (vI g))] [(18000, Blk.mk false 43 6 (List.map eCap out))]) = some (g, out, k) := unenc_of stAp_inj (g, out, k) rfl

theorem unstAp0 (g : Int) (out : List Cap) : unenc stAp1 (St.mk [(8, (vI (0 : Int))), (7, .own 18000), (1, (vI g))] [(18000, Blk.mk false 43 6 (List.map eCap out))]) = some (g, out, 0) := unenc_of stAp_inj (g, out, 0) rfl

def outAp (g : Int) (out : List Cap) (k : Nat) : T (Ex × St) := .ifB (F.anyN (F.apB g) (out.drop k)) (.ret (.ret, ⟨[(5, vI 12), (4, .own 4)], [(4, ⟨false, 43, 6, []⟩)]⟩)) (.ret (.exit 0, ⟨[(7, .own 18000)], [(18000, ⟨false, 43, 6, (F.mapF (F.apC g) k out).map eCap⟩)]⟩))

noncomputable def prlAp (g : Int) (out : List Cap) (k : Nat) : Bool := decide (out.length ≤ 500) && decide (k ≤ out.length) && F.tm g && F.tmL (out.drop k)

noncomputable def lpAp : Nat × (St → T (Ex × St)) := (8, lpo [8, 7, 1] [18000] stAp1 (fun a => prlAp a.1 a.2.1 a.2.2) fun a => outAp a.1 a.2.1 a.2.2)

noncomputable def enAp : Env := envH ty noG lks [oChC, oNoT, oCpO] [] [] [lpAp]

theorem enAp_ok : EnvOK Tryd.prog enAp := by
  refine envH_ok lks_ok ty_ok ?_ ?_
  · simp only [List.forall_mem_cons]
    exact ⟨okChC, okNoT, okCpO, by simp⟩
  · simp

theorem evApL (g : Int) (out : List Cap) (k : Nat) : ((exec enAp (loopN Tryd.f35 0) (stAp g out k)).bind (lessX ([8, 7, 1], [18000]) ([7], [18000]) ([5, 4], [4]))).val =
  bif decide (IntKind.wrap IntKind.i64 ((↑k : Int) + (1 : Int)) < (↑(List.length (List.map eCap out)) : Int)) then bif decide (k < List.length (Blk.mk false 43 6 (List.map
  eCap out)).rows) then Option.bind (unenc (List.map eCap) (List.map eCap out)) fun (z : List Cap) => bif decide (k < List.length z) then Option.bind (idx (IntKind.wrap
  IntKind.i64 ((↑k : Int) + (1 : Int)))) fun (z_1 : Nat) => bif decide (z_1 < List.length (Blk.mk false 43 6 (List.map eCap out)).rows) then Option.bind (unenc (List.map
  eCap) (List.map eCap out)) fun (z_2 : List Cap) => bif decide (z_1 < List.length z_2) then bif decide (k < List.length (Blk.mk false 43 6 (List.map eCap out)).rows) then
  Option.bind (unenc (List.map eCap) (List.map eCap out)) fun (z_3 : List Cap) => bif decide (k < List.length z_3) then bif decide (k < List.length (Blk.mk false 43 6
  (List.set (List.map eCap out) k [(vI (List.getD z_3 k (Cap.mk (0 : Int) (0 : Int) [] (0 : Int) false false)).fr), (vI (min (List.getD z k (Cap.mk (0 : Int) (0 : Int) [] (0
  : Int) false false)).to (IntKind.wrap IntKind.i64 ((List.getD z_2 z_1 (Cap.mk (0 : Int) (0 : Int) [] (0 : Int) false false)).fr - g)))), AV.sl (List.map eStr (List.getD
  z_3 k (Cap.mk (0 : Int) (0 : Int) [] (0 : Int) false false)).lines), (vI (List.getD z_3 k (Cap.mk (0 : Int) (0 : Int) [] (0 : Int) false false)).row), (vB (List.getD z_3 k
  (Cap.mk (0 : Int) (0 : Int) [] (0 : Int) false false)).bef), (vB (List.getD z_3 k (Cap.mk (0 : Int) (0 : Int) [] (0 : Int) false false)).aft)])).rows) then Option.bind
  (unenc (List.map eCap) (List.set (List.map eCap out) k [(vI (List.getD z_3 k (Cap.mk (0 : Int) (0 : Int) [] (0 : Int) false false)).fr), (vI (min (List.getD z k (Cap.mk (0
  : Int) (0 : Int) [] (0 : Int) false false)).to (IntKind.wrap IntKind.i64 ((List.getD z_2 z_1 (Cap.mk (0 : Int) (0 : Int) [] (0 : Int) false false)).fr - g)))), AV.sl
  (List.map eStr (List.getD z_3 k (Cap.mk (0 : Int) (0 : Int) [] (0 : Int) false false)).lines), (vI (List.getD z_3 k (Cap.mk (0 : Int) (0 : Int) [] (0 : Int) false
  false)).row), (vB (List.getD z_3 k (Cap.mk (0 : Int) (0 : Int) [] (0 : Int) false false)).bef), (vB (List.getD z_3 k (Cap.mk (0 : Int) (0 : Int) [] (0 : Int) false
  false)).aft)])) fun (z_4 : List Cap) => bif decide (k < List.length z_4) then bif decide (k < List.length (Blk.mk false 43 6 (List.set (List.map eCap out) k [(vI
  (List.getD z_3 k (Cap.mk (0 : Int) (0 : Int) [] (0 : Int) false false)).fr), (vI (min (List.getD z k (Cap.mk (0 : Int) (0 : Int) [] (0 : Int) false false)).to
  (IntKind.wrap IntKind.i64 ((List.getD z_2 z_1 (Cap.mk (0 : Int) (0 : Int) [] (0 : Int) false false)).fr - g)))), AV.sl (List.map eStr (List.getD z_3 k (Cap.mk (0 : Int) (0
  : Int) [] (0 : Int) false false)).lines), (vI (List.getD z_3 k (Cap.mk (0 : Int) (0 : Int) [] (0 : Int) false false)).row), (vB (List.getD z_3 k (Cap.mk (0 : Int) (0 :
  Int) [] (0 : Int) false false)).bef), (vB (List.getD z_3 k (Cap.mk (0 : Int) (0 : Int) [] (0 : Int) false false)).aft)])).rows) then Option.bind (unenc (List.map eCap)
  (List.set (List.map eCap out) k [(vI (List.getD z_3 k (Cap.mk (0 : Int) (0 : Int) [] (0 : Int) false false)).fr), (vI (min (List.getD z k (Cap.mk (0 : Int) (0 : Int) [] (0
  : Int) false false)).to (IntKind.wrap IntKind.i64 ((List.getD z_2 z_1 (Cap.mk (0 : Int) (0 : Int) [] (0 : Int) false false)).fr - g)))), AV.sl (List.map eStr (List.getD
  z_3 k (Cap.mk (0 : Int) (0 : Int) [] (0 : Int) false false)).lines), (vI (List.getD z_3 k (Cap.mk (0 : Int) (0 : Int) [] (0 : Int) false false)).row), (vB (List.getD z_3 k
  (Cap.mk (0 : Int) (0 : Int) [] (0 : Int) false false)).bef), (vB (List.getD z_3 k (Cap.mk (0 : Int) (0 : Int) [] (0 : Int) false false)).aft)])) fun (z_5 : List Cap) =>
  bif decide (k < List.length z_5) then bif decide ((List.getD z_4 k (Cap.mk (0 : Int) (0 : Int) [] (0 : Int) false false)).to ≤ (List.getD z_5 k (Cap.mk (0 : Int) (0 : Int)
  [] (0 : Int) false false)).fr) then some (Ex.ret, St.mk [(5, (vI (12 : Int))), (4, .own 4)] [(4, Blk.mk false 43 6 [])]) else some (Ex.normal, St.mk [(8, (vI (IntKind.wrap
  IntKind.i64 ((↑k : Int) + (1 : Int))))), (7, .own 18000), (1, (vI g))] [(18000, Blk.mk false 43 6 (List.set (List.map eCap out) k [(vI (List.getD z_3 k (Cap.mk (0 : Int)
  (0 : Int) [] (0 : Int) false false)).fr), (vI (min (List.getD z k (Cap.mk (0 : Int) (0 : Int) [] (0 : Int) false false)).to (IntKind.wrap IntKind.i64 ((List.getD z_2 z_1
  (Cap.mk (0 : Int) (0 : Int) [] (0 : Int) false false)).fr - g)))), AV.sl (List.map eStr (List.getD z_3 k (Cap.mk (0 : Int) (0 : Int) [] (0 : Int) false false)).lines), (vI
  (List.getD z_3 k (Cap.mk (0 : Int) (0 : Int) [] (0 : Int) false false)).row), (vB (List.getD z_3 k (Cap.mk (0 : Int) (0 : Int) [] (0 : Int) false false)).bef), (vB
  (List.getD z_3 k (Cap.mk (0 : Int) (0 : Int) [] (0 : Int) false false)).aft)]))]) else none else none else none else none else none else none else none else none else none
  else none else some (Ex.exit (0 : Nat), St.mk [(7, .own 18000)] [(18000, Blk.mk false 43 6 (List.map eCap out))]) := by kernel_rfl

theorem lpAp_ok (g : Int) (out : List Cap) (k : Nat) (hp : prlAp g out k = true) : ∀ ex s', (outAp g out k).val = some (ex, s') → LoopOK enAp (loopN Tryd.f35 0) (stAp g out k) ex s' := by
  simp only [prlAp, Bool.and_eq_true, decide_eq_true_eq] at hp
  obtain ⟨⟨⟨h1, h2⟩, h4⟩, h5⟩ := hp
  obtain ⟨n, h3⟩ : ∃ n, out.length = n := ⟨_, rfl⟩
  rw [h3] at h1 h2
  refine loop_mapB (m := n) (st := fun a k => stAp g a k) (g := g) (fin := fun a => (.exit 0, ⟨[(7, .own 18000)], [(18000, ⟨false, 43, 6, a.map eCap⟩)]⟩)) (o := (.ret, ⟨[(5, vI 12), (4, .own 4)], [(4, ⟨false, 43, 6, []⟩)]⟩)) (I := fun a k => F.tmL (a.drop k) = true) (n := ([8, 7, 1], [18000])) (e := ([7], [18000])) (r := ([5, 4], [4])) ?_ (fun _ => ⟨by simp, rfl⟩) ⟨by simp, rfl⟩ (fun _ _ => rfl) ?_ out k h3 h2 h5
  · intro a k ha hk1 hk2 hI
    have e1 : decide (IntKind.i64.wrap ((k : Int) + 1) < (a.length : Int)) = false := by rw [wrap_id (by omega) (by omega)]; exact decide_eq_false (by omega)
    rw [evApL]
    simp only [unChC, unNoT, unCpO, preChC1, preNoT1, preCpO1, unstAp, unstAp0, prlAp, outAp, etaCap, etaMch, etaWrd, etaFnd, etaRatio, etaWay, Option.bind_some, List.length_map, unStrs, unInts, unBools, unCaps, uneL_eCaps, unMchs, unWrds, unFnds, unRatios, unWays, F.lt, F.le, cond_true, cond_false, Bool.and_true, Bool.true_and, e1]
  · intro a k y d hl hI hy hd
    have hlt := lt_at hy
    have hld := lt_at hd
    have hkn : k < n := by omega
    obtain ⟨t1, t2, t3⟩ := F.tmL_at hI hy
    obtain ⟨t4, t5, t6⟩ := F.tmL_at t3 hd
    have hg := F.tm_iff.1 h4
    have t4 := F.tm_iff.1 t4
    have w1 : IntKind.i64.wrap (d.fr - g) = d.fr - g := wrap_id (by omega) (by omega)
    have hto : min y.to (d.fr - g) = F.apTo g d y := rfl
    have hN := next_at hkn (by omega : n ≤ 9223372036854775807)
    have e1 : decide (((k + 1 : Nat) : Int) < (a.length : Int)) = true := decide_eq_true (by omega)
    refine ⟨?_, by rw [List.drop_set_of_lt (Nat.lt_succ_self _)]; exact t3⟩
    rw [evApL]
    simp only [unChC, unNoT, unCpO, preChC1, preNoT1, preCpO1, unstAp, unstAp0, prlAp, outAp, etaCap, etaMch, etaWrd, etaFnd, etaRatio, etaWay, Option.bind_some, List.length_map, unStrs, unInts, unBools, unCaps, uneL_eCaps, unMchs, unWrds, unFnds, unRatios, unWays, F.lt, F.le, cond_true, cond_false, Bool.and_true, Bool.true_and, decide_eq_true hlt, decide_eq_true hld, hN, e1, idx_nat, getD_at hy, getD_at hd, stAp, setWCaps, F.apC, w1, hto, getD_set hlt, List.length_set, List.set_set]

theorem evAp (l : List Cap) (g : Int) : (runF enAp false Tryd.f35 [.sl (l.map eCap), vI g]).val =
  Option.bind (unenc encChC [AV.sl (List.map eCap l)]) fun (z : List Cap) => bif F.smC z then bif F.chkC z != (0 : Int) then some (AV.tup [AV.sl [], (vI (F.chkC z))], [])
  else Option.bind (unenc encNoT [(vI g)]) fun (z : Int) => bif F.noTime z then some (AV.tup [AV.sl [], (vI (1 : Int))], []) else Option.bind (unenc encCpO [AV.sl (List.map
  eCap l)]) fun (z : List Cap) => bif F.capSm z then Option.bind (unenc stAp1 (St.mk [(8, (vI (0 : Int))), (7, .own 18000), (1, (vI g))] [(18000, Blk.mk false 43 6 (List.map
  eCap z))])) fun (z : Int × List Cap × Nat) => bif decide (List.length z.snd.fst ≤ (500 : Nat)) && decide (z.snd.snd ≤ List.length z.snd.fst) && F.tm z.fst && F.tmL
  (List.drop z.snd.snd z.snd.fst) && true then bif F.anyN (F.apB z.fst) (List.drop z.snd.snd z.snd.fst) then some (AV.tup [AV.sl [], (vI (12 : Int))], []) else some (AV.tup
  [AV.sl (List.map eCap (F.mapF (F.apC z.fst) z.snd.snd z.snd.fst)), (vI (0 : Int))], []) else none else none else none := by kernel_rfl

def encAp1 (l : List Cap) (g : Int) : List AV := [.sl (l.map eCap), vI g]

def encAp (a : (List Cap) × Int) : List AV := encAp1 a.1 a.2

theorem encAp_inj (a a' : (List Cap) × Int) (h : encAp a = encAp a') : a = a' := by
  simp only [encAp, encAp1] at h
  try simp [strs_inj, ints_inj, bools_inj, eCaps_inj, eCap_iff, eL_eCaps_inj, eMchs_inj, eMch_iff, eWrds_inj, eWrd_iff, eFnds_inj, eFnd_iff, eRatios_inj, eRatio_iff, eWays_inj, eWay_iff] at h
  grind

theorem unAp (l : List Cap) (g : Int) : unenc encAp ([AV.sl (List.map eCap l), (vI g)]) = some (l, g) := unenc_of encAp_inj (l, g) rfl

def resAp1 (l : List Cap) (g : Int) : AV × Heap := (.tup [.sl ((F.apart l g).1.map eCap), vI (F.apart l g).2], [])

def preAp1 (l : List Cap) (g : Int) : Bool := F.smC l

noncomputable def oAp : Orc := orc 35 false encAp (fun a => preAp1 a.1 a.2) fun a => resAp1 a.1 a.2

theorem okAp : OrcOK Tryd.prog noG oAp := by
  refine mk_ok Tryd.f35 (keep := false) (by kernel_rfl) (by kernel_rfl) enAp_ok mixed (one_loop (x0 := loopN Tryd.f35 0) (by kernel_rfl) (lpo_ok ?_)) (by first | exact fun _ _ => ⟨rfl, rfl⟩ | (intro h; cases h)) ?_
  · rintro ⟨g, out, k⟩ hp
    exact lpAp_ok g out k hp
  rintro ⟨l, g⟩ hpre hok
  show (runF enAp false _ (encAp1 _ _)).val = some (resAp1 _ _)
  unfold encAp1 resAp1
  rw [evAp]
  simp only [preAp1] at hpre
  simp only [unChC, unNoT, unCpO, preChC1, preNoT1, preCpO1, unstAp, unstAp0, prlAp, outAp, etaCap, etaMch, etaWrd, etaFnd, etaRatio, etaWay, Option.bind_some, List.length_map, unStrs, unInts, unBools, unCaps, uneL_eCaps, unMchs, unWrds, unFnds, unRatios, unWays, F.lt, F.le, cond_true, cond_false, Bool.and_true, Bool.true_and, hpre, F.apart]
  by_cases h0 : F.chkC l = 0
  case neg =>
    rw [bne1 h0]; rfl
  rw [bne0 h0]
  have c1 := F.chk_sm h0
  have c2 := F.chk_len h0
  have c4 : F.tmL l = true := F.chk_tm h0
  simp only [cond_false]
  cases h1 : F.noTime g
  case true => rfl
  have c5 : F.tm g = true := by unfold F.tm; rw [h1]; rfl
  simp only [cond_false, c1, cond_true, Option.bind_some, decide_eq_true c2, Nat.zero_le, decide_true, Bool.and_true, Bool.and_self, c4, c5, F.mapF_zero, List.drop_zero]
  cases F.anyN (F.apB g) l <;> rfl

def stRAp (n : Nat) (g : Int) (l : List Cap) (out : List Cap) (k : Nat) : St := ⟨[(22, vI k), (21, vI ((n : Int) - 1)), (7, .own 19000), (1, vI g), (0, .sl (l.map eCap))], [(19000, ⟨false, 43, 6, out.map eCap⟩)]⟩

def stRAp1 (a : Nat × Int × (List Cap) × (List Cap) × Nat) : St := stRAp a.1 a.2.1 a.2.2.1 a.2.2.2.1 a.2.2.2.2

theorem stRAp_inj (a a' : Nat × Int × (List Cap) × (List Cap) × Nat) (h : stRAp1 a = stRAp1 a') : a = a' := by
  simp only [stRAp1, stRAp] at h
  try simp [strs_inj, ints_inj, bools_inj, eCaps_inj, eCap_iff, eL_eCaps_inj, eMchs_inj, eMch_iff, eWrds_inj, eWrd_iff, eFnds_inj, eFnd_iff, eRatios_inj, eRatio_iff, eWays_inj, eWay_iff] at h
  grind

theorem unstRAp (n : Nat) (g : Int) (l : List Cap) (out : List Cap) (k : Nat) : unenc stRAp1 (St.mk [(22, (vI (↑k : Int))), (21, (vI ((↑n : Int) - (1 : Int)))), (7, .own 19000), (1, (vI g)), (0, AV.sl (List.map eCap l))] [(19000, Blk.mk false 43 6 (List.map eCap
  out))]) = some (n, g, l, out, k) := unenc_of stRAp_inj (n, g, l, out, k) rfl

theorem unstRAp0 (n : Nat) (g : Int) (l : List Cap) (out : List Cap) : unenc stRAp1 (St.mk [(22, (vI (0 : Int))), (21, (vI ((↑n : Int) - (1 : Int)))), (7, .own 19000), (1, (vI g)), (0, AV.sl (List.map eCap l))] [(19000, Blk.mk false 43 6 (List.map eCap
  out))]) = some (n, g, l, out, 0) := unenc_of stRAp_inj (n, g, l, out, 0) rfl

def outRAp (n : Nat) (g : Int) (l : List Cap) (out : List Cap) (k : Nat) : T (Ex × St) := .ifB (F.anyN (F.apB g) (out.drop k)) (.ret (.ret, ⟨[(5, vI 12), (4, .own 4)], [(4, ⟨false, 43, 6, []⟩)]⟩)) (.ret (.exit 0, ⟨[(7, .own 19000)], [(19000, ⟨false, 43, 6, (F.mapF (F.apC g) k out).map eCap⟩)]⟩))

noncomputable def prlRAp (n : Nat) (g : Int) (l : List Cap) (out : List Cap) (k : Nat) : Bool := decide (n ≤ 500) && decide (k ≤ n) && decide (out.length = n) && F.tm g && F.tmL (out.drop k) && F.eqd out l k

noncomputable def lpRAp : Nat × (St → T (Ex × St)) := (8, lpo [22, 21, 7, 1, 0] [19000] stRAp1 (fun a => prlRAp a.1 a.2.1 a.2.2.1 a.2.2.2.1 a.2.2.2.2) fun a => outRAp a.1 a.2.1 a.2.2.1 a.2.2.2.1 a.2.2.2.2)

noncomputable def enRAp : Env := envH ty noG lks [oRhC, oIsTm, oClK] [] [] [lpRAp]

theorem enRAp_ok : EnvOK Tryd.prog enRAp := by
  refine envH_ok lks_ok ty_ok ?_ ?_
  · simp only [List.forall_mem_cons]
    exact ⟨okRhC, okIsTm, okClK, by simp⟩
  · simp

theorem evRApL (n : Nat) (g : Int) (l : List Cap) (out : List Cap) (k : Nat) : ((exec enRAp (loopN Tryd.f36 0) (stRAp n g l out k)).bind (lessX ([22, 21, 7, 1, 0], [19000]) ([7], [19000]) ([5, 4], [4]))).val =
  bif decide ((↑k : Int) < (↑n : Int) - (1 : Int)) then Option.bind (unenc (List.map eCap) (List.map eCap l)) fun (z : List Cap) => bif decide (k < List.length z) then
  Option.bind (idx (IntKind.wrap IntKind.i64 ((↑k : Int) + (1 : Int)))) fun (z_1 : Nat) => Option.bind (unenc (List.map eCap) (List.map eCap l)) fun (z_2 : List Cap) => bif
  decide (z_1 < List.length z_2) then bif decide (k < List.length (Blk.mk false 43 6 (List.map eCap out)).rows) then Option.bind (unenc (List.map eCap) (List.map eCap out))
  fun (z_3 : List Cap) => bif decide (k < List.length z_3) then bif decide (k < List.length (Blk.mk false 43 6 (List.set (List.map eCap out) k [(vI (List.getD z_3 k (Cap.mk
  (0 : Int) (0 : Int) [] (0 : Int) false false)).fr), (vI (min (List.getD z k (Cap.mk (0 : Int) (0 : Int) [] (0 : Int) false false)).to (IntKind.wrap IntKind.i64 ((List.getD
  z_2 z_1 (Cap.mk (0 : Int) (0 : Int) [] (0 : Int) false false)).fr - g)))), AV.sl (List.map eStr (List.getD z_3 k (Cap.mk (0 : Int) (0 : Int) [] (0 : Int) false
  false)).lines), (vI (List.getD z_3 k (Cap.mk (0 : Int) (0 : Int) [] (0 : Int) false false)).row), (vB (List.getD z_3 k (Cap.mk (0 : Int) (0 : Int) [] (0 : Int) false
  false)).bef), (vB (List.getD z_3 k (Cap.mk (0 : Int) (0 : Int) [] (0 : Int) false false)).aft)])).rows) then Option.bind (unenc (List.map eCap) (List.set (List.map eCap
  out) k [(vI (List.getD z_3 k (Cap.mk (0 : Int) (0 : Int) [] (0 : Int) false false)).fr), (vI (min (List.getD z k (Cap.mk (0 : Int) (0 : Int) [] (0 : Int) false false)).to
  (IntKind.wrap IntKind.i64 ((List.getD z_2 z_1 (Cap.mk (0 : Int) (0 : Int) [] (0 : Int) false false)).fr - g)))), AV.sl (List.map eStr (List.getD z_3 k (Cap.mk (0 : Int) (0
  : Int) [] (0 : Int) false false)).lines), (vI (List.getD z_3 k (Cap.mk (0 : Int) (0 : Int) [] (0 : Int) false false)).row), (vB (List.getD z_3 k (Cap.mk (0 : Int) (0 :
  Int) [] (0 : Int) false false)).bef), (vB (List.getD z_3 k (Cap.mk (0 : Int) (0 : Int) [] (0 : Int) false false)).aft)])) fun (z_4 : List Cap) => bif decide (k <
  List.length z_4) then bif decide (k < List.length (Blk.mk false 43 6 (List.set (List.map eCap out) k [(vI (List.getD z_3 k (Cap.mk (0 : Int) (0 : Int) [] (0 : Int) false
  false)).fr), (vI (min (List.getD z k (Cap.mk (0 : Int) (0 : Int) [] (0 : Int) false false)).to (IntKind.wrap IntKind.i64 ((List.getD z_2 z_1 (Cap.mk (0 : Int) (0 : Int) []
  (0 : Int) false false)).fr - g)))), AV.sl (List.map eStr (List.getD z_3 k (Cap.mk (0 : Int) (0 : Int) [] (0 : Int) false false)).lines), (vI (List.getD z_3 k (Cap.mk (0 :
  Int) (0 : Int) [] (0 : Int) false false)).row), (vB (List.getD z_3 k (Cap.mk (0 : Int) (0 : Int) [] (0 : Int) false false)).bef), (vB (List.getD z_3 k (Cap.mk (0 : Int) (0
  : Int) [] (0 : Int) false false)).aft)])).rows) then Option.bind (unenc (List.map eCap) (List.set (List.map eCap out) k [(vI (List.getD z_3 k (Cap.mk (0 : Int) (0 : Int)
  [] (0 : Int) false false)).fr), (vI (min (List.getD z k (Cap.mk (0 : Int) (0 : Int) [] (0 : Int) false false)).to (IntKind.wrap IntKind.i64 ((List.getD z_2 z_1 (Cap.mk (0
  : Int) (0 : Int) [] (0 : Int) false false)).fr - g)))), AV.sl (List.map eStr (List.getD z_3 k (Cap.mk (0 : Int) (0 : Int) [] (0 : Int) false false)).lines), (vI (List.getD
  z_3 k (Cap.mk (0 : Int) (0 : Int) [] (0 : Int) false false)).row), (vB (List.getD z_3 k (Cap.mk (0 : Int) (0 : Int) [] (0 : Int) false false)).bef), (vB (List.getD z_3 k
  (Cap.mk (0 : Int) (0 : Int) [] (0 : Int) false false)).aft)])) fun (z_5 : List Cap) => bif decide (k < List.length z_5) then bif decide ((List.getD z_4 k (Cap.mk (0 : Int)
  (0 : Int) [] (0 : Int) false false)).to ≤ (List.getD z_5 k (Cap.mk (0 : Int) (0 : Int) [] (0 : Int) false false)).fr) then some (Ex.ret, St.mk [(5, (vI (12 : Int))), (4,
  .own 4)] [(4, Blk.mk false 43 6 [])]) else some (Ex.normal, St.mk [(22, (vI (IntKind.wrap IntKind.i64 ((↑k : Int) + (1 : Int))))), (21, (vI ((↑n : Int) - (1 : Int)))), (7,
  .own 19000), (1, (vI g)), (0, AV.sl (List.map eCap l))] [(19000, Blk.mk false 43 6 (List.set (List.map eCap out) k [(vI (List.getD z_3 k (Cap.mk (0 : Int) (0 : Int) [] (0
  : Int) false false)).fr), (vI (min (List.getD z k (Cap.mk (0 : Int) (0 : Int) [] (0 : Int) false false)).to (IntKind.wrap IntKind.i64 ((List.getD z_2 z_1 (Cap.mk (0 : Int)
  (0 : Int) [] (0 : Int) false false)).fr - g)))), AV.sl (List.map eStr (List.getD z_3 k (Cap.mk (0 : Int) (0 : Int) [] (0 : Int) false false)).lines), (vI (List.getD z_3 k
  (Cap.mk (0 : Int) (0 : Int) [] (0 : Int) false false)).row), (vB (List.getD z_3 k (Cap.mk (0 : Int) (0 : Int) [] (0 : Int) false false)).bef), (vB (List.getD z_3 k (Cap.mk
  (0 : Int) (0 : Int) [] (0 : Int) false false)).aft)]))]) else none else none else none else none else none else none else none else none else some (Ex.exit (0 : Nat),
  St.mk [(7, .own 19000)] [(19000, Blk.mk false 43 6 (List.map eCap out))]) := by kernel_rfl

theorem lpRAp_ok (n : Nat) (g : Int) (l : List Cap) (out : List Cap) (k : Nat) (hp : prlRAp n g l out k = true) : ∀ ex s', (outRAp n g l out k).val = some (ex, s') → LoopOK enRAp (loopN Tryd.f36 0) (stRAp n g l out k) ex s' := by
  simp only [prlRAp, Bool.and_eq_true, decide_eq_true_eq] at hp
  obtain ⟨⟨⟨⟨⟨h1, h2⟩, h3⟩, h4⟩, h5⟩, h6⟩ := hp
  refine loop_mapB (m := n) (st := fun a k => stRAp n g l a k) (g := g) (fin := fun a => (.exit 0, ⟨[(7, .own 19000)], [(19000, ⟨false, 43, 6, a.map eCap⟩)]⟩)) (o := (.ret, ⟨[(5, vI 12), (4, .own 4)], [(4, ⟨false, 43, 6, []⟩)]⟩)) (I := fun a k => F.tmL (a.drop k) = true ∧ F.eqd a l k = true) (n := ([22, 21, 7, 1, 0], [19000])) (e := ([7], [19000])) (r := ([5, 4], [4])) ?_ (fun _ => ⟨by simp, rfl⟩) ⟨by simp, rfl⟩ (fun _ _ => rfl) ?_ out k h3 h2 ⟨h5, h6⟩
  · intro a k ha hk1 hk2 hI
    have e1 : decide ((k : Int) < (n : Int) - 1) = false := decide_eq_false (by omega)
    rw [evRApL]
    simp only [unRhC, unIsTm, unClK, preRhC1, preIsTm1, preClK1, unstRAp, unstRAp0, prlRAp, outRAp, etaCap, etaMch, etaWrd, etaFnd, etaRatio, etaWay, Option.bind_some, List.length_map, unStrs, unInts, unBools, unCaps, uneL_eCaps, unMchs, unWrds, unFnds, unRatios, unWays, F.lt, F.le, cond_true, cond_false, Bool.and_true, Bool.true_and, e1]
  · intro a k y d hl hI hy hd
    have hlt := lt_at hy
    have hld := lt_at hd
    have hkn : k < n := by omega
    obtain ⟨t1, t2, t3⟩ := F.tmL_at hI.1 hy
    obtain ⟨t4, t5, t6⟩ := F.tmL_at t3 hd
    obtain ⟨g1, g2⟩ := F.eqd_at hI.2 hy
    have g3 := F.eqd_next hI.2
    have g4 : l[k + 1]? = some d := by rw [← g3]; exact hd
    have hll := lt_at g1
    have hl2 := lt_at g4
    have hg := F.tm_iff.1 h4
    have t4 := F.tm_iff.1 t4
    have w1 : IntKind.i64.wrap (d.fr - g) = d.fr - g := wrap_id (by omega) (by omega)
    have hto : min y.to (d.fr - g) = F.apTo g d y := rfl
    have hN := next_at hkn (by omega : n ≤ 9223372036854775807)
    have e1 : decide ((k : Int) < (n : Int) - 1) = true := decide_eq_true (by omega)
    refine ⟨?_, by rw [List.drop_set_of_lt (Nat.lt_succ_self _)]; exact t3, g2 _⟩
    rw [evRApL]
    simp only [unRhC, unIsTm, unClK, preRhC1, preIsTm1, preClK1, unstRAp, unstRAp0, prlRAp, outRAp, etaCap, etaMch, etaWrd, etaFnd, etaRatio, etaWay, Option.bind_some, List.length_map, unStrs, unInts, unBools, unCaps, uneL_eCaps, unMchs, unWrds, unFnds, unRatios, unWays, F.lt, F.le, cond_true, cond_false, Bool.and_true, Bool.true_and, decide_eq_true hlt, decide_eq_true hld, decide_eq_true hll, decide_eq_true hl2, hN, e1, idx_nat, getD_at hy, getD_at hd, getD_at g1, getD_at g4, stRAp, setWCaps, F.apC, w1, hto, getD_set hlt, List.length_set, List.set_set]

theorem evRAp (l : List Cap) (g : Int) : (runF enRAp false Tryd.f36 [.sl (l.map eCap), vI g]).val =
  Option.bind (unenc encRhC [AV.sl (List.map eCap l)]) fun (z : List Cap) => bif F.smC z then bif F.chkC z != (0 : Int) then some (AV.tup [AV.sl [], (vI (F.chkC z))], [])
  else Option.bind (unenc encIsTm [(vI g)]) fun (z : Int) => bif !!F.noTime z then some (AV.tup [AV.sl [], (vI (1 : Int))], []) else Option.bind (unenc encClK [AV.sl
  (List.map eCap l)]) fun (z : List Cap) => bif decide (List.length z ≤ (500 : Nat)) then Option.bind (unenc stRAp1 (St.mk [(22, (vI (0 : Int))), (21, (vI (IntKind.wrap
  IntKind.i64 ((↑(List.length (List.map eCap l)) : Int) - (1 : Int))))), (7, .own 19000), (1, (vI g)), (0, AV.sl (List.map eCap l))] [(19000, Blk.mk false 43 6 (List.map
  eCap z))])) fun (z : Nat × Int × List Cap × List Cap × Nat) => bif decide (z.fst ≤ (500 : Nat)) && decide (z.snd.snd.snd.snd ≤ z.fst) && decide (List.length
  z.snd.snd.snd.fst = z.fst) && F.tm z.snd.fst && F.tmL (List.drop z.snd.snd.snd.snd z.snd.snd.snd.fst) && F.eqd z.snd.snd.snd.fst z.snd.snd.fst z.snd.snd.snd.snd && true
  then bif F.anyN (F.apB z.snd.fst) (List.drop z.snd.snd.snd.snd z.snd.snd.snd.fst) then some (AV.tup [AV.sl [], (vI (12 : Int))], []) else some (AV.tup [AV.sl (List.map
  eCap (F.mapF (F.apC z.snd.fst) z.snd.snd.snd.snd z.snd.snd.snd.fst)), (vI (0 : Int))], []) else none else none else none := by kernel_rfl

def encRAp1 (l : List Cap) (g : Int) : List AV := [.sl (l.map eCap), vI g]

def encRAp (a : (List Cap) × Int) : List AV := encRAp1 a.1 a.2

theorem encRAp_inj (a a' : (List Cap) × Int) (h : encRAp a = encRAp a') : a = a' := by
  simp only [encRAp, encRAp1] at h
  try simp [strs_inj, ints_inj, bools_inj, eCaps_inj, eCap_iff, eL_eCaps_inj, eMchs_inj, eMch_iff, eWrds_inj, eWrd_iff, eFnds_inj, eFnd_iff, eRatios_inj, eRatio_iff, eWays_inj, eWay_iff] at h
  grind

theorem unRAp (l : List Cap) (g : Int) : unenc encRAp ([AV.sl (List.map eCap l), (vI g)]) = some (l, g) := unenc_of encRAp_inj (l, g) rfl

def resRAp1 (l : List Cap) (g : Int) : AV × Heap := (.tup [.sl ((F.apart l g).1.map eCap), vI (F.apart l g).2], [])

def preRAp1 (l : List Cap) (g : Int) : Bool := F.smC l

noncomputable def oRAp : Orc := orc 36 false encRAp (fun a => preRAp1 a.1 a.2) fun a => resRAp1 a.1 a.2

theorem okRAp : OrcOK Tryd.prog noG oRAp := by
  refine mk_ok Tryd.f36 (keep := false) (by kernel_rfl) (by kernel_rfl) enRAp_ok mixed (one_loop (x0 := loopN Tryd.f36 0) (by kernel_rfl) (lpo_ok ?_)) (by first | exact fun _ _ => ⟨rfl, rfl⟩ | (intro h; cases h)) ?_
  · rintro ⟨n, g, l, out, k⟩ hp
    exact lpRAp_ok n g l out k hp
  rintro ⟨l, g⟩ hpre hok
  show (runF enRAp false _ (encRAp1 _ _)).val = some (resRAp1 _ _)
  unfold encRAp1 resRAp1
  rw [evRAp]
  simp only [preRAp1] at hpre
  simp only [unRhC, unIsTm, unClK, preRhC1, preIsTm1, preClK1, unstRAp, unstRAp0, prlRAp, outRAp, etaCap, etaMch, etaWrd, etaFnd, etaRatio, etaWay, Option.bind_some, List.length_map, unStrs, unInts, unBools, unCaps, uneL_eCaps, unMchs, unWrds, unFnds, unRatios, unWays, F.lt, F.le, cond_true, cond_false, Bool.and_true, Bool.true_and, hpre, F.apart, Bool.not_not]
  by_cases h0 : F.chkC l = 0
  case neg =>
    rw [bne1 h0]; rfl
  rw [bne0 h0]
  have c1 := F.chk_sm h0
  have c2 := F.chk_len h0
  have c4 : F.tmL l = true := F.chk_tm h0
  have c6 : F.eqd l l 0 = true := F.eqd_self l
  simp only [cond_false]
  cases h1 : F.noTime g
  case true => rfl
  have c5 : F.tm g = true := by unfold F.tm; rw [h1]; rfl
  have w1 : IntKind.i64.wrap ((l.length : Int) - 1) = (l.length : Int) - 1 := wrap_id (by omega) (by omega)
  simp only [cond_false, c1, cond_true, Option.bind_some, decide_eq_true c2, Nat.zero_le, decide_true, Bool.and_true, Bool.and_self, c4, c5, c6, F.mapF_zero, List.drop_zero, w1, unstRAp0]
  cases F.anyN (F.apB g) l <;> rfl

end M
end Go.Proofs.YtniealifncgilaaDoor
