/- What is proved here: the captions that are there at a time, of both (no statement of the seat). -/
import Derived.Test.YtlnflhmepnbcmaaDoorC52
import Derived.Test.YtlnflhmepnbcmaaDoorC33
namespace Go.Proofs.YtlnflhmepnbcmaaDoor
open Go Go.RowKit
set_option linter.unusedVariables false
set_option linter.unusedSimpArgs false

def F.isOn (t : Int) (c : Cap) : Bool := F.le c.fr t && F.lt t c.to

/-- The numbers, from k on, of those that are there. -/
def F.actF (t : Int) : Nat → List Cap → List Int
  | _, [] => []
  | k, c :: l => bif F.isOn t c then (k : Int) :: F.actF t (k + 1) l else F.actF t (k + 1) l

theorem F.actF_len (t : Int) : ∀ (k : Nat) (l : List Cap), (F.actF t k l).length ≤ l.length
  | _, [] => Nat.le_refl _
  | k, c :: l => by
    have := F.actF_len t (k + 1) l
    rw [F.actF]
    cases F.isOn t c <;> simp <;> omega

def F.active (l : List Cap) (t : Int) : List Int × Int :=
  bif F.chkC l != 0 then ([], F.chkC l) else bif F.noTime t then ([], 1) else (F.actF t 0 l, 0)

/-- The times of captions. -/
def F.ftT (l : List Cap) : List Int := l.flatMap fun c => [c.fr, c.to]

theorem F.ftT_len (l : List Cap) : (F.ftT l).length = 2 * l.length := by
  induction l with
  | nil => rfl
  | cons c l ih =>
    have e : F.ftT (c :: l) = [c.fr, c.to] ++ F.ftT l := rfl
    rw [e, List.length_append, ih]; simp; omega

namespace M

theorem app2I (xs : List Int) (a b : Int) : xs.map eI ++ [[vI a], [vI b]] = (xs ++ [a, b]).map eI := by simp [eI]

theorem app1I (xs : List Int) (a : Int) : xs.map eI ++ [[vI a]] = (xs ++ [a]).map eI := by simp [eI]

def stAc (l : List Cap) (t : Int) (out : List Int) (k : Nat) : St := ⟨[(19, vI k), (18, vI l.length), (17, .sl (l.map eCap)), (7, .own 7), (1, vI t)], [(7, ⟨false, 3, 1, out.map eI⟩)]⟩

def stAc1 (a : (List Cap) × Int × (List Int) × Nat) : St := stAc a.1 a.2.1 a.2.2.1 a.2.2.2

theorem stAc_inj (a a' : (List Cap) × Int × (List Int) × Nat) (h : stAc1 a = stAc1 a') : a = a' := by
  simp only [stAc1, stAc] at h
  try simp [strs_inj, ints_inj, bools_inj, eCaps_inj, eCap_iff, eL_eCaps_inj, eMchs_inj, eMch_iff, eWrds_inj, eWrd_iff, eFnds_inj, eFnd_iff, eRatios_inj, eRatio_iff, eWays_inj, eWay_iff] at h
  grind

theorem unstAc (l : List Cap) (t : Int) (out : List Int) (k : Nat) : unenc stAc1 (St.mk [(19, (vI (↑k : Int))), (18, (vI (↑(List.length l) : Int))), (17, AV.sl (List.map eCap l)), (7, .own 7), (1, (vI t))] [(7, Blk.mk false 3 1 (List.map eI out))]) = some (l, t, out, k) := unenc_of stAc_inj (l, t, out, k) rfl

theorem unstAc0 (l : List Cap) (t : Int)  : unenc stAc1 (St.mk [(19, (vI (0 : Int))), (18, (vI (↑(List.length l) : Int))), (17, AV.sl (List.map eCap l)), (7, .own 7), (1, (vI t))] [(7, Blk.mk false 3 1 [])]) = some (l, t, [], 0) := unenc_of stAc_inj (l, t, [], 0) rfl

def outAc (l : List Cap) (t : Int) (out : List Int) (k : Nat) : T (Ex × St) := .ret (.exit 0, ⟨[(7, .own 7)], [(7, ⟨false, 3, 1, (out ++ F.actF t k (l.drop k)).map eI⟩)]⟩)

noncomputable def prlAc (l : List Cap) (t : Int) (out : List Int) (k : Nat) : Bool := decide (l.length ≤ 500) && decide (k ≤ l.length) && decide (out.length ≤ k)

noncomputable def lpAc : Nat × (St → T (Ex × St)) := (8, lpo [19, 18, 17, 7, 1] [7] stAc1 (fun a => prlAc a.1 a.2.1 a.2.2.1 a.2.2.2) fun a => outAc a.1 a.2.1 a.2.2.1 a.2.2.2)

def stRAc (l : List Cap) (t : Int) (out : List Int) (k : Nat) : St := ⟨[(10, vI k), (9, vI l.length), (8, .sl (l.map eCap)), (5, .own 5), (1, vI t)], [(5, ⟨false, 3, 1, out.map eI⟩)]⟩

def stRAc1 (a : (List Cap) × Int × (List Int) × Nat) : St := stRAc a.1 a.2.1 a.2.2.1 a.2.2.2

theorem stRAc_inj (a a' : (List Cap) × Int × (List Int) × Nat) (h : stRAc1 a = stRAc1 a') : a = a' := by
  simp only [stRAc1, stRAc] at h
  try simp [strs_inj, ints_inj, bools_inj, eCaps_inj, eCap_iff, eL_eCaps_inj, eMchs_inj, eMch_iff, eWrds_inj, eWrd_iff, eFnds_inj, eFnd_iff, eRatios_inj, eRatio_iff, eWays_inj, eWay_iff] at h
  grind

theorem unstRAc (l : List Cap) (t : Int) (out : List Int) (k : Nat) : unenc stRAc1 (St.mk [(10, (vI (↑k : Int))), (9, (vI (↑(List.length l) : Int))), (8, AV.sl (List.map eCap l)), (5, .own 5), (1, (vI t))] [(5, Blk.mk false 3 1 (List.map eI out))]) = some (l, t, out, k) := unenc_of stRAc_inj (l, t, out, k) rfl

theorem unstRAc0 (l : List Cap) (t : Int)  : unenc stRAc1 (St.mk [(10, (vI (0 : Int))), (9, (vI (↑(List.length l) : Int))), (8, AV.sl (List.map eCap l)), (5, .own 5), (1, (vI t))] [(5, Blk.mk false 3 1 [])]) = some (l, t, [], 0) := unenc_of stRAc_inj (l, t, [], 0) rfl

def outRAc (l : List Cap) (t : Int) (out : List Int) (k : Nat) : T (Ex × St) := .ret (.exit 0, ⟨[(5, .own 5)], [(5, ⟨false, 3, 1, (out ++ F.actF t k (l.drop k)).map eI⟩)]⟩)

noncomputable def prlRAc (l : List Cap) (t : Int) (out : List Int) (k : Nat) : Bool := decide (l.length ≤ 500) && decide (k ≤ l.length) && decide (out.length ≤ k)

noncomputable def lpRAc : Nat × (St → T (Ex × St)) := (3, lpo [10, 9, 8, 5, 1] [5] stRAc1 (fun a => prlRAc a.1 a.2.1 a.2.2.1 a.2.2.2) fun a => outRAc a.1 a.2.1 a.2.2.1 a.2.2.2)

noncomputable def enAc : Env := envH ty noG lks [oChC, oNoT] [] [] [lpAc]

theorem enAc_ok : EnvOK Tryd.prog enAc := by
  refine envH_ok lks_ok ty_ok ?_ ?_
  · simp only [List.forall_mem_cons]
    exact ⟨okChC, okNoT, by simp⟩
  · simp

noncomputable def enRAc : Env := envH ty noG lks [] [] [] [lpRAc]

theorem enRAc_ok : EnvOK Tryd.prog enRAc := by
  refine envH_ok lks_ok ty_ok ?_ ?_
  · simp
  · simp

theorem actF_fold {l : List Cap} {t : Int} {out : List Int} {k : Nat} {y : Cap} (hy : l[k]? = some y) : out ++ F.actF t k (l.drop k) = (bif F.isOn t y then out ++ [(k : Int)] else out) ++ F.actF t (k + 1) (l.drop (k + 1)) := by
  rw [drop_at hy, F.actF]
  cases F.isOn t y <;> simp

theorem evAcL (l : List Cap) (t : Int) (out : List Int) (k : Nat) : ((exec enAc (loopN Tryd.f18 0) (stAc l t out k)).bind (lessX ([19, 18, 17, 7, 1], [7]) ([7], [7]) ([], []))).val =
  bif decide ((↑k : Int) < (↑(List.length l) : Int)) then Option.bind (unenc (List.map eCap) (List.map eCap l)) fun (z : List Cap) => bif decide (k < List.length z) then bif
  bif decide ((List.getD z k (Cap.mk (0 : Int) (0 : Int) [] (0 : Int) false false)).fr ≤ t) then decide (t < (List.getD z k (Cap.mk (0 : Int) (0 : Int) [] (0 : Int) false
  false)).to) else false then bif Nat.ble ((List.length (List.map eI out) + (1 : Nat)) * (8 : Nat)) (140737488355328 : Nat) && true then some (Ex.normal, St.mk [(19, (vI
  (IntKind.wrap IntKind.i64 ((↑k : Int) + (1 : Int))))), (18, (vI (↑(List.length l) : Int))), (17, AV.sl (List.map eCap l)), (7, .own 7), (1, (vI t))] [(7, Blk.mk false 3 1
  (List.map eI out ++ [[(vI (↑k : Int))]]))]) else none else some (Ex.normal, St.mk [(19, (vI (IntKind.wrap IntKind.i64 ((↑k : Int) + (1 : Int))))), (18, (vI (↑(List.length
  l) : Int))), (17, AV.sl (List.map eCap l)), (7, .own 7), (1, (vI t))] [(7, Blk.mk false 3 1 (List.map eI out))]) else none else some (Ex.exit (0 : Nat), St.mk [(7, .own
  7)] [(7, Blk.mk false 3 1 (List.map eI out))]) := (execR_bind _ _ _).symm.trans (by kernel_rfl)

theorem lpAc_ok (l : List Cap) (t : Int) (out : List Int) (k : Nat) (hp : prlAc l t out k = true) : ∀ ex s', (outAc l t out k).val = some (ex, s') → LoopOK enAc (loopN Tryd.f18 0) (stAc l t out k) ex s' := by
  simp only [prlAc, Bool.and_eq_true, decide_eq_true_eq] at hp
  obtain ⟨⟨h1, h2⟩, h3⟩ := hp
  refine loop_gen (st := fun a : List Int × Nat => stAc l t a.1 a.2) (out := fun a => outAc l t a.1 a.2) (I := fun a => a.2 ≤ l.length ∧ a.1.length ≤ a.2) (n := ([19, 18, 17, 7, 1], [7])) (e := ([7], [7])) (r := ([], [])) (fun a => l.length - a.2) ?_ (out, k) ⟨h2, h3⟩
  rintro ⟨out, k⟩ ⟨hk, ho⟩
  simp only at hk ho
  by_cases hlt : k < l.length
  · right
    have hy : l[k]? = some l[k] := List.getElem?_eq_getElem hlt
    generalize l[k] = y at hy
    have hb : Nat.ble ((out.length + 1) * 8) 140737488355328 = true := ble_t (by omega)
    refine ⟨(bif F.isOn t y then out ++ [(k : Int)] else out, k + 1), ?_, rfl, ⟨by simp only; omega, by cases F.isOn t y <;> simp <;> omega⟩, by simp only; omega, ?_⟩
    · rw [evAcL]
      simp only [unChC, unNoT, preChC1, preNoT1, unstAc, unstAc0, prlAc, outAc, etaCap, etaMch, etaWrd, etaFnd, etaRatio, etaWay, Option.bind_some, List.length_map, unStrs, unInts, unBools, unCaps, uneL_eCaps, unMchs, unWrds, unFnds, unRatios, unWays, F.lt, F.le, cond_true, cond_false, Bool.and_true, Bool.true_and, cast_lt hlt, decide_eq_true hlt, next_at hlt (by omega : l.length ≤ 9223372036854775807), getD_at hy, stAc, hb, app1I]
      unfold F.isOn F.le F.lt
      cases decide (y.fr ≤ t) <;> cases decide (t < y.to) <;> rfl
    · simp only [outAc, actF_fold hy]
  · have : k = l.length := by omega
    subst this
    left
    refine ⟨(.exit 0, ⟨[(7, .own 7)], [(7, ⟨false, 3, 1, out.map eI⟩)]⟩), ?_, ?_, by simp, rfl⟩
    · rw [evAcL]; simp
    · simp only [outAc, List.drop_length, F.actF, List.append_nil]
      rfl

theorem evAc (l : List Cap) (t : Int) : (runF enAc false Tryd.f18 [.sl (l.map eCap), vI t]).val =
  Option.bind (unenc encChC [AV.sl (List.map eCap l)]) fun (z : List Cap) => bif F.smC z then bif F.chkC z != (0 : Int) then some (AV.tup [AV.sl [], (vI (F.chkC z))], [])
  else Option.bind (unenc encNoT [(vI t)]) fun (z : Int) => bif F.noTime z then some (AV.tup [AV.sl [], (vI (1 : Int))], []) else Option.bind (unenc stAc1 (St.mk [(19, (vI
  (0 : Int))), (18, (vI (↑(List.length (List.map eCap l)) : Int))), (17, AV.sl (List.map eCap l)), (7, .own 7), (1, (vI t))] [(7, Blk.mk false 3 1 [])])) fun (z : List Cap ×
  Int × List Int × Nat) => bif decide (List.length z.fst ≤ (500 : Nat)) && decide (z.snd.snd.snd ≤ List.length z.fst) && decide (List.length z.snd.snd.fst ≤ z.snd.snd.snd)
  && true then some (AV.tup [AV.sl (List.map eI (z.snd.snd.fst ++ F.actF z.snd.fst z.snd.snd.snd (List.drop z.snd.snd.snd z.fst))), (vI (0 : Int))], []) else none else none := (runFR_val).symm.trans (by kernel_rfl)

def encAc1 (l : List Cap) (t : Int) : List AV := [.sl (l.map eCap), vI t]

def encAc (a : (List Cap) × Int) : List AV := encAc1 a.1 a.2

theorem encAc_inj (a a' : (List Cap) × Int) (h : encAc a = encAc a') : a = a' := by
  simp only [encAc, encAc1] at h
  try simp [strs_inj, ints_inj, bools_inj, eCaps_inj, eCap_iff, eL_eCaps_inj, eMchs_inj, eMch_iff, eWrds_inj, eWrd_iff, eFnds_inj, eFnd_iff, eRatios_inj, eRatio_iff, eWays_inj, eWay_iff] at h
  grind

theorem unAc (l : List Cap) (t : Int) : unenc encAc ([AV.sl (List.map eCap l), (vI t)]) = some (l, t) := unenc_of encAc_inj (l, t) rfl

def resAc1 (l : List Cap) (t : Int) : AV × Heap := (.tup [.sl ((F.active l t).1.map eI), vI (F.active l t).2], [])

def preAc1 (l : List Cap) (t : Int) : Bool := F.smC l

noncomputable def oAc : Orc := orc 18 false encAc (fun a => preAc1 a.1 a.2) fun a => resAc1 a.1 a.2

theorem okAc : OrcOK Tryd.prog noG oAc := by
  refine mk_ok Tryd.f18 (keep := false) (by kernel_rfl) (by kernel_rfl) enAc_ok mixed (one_loop (x0 := loopN Tryd.f18 0) (by kernel_rfl) (lpo_ok ?_)) (by first | exact fun _ _ => ⟨rfl, rfl⟩ | (intro h; cases h)) ?_
  · rintro ⟨l, t, out, k⟩ hp
    exact lpAc_ok l t out k hp
  rintro ⟨l, t⟩ hpre hok
  show (runF enAc false _ (encAc1 _ _)).val = some (resAc1 _ _)
  unfold encAc1 resAc1
  rw [evAc]
  simp only [preAc1] at hpre
  simp only [unChC, unNoT, preChC1, preNoT1, unstAc, unstAc0, prlAc, outAc, etaCap, etaMch, etaWrd, etaFnd, etaRatio, etaWay, Option.bind_some, List.length_map, unStrs, unInts, unBools, unCaps, uneL_eCaps, unMchs, unWrds, unFnds, unRatios, unWays, F.lt, F.le, cond_true, cond_false, Bool.and_true, Bool.true_and, hpre, F.active, List.drop_zero, List.nil_append, Nat.zero_le, decide_true, List.length_nil]
  by_cases h0 : F.chkC l = 0
  · rw [bne0 h0]
    simp only [cond_false, decide_eq_true (F.chk_len h0), Bool.and_self, cond_true]
    cases F.noTime t <;> rfl
  · rw [bne1 h0]; rfl

def encRAc1 (l : List Cap) (t : Int) : List AV := [.sl (l.map eCap), vI t]

def encRAc (a : (List Cap) × Int) : List AV := encRAc1 a.1 a.2

theorem encRAc_inj (a a' : (List Cap) × Int) (h : encRAc a = encRAc a') : a = a' := by
  simp only [encRAc, encRAc1] at h
  try simp [strs_inj, ints_inj, bools_inj, eCaps_inj, eCap_iff, eL_eCaps_inj, eMchs_inj, eMch_iff, eWrds_inj, eWrd_iff, eFnds_inj, eFnd_iff, eRatios_inj, eRatio_iff, eWays_inj, eWay_iff] at h
  grind

theorem unRAc (l : List Cap) (t : Int) : unenc encRAc ([AV.sl (List.map eCap l), (vI t)]) = some (l, t) := unenc_of encRAc_inj (l, t) rfl

def resRAc1 (l : List Cap) (t : Int) : AV × Heap := (.sl ((F.actF t 0 l).map eI), [])

def preRAc1 (l : List Cap) (t : Int) : Bool := decide (l.length ≤ 500)

def encRAct1 (l : List Cap) (t : Int) : List AV := [.sl (l.map eCap), vI t]

def encRAct (a : (List Cap) × Int) : List AV := encRAct1 a.1 a.2

theorem encRAct_inj (a a' : (List Cap) × Int) (h : encRAct a = encRAct a') : a = a' := by
  simp only [encRAct, encRAct1] at h
  try simp [strs_inj, ints_inj, bools_inj, eCaps_inj, eCap_iff, eL_eCaps_inj, eMchs_inj, eMch_iff, eWrds_inj, eWrd_iff, eFnds_inj, eFnd_iff, eRatios_inj, eRatio_iff, eWays_inj, eWay_iff] at h
  grind

theorem unRAct (l : List Cap) (t : Int) : unenc encRAct ([AV.sl (List.map eCap l), (vI t)]) = some (l, t) := unenc_of encRAct_inj (l, t) rfl

def resRAct1 (l : List Cap) (t : Int) : AV × Heap := (.tup [.sl ((F.active l t).1.map eI), vI (F.active l t).2], [])

def preRAct1 (l : List Cap) (t : Int) : Bool := F.smC l

end M
end Go.Proofs.YtlnflhmepnbcmaaDoor
