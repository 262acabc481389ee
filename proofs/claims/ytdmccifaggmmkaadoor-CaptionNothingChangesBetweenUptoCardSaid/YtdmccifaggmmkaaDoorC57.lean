/- What is proved here: the law that nothing changes between changes. -/
import Derived.Test.YtdmccifaggmmkaaDoorC56
namespace Go.Proofs.YtdmccifaggmmkaaDoor
open Go Go.RowKit
set_option linter.unusedVariables false
set_option linter.unusedSimpArgs false

def F.hasI (v : Int) (l : List Int) : Bool := l.any fun y => v == y

def F.findI {α : Type} (p : α → Bool) : Nat → List α → Option Nat
  | _, [] => none
  | k, y :: l => bif p y then some k else F.findI p (k + 1) l

def F.idxI (o : Option Nat) : Int := bif F.found o then ((F.got o 0 : Nat) : Int) else -1

theorem F.idx_any {α : Type} (p : α → Bool) : ∀ (l : List α) (k : Nat), decide (0 ≤ F.idxI (F.findI p k l)) = l.any p
  | [], _ => rfl
  | y :: l, k => by
    rw [F.findI, List.any_cons]
    cases p y
    · rw [cond_false, F.idx_any p l, Bool.false_or]
    · rw [cond_true, Bool.true_or]
      exact decide_eq_true (by show (0 : Int) ≤ ((k : Nat) : Int); omega)

theorem F.mem_cmp {xs : List Int} {y : Int} (h : y ∈ xs) : y ∈ F.cmpI xs := by
  obtain ⟨i, hi⟩ := List.mem_iff_getElem?.1 h
  have key : ∀ (n i : Nat) (y : Int), i ≤ n → xs[i]? = some y → y ∈ F.cmpI xs := by
    intro n
    induction n with
    | zero =>
      intro i y hin hi
      have : i = 0 := by omega
      subst this
      unfold F.cmpI Lib.compact Lib.compactUpTo
      exact List.mem_map.2 ⟨0, List.mem_filter.2 ⟨List.mem_range.2 (M.lt_at hi), by simp [Lib.keeps]⟩, M.getD_ints xs 0 y hi⟩
    | succ n ih =>
      intro i y hin hi
      by_cases hk : Lib.keeps xs.toArray i = true
      · unfold F.cmpI Lib.compact Lib.compactUpTo
        exact List.mem_map.2 ⟨i, List.mem_filter.2 ⟨List.mem_range.2 (M.lt_at hi), hk⟩, M.getD_ints xs i y hi⟩
      · simp only [Lib.keeps, decide_eq_true_eq, not_or, Classical.not_not] at hk
        have hi1 : i - 1 < xs.length := by have := M.lt_at hi; omega
        have hz : xs[i - 1]? = some xs[i - 1] := List.getElem?_eq_getElem hi1
        generalize xs[i - 1] = z at hz
        have e : y = z := by
          have := hk.2
          rw [M.getD_ints xs i y hi, M.getD_ints xs (i - 1) z hz] at this
          exact this
        exact ih (i - 1) y (by omega) (e ▸ hz)
  exact key i i y (Nat.le_refl _) hi

theorem F.act_same {l : List Cap} {t : Int} (h : ∀ c ∈ l, t ≠ c.fr ∧ t ≠ c.to) : ∀ k, F.actF (t - 1) k l = F.actF t k l := by
  induction l with
  | nil => intro k; rfl
  | cons c l ih =>
    intro k
    have hc := h c (List.mem_cons_self ..)
    have e : F.isOn (t - 1) c = F.isOn t c := by
      unfold F.isOn F.le F.lt
      have e1 : decide (c.fr ≤ t - 1) = decide (c.fr ≤ t) := decide_eq_decide.2 (by omega)
      have e2 : decide (t - 1 < c.to) = decide (t < c.to) := decide_eq_decide.2 (by omega)
      rw [e1, e2]
    rw [F.actF, F.actF, e, ih fun d hd => h d (List.mem_cons_of_mem _ hd)]

theorem F.chgs_no {l : List Cap} {t : Int} (h : F.hasI t (F.chgs l) = false) : F.actF (t - 1) 0 l = F.actF t 0 l := by
  have hn : ∀ x ∈ F.ftT l, t ≠ x := by
    intro x hx e
    have h1 : x ∈ F.chgs l := F.mem_cmp ((List.mergeSort_perm ..).symm.subset hx)
    have h2 : F.hasI t (F.chgs l) = true := List.any_eq_true.2 ⟨x, h1, by simpa using e⟩
    rw [h2] at h; cases h
  exact F.act_same (fun c hc => ⟨hn _ (List.mem_flatMap.2 ⟨c, hc, by simp⟩), hn _ (List.mem_flatMap.2 ⟨c, hc, by simp⟩)⟩) 0

namespace M

def stIx (l : List Int) (v : Int) (k : Nat) : St := ⟨[(8, vI k), (7, vI l.length), (1, vI v), (0, .sl (l.map eI))], []⟩

def stIx1 (a : (List Int) × Int × Nat) : St := stIx a.1 a.2.1 a.2.2

theorem stIx_inj (a a' : (List Int) × Int × Nat) (h : stIx1 a = stIx1 a') : a = a' := by
  simp only [stIx1, stIx] at h
  try simp [strs_inj, ints_inj, bools_inj, eCaps_inj, eCap_iff, eL_eCaps_inj, eMchs_inj, eMch_iff, eWrds_inj, eWrd_iff, eFnds_inj, eFnd_iff, eRatios_inj, eRatio_iff, eWays_inj, eWay_iff] at h
  grind

theorem unstIx (l : List Int) (v : Int) (k : Nat) : unenc stIx1 (St.mk [(8, (vI (↑k : Int))), (7, (vI (↑(List.length l) : Int))), (1, (vI v)), (0, AV.sl (List.map eI l))] []) = some (l, v, k) := unenc_of stIx_inj (l, v, k) rfl

theorem unstIx0 (l : List Int) (v : Int)  : unenc stIx1 (St.mk [(8, (vI (0 : Int))), (7, (vI (↑(List.length l) : Int))), (1, (vI v)), (0, AV.sl (List.map eI l))] []) = some (l, v, 0) := unenc_of stIx_inj (l, v, 0) rfl

def outIx (l : List Int) (v : Int) (k : Nat) : T (Ex × St) := .ifB (F.found (F.findI (fun y => v == y) k (l.drop k))) (.ret (.ret, ⟨[(4, vI ((F.got (F.findI (fun y => v == y) k (l.drop k)) 0 : Nat) : Int))], []⟩)) (.ret (.exit 0, ⟨[], []⟩))

noncomputable def prlIx (l : List Int) (v : Int) (k : Nat) : Bool := decide (l.length ≤ 9223372036854775807) && decide (k ≤ l.length)

noncomputable def lpIx : Nat × (St → T (Ex × St)) := (2, lpo [8, 7, 1, 0] [] stIx1 (fun a => prlIx a.1 a.2.1 a.2.2) fun a => outIx a.1 a.2.1 a.2.2)

noncomputable def enIx : Env := envH ty noG lks [] [] [] [lpIx]

theorem enIx_ok : EnvOK Tryd.prog enIx := by
  refine envH_ok lks_ok ty_ok ?_ ?_
  · simp
  · simp

theorem evIxL (l : List Int) (v : Int) (k : Nat) : ((exec enIx (loopN Tryd.f38 0) (stIx l v k)).bind (lessX ([8, 7, 1, 0], []) ([], []) ([4], []))).val =
  bif decide ((↑k : Int) < (↑(List.length l) : Int)) then Option.bind (unenc (List.map eI) (List.map eI l)) fun (z : List Int) => bif decide (k < List.length z) then bif v
  == List.getD z k (0 : Int) then some (Ex.ret, St.mk [(4, (vI (↑k : Int)))] []) else some (Ex.normal, St.mk [(8, (vI (IntKind.wrap IntKind.i64 ((↑k : Int) + (1 : Int))))),
  (7, (vI (↑(List.length l) : Int))), (1, (vI v)), (0, AV.sl (List.map eI l))] []) else none else some (Ex.exit (0 : Nat), St.mk [] []) := (execR_bind _ _ _).symm.trans (by kernel_rfl)

theorem lpIx_ok (l : List Int) (v : Int) (k : Nat) (hp : prlIx l v k = true) : ∀ ex s', (outIx l v k).val = some (ex, s') → LoopOK enIx (loopN Tryd.f38 0) (stIx l v k) ex s' := by
  simp only [prlIx, Bool.and_eq_true, decide_eq_true_eq] at hp
  refine loop_gen (st := stIx l v) (out := outIx l v) (I := fun k => k ≤ l.length) (n := ([8, 7, 1, 0], [])) (e := ([], [])) (r := ([4], [])) (fun k => l.length - k) ?_ k hp.2
  intro k hk
  by_cases hlt : k < l.length
  · have hy : l[k]? = some l[k] := List.getElem?_eq_getElem hlt
    generalize l[k] = y at hy
    have hd := drop_at hy
    cases hc : (v == y)
    · right
      refine ⟨k + 1, ?_, rfl, hlt, by omega, ?_⟩
      · rw [evIxL]
        simp only [unstIx, unstIx0, prlIx, outIx, etaCap, etaMch, etaWrd, etaFnd, etaRatio, etaWay, Option.bind_some, List.length_map, unStrs, unInts, unBools, unCaps, uneL_eCaps, unMchs, unWrds, unFnds, unRatios, unWays, F.lt, F.le, cond_true, cond_false, Bool.and_true, Bool.true_and, cast_lt hlt, decide_eq_true hlt, next_at hlt hp.1, getD_at hy, hc, stIx]
        try rfl
      · simp only [outIx, hd, F.findI, hc, cond_false]
    · left
      refine ⟨(.ret, ⟨[(4, vI k)], []⟩), ?_, ?_, by simp, rfl⟩
      · rw [evIxL]
        simp only [unstIx, unstIx0, prlIx, outIx, etaCap, etaMch, etaWrd, etaFnd, etaRatio, etaWay, Option.bind_some, List.length_map, unStrs, unInts, unBools, unCaps, uneL_eCaps, unMchs, unWrds, unFnds, unRatios, unWays, F.lt, F.le, cond_true, cond_false, Bool.and_true, Bool.true_and, cast_lt hlt, decide_eq_true hlt, next_at hlt hp.1, getD_at hy, hc, stIx]
      · simp only [outIx, hd, F.findI, hc, cond_true, F.found, F.got]
        rfl
  · have : k = l.length := by omega
    subst this
    left
    refine ⟨(.exit 0, ⟨[], []⟩), ?_, ?_, by simp, rfl⟩
    · rw [evIxL]; simp
    · simp [outIx, F.findI, F.found, T.val]

theorem evIx (l : List Int) (v : Int) : (runF enIx false Tryd.f38 [.sl (l.map eI), vI v]).val =
  Option.bind (unenc stIx1 (St.mk [(8, (vI (0 : Int))), (7, (vI (↑(List.length (List.map eI l)) : Int))), (1, (vI v)), (0, AV.sl (List.map eI l))] [])) fun (z : List Int ×
  Int × Nat) => bif decide (List.length z.fst ≤ (9223372036854775807 : Nat)) && decide (z.snd.snd ≤ List.length z.fst) && true then bif F.found (F.findI (fun (y : Int) =>
  z.snd.fst == y) z.snd.snd (List.drop z.snd.snd z.fst)) then some ((vI (↑(F.got (F.findI (fun (y : Int) => z.snd.fst == y) z.snd.snd (List.drop z.snd.snd z.fst)) (0 : Nat))
  : Int)), []) else some ((vI (-1 : Int)), []) else none := (runFR_val).symm.trans (by kernel_rfl)

def encIx1 (l : List Int) (v : Int) : List AV := [.sl (l.map eI), vI v]

def encIx (a : (List Int) × Int) : List AV := encIx1 a.1 a.2

theorem encIx_inj (a a' : (List Int) × Int) (h : encIx a = encIx a') : a = a' := by
  simp only [encIx, encIx1] at h
  try simp [strs_inj, ints_inj, bools_inj, eCaps_inj, eCap_iff, eL_eCaps_inj, eMchs_inj, eMch_iff, eWrds_inj, eWrd_iff, eFnds_inj, eFnd_iff, eRatios_inj, eRatio_iff, eWays_inj, eWay_iff] at h
  grind

theorem unIx (l : List Int) (v : Int) : unenc encIx ([AV.sl (List.map eI l), (vI v)]) = some (l, v) := unenc_of encIx_inj (l, v) rfl

def resIx1 (l : List Int) (v : Int) : AV × Heap := (vI (F.idxI (F.findI (fun y => v == y) 0 l)), [])

def preIx1 (l : List Int) (v : Int) : Bool := true

noncomputable def oIx : Orc := orc 38 true encIx (fun a => preIx1 a.1 a.2) fun a => resIx1 a.1 a.2

theorem okIx : OrcOK Tryd.prog noG oIx := by
  refine mk_ok Tryd.f38 (keep := false) (by kernel_rfl) (by kernel_rfl) enIx_ok mixed (one_loop (x0 := loopN Tryd.f38 0) (by kernel_rfl) (lpo_ok ?_)) (by first | exact fun _ _ => ⟨rfl, rfl⟩ | (intro h; cases h)) ?_
  · rintro ⟨l, v, k⟩ hp
    exact lpIx_ok l v k hp
  rintro ⟨l, v⟩ hpre hok
  show (runF enIx false _ (encIx1 _ _)).val = some (resIx1 _ _)
  unfold encIx1 resIx1
  rw [evIx]
  have hx : l.length ≤ 9223372036854775807 := by simpa using (okA_sl (hok _ (List.mem_cons_self ..))).1
  simp only [unstIx, unstIx0, prlIx, outIx, etaCap, etaMch, etaWrd, etaFnd, etaRatio, etaWay, Option.bind_some, List.length_map, unStrs, unInts, unBools, unCaps, uneL_eCaps, unMchs, unWrds, unFnds, unRatios, unWays, F.lt, F.le, cond_true, cond_false, Bool.and_true, Bool.true_and, hx, List.drop_zero, Nat.zero_le, decide_true, F.idxI]
  cases F.found (F.findI (fun y => v == y) 0 l) <;> rfl

noncomputable def enHas : Env := envH ty noG lks [oIx] [] [] []

theorem enHas_ok : EnvOK Tryd.prog enHas := by
  refine envH_ok lks_ok ty_ok ?_ ?_
  · simp only [List.forall_mem_cons]
    exact ⟨okIx, by simp⟩
  · simp

theorem evHas (l : List Int) (v : Int) : (runF enHas false Tryd.f18 [.sl (l.map eI), vI v]).val =
  Option.bind (unenc encIx [AV.sl (List.map eI l), (vI v)]) fun (z : List Int × Int) => some ((vB (decide ((0 : Int) ≤ F.idxI (F.findI (fun (y : Int) => z.snd == y) (0 :
  Nat) z.fst)))), []) := (runFR_val).symm.trans (by kernel_rfl)

def encHas1 (l : List Int) (v : Int) : List AV := [.sl (l.map eI), vI v]

def encHas (a : (List Int) × Int) : List AV := encHas1 a.1 a.2

theorem encHas_inj (a a' : (List Int) × Int) (h : encHas a = encHas a') : a = a' := by
  simp only [encHas, encHas1] at h
  try simp [strs_inj, ints_inj, bools_inj, eCaps_inj, eCap_iff, eL_eCaps_inj, eMchs_inj, eMch_iff, eWrds_inj, eWrd_iff, eFnds_inj, eFnd_iff, eRatios_inj, eRatio_iff, eWays_inj, eWay_iff] at h
  grind

theorem unHas (l : List Int) (v : Int) : unenc encHas ([AV.sl (List.map eI l), (vI v)]) = some (l, v) := unenc_of encHas_inj (l, v) rfl

def resHas1 (l : List Int) (v : Int) : AV × Heap := (vB (F.hasI v l), [])

def preHas1 (l : List Int) (v : Int) : Bool := true

noncomputable def oHas : Orc := orc 18 true encHas (fun a => preHas1 a.1 a.2) fun a => resHas1 a.1 a.2

theorem okHas : OrcOK Tryd.prog noG oHas := by
  refine mk_ok Tryd.f18 (keep := false) (by kernel_rfl) (by kernel_rfl) enHas_ok mixed (no_loops (by kernel_rfl)) (by first | exact fun _ _ => ⟨rfl, rfl⟩ | (intro h; cases h)) ?_
  rintro ⟨l, v⟩ hpre hok
  show (runF enHas false _ (encHas1 _ _)).val = some (resHas1 _ _)
  unfold encHas1 resHas1
  rw [evHas]
  simp only [unIx, preIx1, etaCap, etaMch, etaWrd, etaFnd, etaRatio, etaWay, Option.bind_some, List.length_map, unStrs, unInts, unBools, unCaps, uneL_eCaps, unMchs, unWrds, unFnds, unRatios, unWays, F.lt, F.le, cond_true, cond_false, Bool.and_true, Bool.true_and, F.idx_any, F.hasI]

noncomputable def enLNc : Env := envH ty noG lks [oAc, oCg, oEqI, oHas, oAwk] [] [] []

theorem enLNc_ok : EnvOK Tryd.prog enLNc := by
  refine envH_ok lks_ok ty_ok ?_ ?_
  · simp only [List.forall_mem_cons]
    exact ⟨okAc, okCg, okEqI, okHas, okAwk, by simp⟩
  · simp

theorem evLNc (l : List Cap) (t : Int) : (runF enLNc false Tryd.f6 [.sl (l.map eCap), vI t]).val =
  Option.bind (unenc encCg [AV.sl (List.map eCap l)]) fun (z : List Cap) => bif F.smC z then bif !bif bif (F.changes z).snd != (0 : Int) then true else decide (t < (1 :
  Int)) then true else decide ((359999999 : Int) < t) then Option.bind (unenc encHas [AV.sl (List.map eI (F.changes z).fst), (vI t)]) fun (z_1 : List Int × Int) => bif
  F.hasI z_1.snd z_1.fst then bif bif (F.changes z).snd == (0 : Int) then true else (↑(List.length (List.map eI (F.changes z).fst)) : Int) == (0 : Int) then Option.bind
  (unenc encAwk []) fun (z : Unit) => some ((vB true), []) else some ((vB false), []) else Option.bind (unenc encAc [AV.sl (List.map eCap l), (vI (IntKind.wrap IntKind.i64
  (t - (1 : Int))))]) fun (z : List Cap × Int) => bif F.smC z.fst then Option.bind (unenc encAc [AV.sl (List.map eCap l), (vI t)]) fun (z_2 : List Cap × Int) => bif F.smC
  z_2.fst then bif bif (F.active z.fst z.snd).snd == (0 : Int) then (F.active z_2.fst z_2.snd).snd == (0 : Int) else false then Option.bind (unenc encEqI [AV.sl (List.map eI
  (F.active z.fst z.snd).fst), AV.sl (List.map eI (F.active z_2.fst z_2.snd).fst)]) fun (z : List Int × List Int) => bif F.sameIL z.fst z.snd then Option.bind (unenc encAwk
  []) fun (z : Unit) => some ((vB true), []) else some ((vB false), []) else some ((vB false), []) else none else none else bif bif (F.changes z).snd == (0 : Int) then true
  else (↑(List.length (List.map eI (F.changes z).fst)) : Int) == (0 : Int) then Option.bind (unenc encAwk []) fun (z : Unit) => some ((vB true), []) else some ((vB false),
  []) else none := (runFR_val).symm.trans (by kernel_rfl)

def encLNc1 (l : List Cap) (t : Int) : List AV := [.sl (l.map eCap), vI t]

def encLNc (a : (List Cap) × Int) : List AV := encLNc1 a.1 a.2

theorem encLNc_inj (a a' : (List Cap) × Int) (h : encLNc a = encLNc a') : a = a' := by
  simp only [encLNc, encLNc1] at h
  try simp [strs_inj, ints_inj, bools_inj, eCaps_inj, eCap_iff, eL_eCaps_inj, eMchs_inj, eMch_iff, eWrds_inj, eWrd_iff, eFnds_inj, eFnd_iff, eRatios_inj, eRatio_iff, eWays_inj, eWay_iff] at h
  grind

theorem unLNc (l : List Cap) (t : Int) : unenc encLNc ([AV.sl (List.map eCap l), (vI t)]) = some (l, t) := unenc_of encLNc_inj (l, t) rfl

def resLNc1 (l : List Cap) (t : Int) : AV × Heap := (vB true, [])

def preLNc1 (l : List Cap) (t : Int) : Bool := F.smC l

noncomputable def oLNc : Orc := orc 6 false encLNc (fun a => preLNc1 a.1 a.2) fun a => resLNc1 a.1 a.2

theorem okLNc : OrcOK Tryd.prog noG oLNc := by
  refine mk_ok Tryd.f6 (keep := false) (by kernel_rfl) (by kernel_rfl) enLNc_ok mixed (no_loops (by kernel_rfl)) (by first | exact fun _ _ => ⟨rfl, rfl⟩ | (intro h; cases h)) ?_
  rintro ⟨l, t⟩ hpre hok
  show (runF enLNc false _ (encLNc1 _ _)).val = some (resLNc1 _ _)
  unfold encLNc1 resLNc1
  rw [evLNc]
  simp only [preLNc1] at hpre
  simp only [unAc, unCg, unEqI, unHas, unAwk, preAc1, preCg1, preEqI1, preHas1, preAwk1, etaCap, etaMch, etaWrd, etaFnd, etaRatio, etaWay, Option.bind_some, List.length_map, unStrs, unInts, unBools, unCaps, uneL_eCaps, unMchs, unWrds, unFnds, unRatios, unWays, F.lt, F.le, cond_true, cond_false, Bool.and_true, Bool.true_and, hpre, bne]
  unfold F.changes
  by_cases h0 : F.chkC l = 0
  · rw [bne0 h0]
    simp only [cond_false, beq_self_eq_true, Bool.not_true, cond_true]
    by_cases h1 : t < 1
    · simp only [decide_eq_true h1, cond_true, Bool.not_true, cond_false]
    · by_cases h2 : 359999999 < t
      · simp only [decide_eq_false h1, decide_eq_true h2, cond_false, Bool.not_true]
      · have w1 : IntKind.i64.wrap (t - 1) = t - 1 := wrap_id (by omega) (by omega)
        have n1 : F.noTime (t - 1) = false := by unfold F.noTime F.out; simp; omega
        have n2 : F.noTime t = false := by unfold F.noTime F.out; simp; omega
        simp only [decide_eq_false h1, decide_eq_false h2, cond_false, Bool.not_false, cond_true]
        cases h3 : F.hasI t (F.chgs l)
        · simp only [w1, cond_false, F.active, bne0 h0, n1, n2, beq_self_eq_true, cond_true, F.chgs_no h3, F.sameIL_refl]
        · simp only [cond_true]
  · have e : (F.chkC l == 0) = false := by simpa using h0
    rw [bne1 h0]
    simp only [cond_true, e, Bool.not_false, Bool.not_true, cond_false, List.length_nil, Int.natCast_zero, beq_self_eq_true]

end M
end Go.Proofs.YtdmccifaggmmkaaDoor
