/- What is proved here: the times at which captions change (no statement of the seat). -/
import Derived.Test.YtdmccifaggmmkaaDoorC53
import Derived.Test.YtdmccifaggmmkaaDoorC54
namespace Go.Proofs.YtdmccifaggmmkaaDoor
open Go Go.RowKit
set_option linter.unusedVariables false
set_option linter.unusedSimpArgs false

/-- The times at which other captions are there. -/
def F.chgs (l : List Cap) : List Int := F.cmpI (F.srtI (F.ftT l))

def F.changes (l : List Cap) : List Int × Int := bif F.chkC l != 0 then ([], F.chkC l) else (F.chgs l, 0)

theorem F.sameIL_iff {a b : List Int} : F.sameIL a b = true → a = b := by
  unfold F.sameIL F.sameIs
  intro h
  rw [Bool.and_eq_true, decide_eq_true_eq] at h
  obtain ⟨h1, h2⟩ := h
  induction a generalizing b with
  | nil => exact (List.length_eq_zero_iff.1 h1.symm).symm
  | cons x a ih =>
    cases b with
    | nil => cases h1
    | cons y b =>
      simp only [List.zip_cons_cons, List.all_cons, Bool.and_eq_true, beq_iff_eq] at h2
      rw [h2.1, ih (Nat.succ.inj h1) h2.2]

theorem F.mem_actF {t : Int} {x : Int} : ∀ {l : List Cap} {k : Nat}, x ∈ F.actF t k l ↔ ∃ i c, l[i]? = some c ∧ F.isOn t c = true ∧ x = ((k + i : Nat) : Int)
  | [], k => by simp [F.actF]
  | c :: l, k => by
    have ih := F.mem_actF (t := t) (x := x) (l := l) (k := k + 1)
    rw [F.actF]
    constructor
    · intro h
      cases hc : F.isOn t c <;> rw [hc] at h
      · obtain ⟨i, d, h1, h2, h3⟩ := ih.1 h
        exact ⟨i + 1, d, h1, h2, by omega⟩
      · rcases List.mem_cons.1 h with rfl | h
        · exact ⟨0, c, rfl, hc, rfl⟩
        · obtain ⟨i, d, h1, h2, h3⟩ := ih.1 h
          exact ⟨i + 1, d, h1, h2, by omega⟩
    · rintro ⟨i, d, h1, h2, h3⟩
      cases i with
      | zero =>
        cases h1
        rw [h2, cond_true, h3]
        exact List.mem_cons_self ..
      | succ i =>
        have := ih.2 ⟨i, d, h1, h2, by omega⟩
        cases F.isOn t c
        · exact this
        · exact List.mem_cons_of_mem _ this

/-- Where a caption begins or ends, others are there. -/
theorem F.chg_yes {l : List Cap} {c : Cap} (hc : c ∈ l) (h : c.fr < c.to) {t : Int} (ht : t = c.fr ∨ t = c.to) : F.sameIL (F.actF (t - 1) 0 l) (F.actF t 0 l) = false := by
  cases hs : F.sameIL (F.actF (t - 1) 0 l) (F.actF t 0 l)
  · rfl
  · exfalso
    have e := F.sameIL_iff hs
    obtain ⟨i, hi⟩ := List.mem_iff_getElem?.1 hc
    have on : ∀ t, F.isOn t c = decide (c.fr ≤ t ∧ t < c.to) := fun t => by unfold F.isOn F.le F.lt; simp
    have iff : ∀ t, ((0 + i : Nat) : Int) ∈ F.actF t 0 l ↔ (c.fr ≤ t ∧ t < c.to) := fun t => by
      rw [F.mem_actF]
      constructor
      · rintro ⟨j, d, h1, h2, h3⟩
        have : j = i := by omega
        subst this
        rw [hi] at h1
        cases h1
        simpa [on] using h2
      · intro h
        exact ⟨i, c, hi, by simpa [on] using h, rfl⟩
    have h1 := iff (t - 1)
    have h2 := iff t
    rw [e, h2] at h1
    rcases ht with rfl | rfl <;> omega

theorem F.mem_ftT {l : List Cap} {t : Int} (h : t ∈ F.ftT l) : ∃ c ∈ l, t = c.fr ∨ t = c.to := by
  obtain ⟨c, hc, h⟩ := List.mem_flatMap.1 h
  exact ⟨c, hc, by simpa using h⟩

namespace M

theorem takeC (xs ys : List Int) : ((xs ++ ys).map eI).take xs.length = xs.map eI := by rw [List.map_append, List.take_append_of_le_length (by simp), List.take_of_length_le (by simp)]

def stCg (l : List Cap) (out : List Int) (k : Nat) : St := ⟨[(15, vI k), (14, vI l.length), (13, .sl (l.map eCap)), (5, .own 5)], [(5, ⟨false, 3, 1, out.map eI⟩)]⟩

def stCg1 (a : (List Cap) × (List Int) × Nat) : St := stCg a.1 a.2.1 a.2.2

theorem stCg_inj (a a' : (List Cap) × (List Int) × Nat) (h : stCg1 a = stCg1 a') : a = a' := by
  simp only [stCg1, stCg] at h
  try simp [strs_inj, ints_inj, bools_inj, eCaps_inj, eCap_iff, eL_eCaps_inj, eMchs_inj, eMch_iff, eWrds_inj, eWrd_iff, eFnds_inj, eFnd_iff, eRatios_inj, eRatio_iff, eWays_inj, eWay_iff] at h
  grind

theorem unstCg (l : List Cap) (out : List Int) (k : Nat) : unenc stCg1 (St.mk [(15, (vI (↑k : Int))), (14, (vI (↑(List.length l) : Int))), (13, AV.sl (List.map eCap l)), (5, .own 5)] [(5, Blk.mk false 3 1 (List.map eI out))]) = some (l, out, k) := unenc_of stCg_inj (l, out, k) rfl

theorem unstCg0 (l : List Cap)  : unenc stCg1 (St.mk [(15, (vI (0 : Int))), (14, (vI (↑(List.length l) : Int))), (13, AV.sl (List.map eCap l)), (5, .own 5)] [(5, Blk.mk false 3 1 [])]) = some (l, [], 0) := unenc_of stCg_inj (l, [], 0) rfl

def outCg (l : List Cap) (out : List Int) (k : Nat) : T (Ex × St) := .ret (.exit 0, ⟨[(5, .own 5)], [(5, ⟨false, 3, 1, (out ++ F.ftT (l.drop k)).map eI⟩)]⟩)

noncomputable def prlCg (l : List Cap) (out : List Int) (k : Nat) : Bool := decide (l.length ≤ 500) && decide (k ≤ l.length) && decide (out.length = 2 * k)

noncomputable def lpCg : Nat × (St → T (Ex × St)) := (6, lpo [15, 14, 13, 5] [5] stCg1 (fun a => prlCg a.1 a.2.1 a.2.2) fun a => outCg a.1 a.2.1 a.2.2)

noncomputable def enCg : Env := envH ty noG lks [oChC] [oSo, oCpt] [] [lpCg]

theorem enCg_ok : EnvOK Tryd.prog enCg := by
  refine envH_ok lks_ok ty_ok ?_ ?_
  · simp only [List.forall_mem_cons]
    exact ⟨okChC, by simp⟩
  · simp only [List.forall_mem_cons]
    exact ⟨okSo, okCpt, by simp⟩

theorem evCgL (l : List Cap) (out : List Int) (k : Nat) : ((exec enCg (loopN Tryd.f16 0) (stCg l out k)).bind (lessX ([15, 14, 13, 5], [5]) ([5], [5]) ([], []))).val =
  bif decide ((↑k : Int) < (↑(List.length l) : Int)) then Option.bind (unenc (List.map eCap) (List.map eCap l)) fun (z : List Cap) => bif decide (k < List.length z) then bif
  Nat.ble ((List.length (List.map eI out) + (2 : Nat)) * (8 : Nat)) (140737488355328 : Nat) && true then some (Ex.normal, St.mk [(15, (vI (IntKind.wrap IntKind.i64 ((↑k :
  Int) + (1 : Int))))), (14, (vI (↑(List.length l) : Int))), (13, AV.sl (List.map eCap l)), (5, .own 5)] [(5, Blk.mk false 3 1 (List.map eI out ++ [[(vI (List.getD z k
  (Cap.mk (0 : Int) (0 : Int) [] (0 : Int) false false)).fr)], [(vI (List.getD z k (Cap.mk (0 : Int) (0 : Int) [] (0 : Int) false false)).to)]]))]) else none else none else
  some (Ex.exit (0 : Nat), St.mk [(5, .own 5)] [(5, Blk.mk false 3 1 (List.map eI out))]) := (execR_bind _ _ _).symm.trans (by kernel_rfl)

theorem lpCg_ok (l : List Cap) (out : List Int) (k : Nat) (hp : prlCg l out k = true) : ∀ ex s', (outCg l out k).val = some (ex, s') → LoopOK enCg (loopN Tryd.f16 0) (stCg l out k) ex s' := by
  simp only [prlCg, Bool.and_eq_true, decide_eq_true_eq] at hp
  obtain ⟨⟨h1, h2⟩, h3⟩ := hp
  refine loop_gen (st := fun a : List Int × Nat => stCg l a.1 a.2) (out := fun a => outCg l a.1 a.2) (I := fun a => a.2 ≤ l.length ∧ a.1.length = 2 * a.2) (n := ([15, 14, 13, 5], [5])) (e := ([5], [5])) (r := ([], [])) (fun a => l.length - a.2) ?_ (out, k) ⟨h2, h3⟩
  rintro ⟨out, k⟩ ⟨hk, ho⟩
  simp only at hk ho
  by_cases hlt : k < l.length
  · right
    have hy : l[k]? = some l[k] := List.getElem?_eq_getElem hlt
    generalize l[k] = y at hy
    have hb : Nat.ble ((out.length + 2) * 8) 140737488355328 = true := ble_t (by omega)
    refine ⟨(out ++ [y.fr, y.to], k + 1), ?_, rfl, ⟨by simp only; omega, by simp; omega⟩, by simp only; omega, ?_⟩
    · rw [evCgL]
      simp only [unChC, unSo, unCpt, preChC1, preSo1, preCpt1, unstCg, unstCg0, prlCg, outCg, etaCap, etaMch, etaWrd, etaFnd, etaRatio, etaWay, Option.bind_some, List.length_map, unStrs, unInts, unBools, unCaps, uneL_eCaps, unMchs, unWrds, unFnds, unRatios, unWays, F.lt, F.le, cond_true, cond_false, Bool.and_true, Bool.true_and, cast_lt hlt, decide_eq_true hlt, next_at hlt (by omega : l.length ≤ 9223372036854775807), getD_at hy, stCg, hb, app2I]
      try rfl
    · simp only [outCg, drop_at hy]
      simp [F.ftT]
  · have : k = l.length := by omega
    subst this
    left
    refine ⟨(.exit 0, ⟨[(5, .own 5)], [(5, ⟨false, 3, 1, out.map eI⟩)]⟩), ?_, ?_, by simp, rfl⟩
    · rw [evCgL]; simp
    · simp only [outCg, List.drop_length, F.ftT, List.flatMap_nil, List.append_nil]
      rfl

theorem evCg (l : List Cap) : (runF enCg false Tryd.f16 [.sl (l.map eCap)]).val =
  Option.bind (unenc encChC [AV.sl (List.map eCap l)]) fun (z : List Cap) => bif F.smC z then bif F.chkC z != (0 : Int) then some (AV.tup [AV.sl [], (vI (F.chkC z))], [])
  else Option.bind (unenc stCg1 (St.mk [(15, (vI (0 : Int))), (14, (vI (↑(List.length (List.map eCap l)) : Int))), (13, AV.sl (List.map eCap l)), (5, .own 5)] [(5, Blk.mk
  false 3 1 [])])) fun (z : List Cap × List Int × Nat) => bif decide (List.length z.fst ≤ (500 : Nat)) && decide (z.snd.snd ≤ List.length z.fst) && decide (List.length
  z.snd.fst = (2 : Nat) * z.snd.snd) && true then Option.bind (unenc encSo ([.own 900], [(900, Blk.mk false 3 1 (List.map eI (z.snd.fst ++ F.ftT (List.drop z.snd.snd
  z.fst))))])) fun (z : List Int) => bif decide (List.length z ≤ (100000 : Nat)) then Option.bind (unenc encCpt ([.own 900], [(900, Blk.mk false 3 1 (List.map eI (F.srtI
  z)))])) fun (z : List Int) => bif decide (List.length z ≤ (100000 : Nat)) then some (AV.tup [AV.sl (List.take (List.length (F.cmpI z)) (List.map eI (F.cmpI z ++
  List.replicate (List.length z - List.length (F.cmpI z)) (0 : Int)))), (vI (0 : Int))], []) else none else none else none else none := (runFR_val).symm.trans (by kernel_rfl)

def encCg1 (l : List Cap) : List AV := [.sl (l.map eCap)]

def encCg (a : (List Cap)) : List AV := encCg1 a

theorem encCg_inj (a a' : (List Cap)) (h : encCg a = encCg a') : a = a' := by
  simp only [encCg, encCg1] at h
  try simp [strs_inj, ints_inj, bools_inj, eCaps_inj, eCap_iff, eL_eCaps_inj, eMchs_inj, eMch_iff, eWrds_inj, eWrd_iff, eFnds_inj, eFnd_iff, eRatios_inj, eRatio_iff, eWays_inj, eWay_iff] at h
  grind

theorem unCg (l : List Cap) : unenc encCg ([AV.sl (List.map eCap l)]) = some (l) := unenc_of encCg_inj (l) rfl

def resCg1 (l : List Cap) : AV × Heap := (.tup [.sl ((F.changes l).1.map eI), vI (F.changes l).2], [])

def preCg1 (l : List Cap) : Bool := F.smC l

noncomputable def oCg : Orc := orc 16 false encCg (fun a => preCg1 a) fun a => resCg1 a

theorem okCg : OrcOK Tryd.prog noG oCg := by
  refine mk_ok Tryd.f16 (keep := false) (by kernel_rfl) (by kernel_rfl) enCg_ok mixed (one_loop (x0 := loopN Tryd.f16 0) (by kernel_rfl) (lpo_ok ?_)) (by first | exact fun _ _ => ⟨rfl, rfl⟩ | (intro h; cases h)) ?_
  · rintro ⟨l, out, k⟩ hp
    exact lpCg_ok l out k hp
  rintro l hpre hok
  show (runF enCg false _ (encCg1 _)).val = some (resCg1 _)
  unfold encCg1 resCg1
  rw [evCg]
  simp only [preCg1] at hpre
  simp only [unChC, unSo, unCpt, preChC1, preSo1, preCpt1, unstCg, unstCg0, prlCg, outCg, etaCap, etaMch, etaWrd, etaFnd, etaRatio, etaWay, Option.bind_some, List.length_map, unStrs, unInts, unBools, unCaps, uneL_eCaps, unMchs, unWrds, unFnds, unRatios, unWays, F.lt, F.le, cond_true, cond_false, Bool.and_true, Bool.true_and, hpre, F.changes, List.drop_zero, List.nil_append, Nat.zero_le, decide_true, List.length_nil, takeC]
  by_cases h0 : F.chkC l = 0
  · rw [bne0 h0]
    have h5 := F.chk_len h0
    have d1 : decide ((F.ftT l).length ≤ 100000) = true := decide_eq_true (by rw [F.ftT_len]; omega)
    have d2 : decide ((F.srtI (F.ftT l)).length ≤ 100000) = true := decide_eq_true (by rw [F.srtI_len, F.ftT_len]; omega)
    simp only [cond_false, decide_eq_true h5, Bool.and_self, cond_true, d1, d2, F.chgs, Nat.mul_zero, decide_true]
  · rw [bne1 h0]; rfl

end M
end Go.Proofs.YtdmccifaggmmkaaDoor
