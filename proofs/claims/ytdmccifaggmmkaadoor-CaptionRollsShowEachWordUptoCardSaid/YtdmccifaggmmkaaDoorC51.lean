/- What is proved here: the law that captions of words show each word. -/
import Derived.Test.YtdmccifaggmmkaaDoorC50
namespace Go.Proofs.YtdmccifaggmmkaaDoor
open Go Go.RowKit
set_option linter.unusedVariables false
set_option linter.unusedSimpArgs false

open Classical in
noncomputable def F.shA (x : List Cap) (l : List Wrd) (r h : Int) : Bool := decide ((∀ c ∈ x, F.ShC l r h c) ∧ F.apR x)

namespace M

def stLSh (x : List Cap) (l : List Wrd) (r : Int) (h : Int) (k : Nat) : St := ⟨[(33, vI k), (32, vI x.length), (31, .sl (x.map eCap)), (9, .sl (x.map eCap)), (3, vI h), (2, vI r), (0, .sl (l.map eWrd))], []⟩

def stLSh1 (a : (List Cap) × (List Wrd) × Int × Int × Nat) : St := stLSh a.1 a.2.1 a.2.2.1 a.2.2.2.1 a.2.2.2.2

theorem stLSh_inj (a a' : (List Cap) × (List Wrd) × Int × Int × Nat) (h : stLSh1 a = stLSh1 a') : a = a' := by
  simp only [stLSh1, stLSh] at h
  try simp [strs_inj, ints_inj, bools_inj, eCaps_inj, eCap_iff, eL_eCaps_inj, eMchs_inj, eMch_iff, eWrds_inj, eWrd_iff, eFnds_inj, eFnd_iff, eRatios_inj, eRatio_iff, eWays_inj, eWay_iff] at h
  grind

theorem unstLSh (x : List Cap) (l : List Wrd) (r : Int) (h : Int) (k : Nat) : unenc stLSh1 (St.mk [(33, (vI (↑k : Int))), (32, (vI (↑(List.length x) : Int))), (31, AV.sl (List.map eCap x)), (9, AV.sl (List.map eCap x)), (3, (vI h)), (2, (vI r)), (0, AV.sl
  (List.map eWrd l))] []) = some (x, l, r, h, k) := unenc_of stLSh_inj (x, l, r, h, k) rfl

theorem unstLSh0 (x : List Cap) (l : List Wrd) (r : Int) (h : Int)  : unenc stLSh1 (St.mk [(33, (vI (0 : Int))), (32, (vI (↑(List.length x) : Int))), (31, AV.sl (List.map eCap x)), (9, AV.sl (List.map eCap x)), (3, (vI h)), (2, (vI r)), (0, AV.sl
  (List.map eWrd l))] []) = some (x, l, r, h, 0) := unenc_of stLSh_inj (x, l, r, h, 0) rfl

def outLSh (x : List Cap) (l : List Wrd) (r : Int) (h : Int) (k : Nat) : T (Ex × St) := .ret (.exit 0, ⟨[(9, .sl (x.map eCap)), (0, .sl (l.map eWrd))], []⟩)

noncomputable def prlLSh (x : List Cap) (l : List Wrd) (r : Int) (h : Int) (k : Nat) : Bool := decide (x.length ≤ 500) && decide (k ≤ x.length) && decide (l.length ≤ 500) && F.shA x l r h && decide (1 ≤ r) && decide (r ≤ 15)

noncomputable def lpLSh : Nat × (St → T (Ex × St)) := (5, lpo [33, 32, 31, 9, 3, 2, 0] [] stLSh1 (fun a => prlLSh a.1 a.2.1 a.2.2.1 a.2.2.2.1 a.2.2.2.2) fun a => outLSh a.1 a.2.1 a.2.2.1 a.2.2.2.1 a.2.2.2.2)

def stLSb (x : List Cap) (l : List Wrd) (k : Nat) : St := ⟨[(77, vI k), (76, vI l.length), (75, .sl (l.map eWrd)), (9, .sl (x.map eCap))], []⟩

def stLSb1 (a : (List Cap) × (List Wrd) × Nat) : St := stLSb a.1 a.2.1 a.2.2

theorem stLSb_inj (a a' : (List Cap) × (List Wrd) × Nat) (h : stLSb1 a = stLSb1 a') : a = a' := by
  simp only [stLSb1, stLSb] at h
  try simp [strs_inj, ints_inj, bools_inj, eCaps_inj, eCap_iff, eL_eCaps_inj, eMchs_inj, eMch_iff, eWrds_inj, eWrd_iff, eFnds_inj, eFnd_iff, eRatios_inj, eRatio_iff, eWays_inj, eWay_iff] at h
  grind

theorem unstLSb (x : List Cap) (l : List Wrd) (k : Nat) : unenc stLSb1 (St.mk [(77, (vI (↑k : Int))), (76, (vI (↑(List.length l) : Int))), (75, AV.sl (List.map eWrd l)), (9, AV.sl (List.map eCap x))] []) = some (x, l, k) := unenc_of stLSb_inj (x, l, k) rfl

theorem unstLSb0 (x : List Cap) (l : List Wrd)  : unenc stLSb1 (St.mk [(77, (vI (0 : Int))), (76, (vI (↑(List.length l) : Int))), (75, AV.sl (List.map eWrd l)), (9, AV.sl (List.map eCap x))] []) = some (x, l, 0) := unenc_of stLSb_inj (x, l, 0) rfl

def outLSb (x : List Cap) (l : List Wrd) (k : Nat) : T (Ex × St) := .ret (.exit 2, ⟨[], []⟩)

noncomputable def prlLSb (x : List Cap) (l : List Wrd) (k : Nat) : Bool := decide (x.length ≤ 500) && decide (k ≤ l.length) && decide (l.length ≤ 500) && (l.all fun w => x.any fun c => c.fr == w.time)

noncomputable def lpLSb : Nat × (St → T (Ex × St)) := (11, lpo [77, 76, 75, 9] [] stLSb1 (fun a => prlLSb a.1 a.2.1 a.2.2) fun a => outLSb a.1 a.2.1 a.2.2)

noncomputable def enLSh : Env := envH ty noG lks [oRl, oEW, oBg, oAwk] [] [] [lpLSh, lpLSb]

theorem enLSh_ok : EnvOK Tryd.prog enLSh := by
  refine envH_ok lks_ok ty_ok ?_ ?_
  · simp only [List.forall_mem_cons]
    exact ⟨okRl, okEW, okBg, okAwk, by simp⟩
  · simp

theorem evLShL (x : List Cap) (l : List Wrd) (r : Int) (h : Int) (k : Nat) : ((exec enLSh (loopN Tryd.f4 0) (stLSh x l r h k)).bind (lessX ([33, 32, 31, 9, 3, 2, 0], []) ([9, 0], []) ([8], []))).val =
  bif decide ((↑k : Int) < (↑(List.length x) : Int)) then Option.bind (unenc (List.map eCap) (List.map eCap x)) fun (z : List Cap) => bif decide (k < List.length z) then bif
  (!bif decide (r < (↑(List.length (List.map eStr (List.getD z k (Cap.mk (0 : Int) (0 : Int) [] (0 : Int) false false)).lines)) : Int)) then true else decide (h <
  IntKind.wrap IntKind.i64 ((List.getD z k (Cap.mk (0 : Int) (0 : Int) [] (0 : Int) false false)).to - (List.getD z k (Cap.mk (0 : Int) (0 : Int) [] (0 : Int) false
  false)).fr))) && decide ((0 : Int) < (↑k : Int)) then Option.bind (idx (IntKind.wrap IntKind.i64 ((↑k : Int) - (1 : Int)))) fun (z_1 : Nat) => Option.bind (unenc (List.map
  eCap) (List.map eCap x)) fun (z_2 : List Cap) => bif decide (z_1 < List.length z_2) then bif !bif bif decide (r < (↑(List.length (List.map eStr (List.getD z k (Cap.mk (0 :
  Int) (0 : Int) [] (0 : Int) false false)).lines)) : Int)) then true else decide (h < IntKind.wrap IntKind.i64 ((List.getD z k (Cap.mk (0 : Int) (0 : Int) [] (0 : Int)
  false false)).to - (List.getD z k (Cap.mk (0 : Int) (0 : Int) [] (0 : Int) false false)).fr)) then true else decide ((List.getD z k (Cap.mk (0 : Int) (0 : Int) [] (0 :
  Int) false false)).fr < (List.getD z_2 z_1 (Cap.mk (0 : Int) (0 : Int) [] (0 : Int) false false)).to) then Option.bind (unenc encEW [AV.agg [(vI (List.getD z k (Cap.mk (0
  : Int) (0 : Int) [] (0 : Int) false false)).fr), (vI (List.getD z k (Cap.mk (0 : Int) (0 : Int) [] (0 : Int) false false)).to), AV.sl (List.map eStr (List.getD z k (Cap.mk
  (0 : Int) (0 : Int) [] (0 : Int) false false)).lines), (vI (List.getD z k (Cap.mk (0 : Int) (0 : Int) [] (0 : Int) false false)).row), (vB (List.getD z k (Cap.mk (0 : Int)
  (0 : Int) [] (0 : Int) false false)).bef), (vB (List.getD z k (Cap.mk (0 : Int) (0 : Int) [] (0 : Int) false false)).aft)], AV.sl (List.map eWrd l), (vI r)]) fun (z : Cap
  × List Wrd × Int) => bif F.smJ z.fst && decide (List.length z.snd.fst ≤ (500 : Nat)) then bif !F.endsW z.fst z.snd.fst z.snd.snd then some (Ex.ret, St.mk [(8, (vB false))]
  []) else some (Ex.normal, St.mk [(33, (vI (IntKind.wrap IntKind.i64 ((↑k : Int) + (1 : Int))))), (32, (vI (↑(List.length x) : Int))), (31, AV.sl (List.map eCap x)), (9,
  AV.sl (List.map eCap x)), (3, (vI h)), (2, (vI r)), (0, AV.sl (List.map eWrd l))] []) else none else some (Ex.ret, St.mk [(8, (vB false))] []) else none else bif (!bif
  decide (r < (↑(List.length (List.map eStr (List.getD z k (Cap.mk (0 : Int) (0 : Int) [] (0 : Int) false false)).lines)) : Int)) then true else decide (h < IntKind.wrap
  IntKind.i64 ((List.getD z k (Cap.mk (0 : Int) (0 : Int) [] (0 : Int) false false)).to - (List.getD z k (Cap.mk (0 : Int) (0 : Int) [] (0 : Int) false false)).fr))) &&
  decide ((0 : Int) < (↑k : Int)) then none else bif (!bif decide (r < (↑(List.length (List.map eStr (List.getD z k (Cap.mk (0 : Int) (0 : Int) [] (0 : Int) false
  false)).lines)) : Int)) then true else decide (h < IntKind.wrap IntKind.i64 ((List.getD z k (Cap.mk (0 : Int) (0 : Int) [] (0 : Int) false false)).to - (List.getD z k
  (Cap.mk (0 : Int) (0 : Int) [] (0 : Int) false false)).fr))) && decide ((0 : Int) < (↑k : Int)) then none else bif (!bif decide (r < (↑(List.length (List.map eStr
  (List.getD z k (Cap.mk (0 : Int) (0 : Int) [] (0 : Int) false false)).lines)) : Int)) then true else decide (h < IntKind.wrap IntKind.i64 ((List.getD z k (Cap.mk (0 : Int)
  (0 : Int) [] (0 : Int) false false)).to - (List.getD z k (Cap.mk (0 : Int) (0 : Int) [] (0 : Int) false false)).fr))) && decide ((0 : Int) < (↑k : Int)) then none else bif
  !bif bif decide (r < (↑(List.length (List.map eStr (List.getD z k (Cap.mk (0 : Int) (0 : Int) [] (0 : Int) false false)).lines)) : Int)) then true else decide (h <
  IntKind.wrap IntKind.i64 ((List.getD z k (Cap.mk (0 : Int) (0 : Int) [] (0 : Int) false false)).to - (List.getD z k (Cap.mk (0 : Int) (0 : Int) [] (0 : Int) false
  false)).fr)) then true else false then Option.bind (unenc encEW [AV.agg [(vI (List.getD z k (Cap.mk (0 : Int) (0 : Int) [] (0 : Int) false false)).fr), (vI (List.getD z k
  (Cap.mk (0 : Int) (0 : Int) [] (0 : Int) false false)).to), AV.sl (List.map eStr (List.getD z k (Cap.mk (0 : Int) (0 : Int) [] (0 : Int) false false)).lines), (vI
  (List.getD z k (Cap.mk (0 : Int) (0 : Int) [] (0 : Int) false false)).row), (vB (List.getD z k (Cap.mk (0 : Int) (0 : Int) [] (0 : Int) false false)).bef), (vB (List.getD
  z k (Cap.mk (0 : Int) (0 : Int) [] (0 : Int) false false)).aft)], AV.sl (List.map eWrd l), (vI r)]) fun (z : Cap × List Wrd × Int) => bif F.smJ z.fst && decide
  (List.length z.snd.fst ≤ (500 : Nat)) then bif !F.endsW z.fst z.snd.fst z.snd.snd then some (Ex.ret, St.mk [(8, (vB false))] []) else some (Ex.normal, St.mk [(33, (vI
  (IntKind.wrap IntKind.i64 ((↑k : Int) + (1 : Int))))), (32, (vI (↑(List.length x) : Int))), (31, AV.sl (List.map eCap x)), (9, AV.sl (List.map eCap x)), (3, (vI h)), (2,
  (vI r)), (0, AV.sl (List.map eWrd l))] []) else none else some (Ex.ret, St.mk [(8, (vB false))] []) else none else some (Ex.exit (0 : Nat), St.mk [(9, AV.sl (List.map eCap
  x)), (0, AV.sl (List.map eWrd l))] []) := (execR_bind _ _ _).symm.trans (by kernel_rfl)

theorem lpLSh_ok (x : List Cap) (l : List Wrd) (r : Int) (h : Int) (k : Nat) (hp : prlLSh x l r h k = true) : ∀ ex s', (outLSh x l r h k).val = some (ex, s') → LoopOK enLSh (loopN Tryd.f4 0) (stLSh x l r h k) ex s' := by
  simp only [prlLSh, Bool.and_eq_true, decide_eq_true_eq] at hp
  obtain ⟨⟨⟨⟨⟨h1, h2⟩, h3⟩, h4⟩, h5⟩, h6⟩ := hp
  simp only [F.shA, decide_eq_true_eq] at h4
  intro ex s' hh
  refine loop_fold (xs := x) (st := fun (_ : Unit) k => stLSh x l r h k) (f := fun a _ => a) (fin := fun _ => (.exit 0, ⟨[(9, .sl (x.map eCap)), (0, .sl (l.map eWrd))], []⟩)) (I := fun _ _ => True) (n := ([33, 32, 31, 9, 3, 2, 0], [])) (e := ([9, 0], [])) (r := ([8], [])) ?_ (fun _ => ⟨by simp, rfl⟩) (fun _ _ => rfl) ?_ () k h2 trivial ex s' hh
  · intro a _
    rw [evLShL]
    simp
  · intro a k c hy _
    have hlt := lt_at hy
    have hc := h4.1 c (List.mem_of_getElem? hy)
    have hgd : x.getD k ⟨0, 0, [], 0, false, false⟩ = c := getD_at hy
    have f0 := hc.fr0
    have t0 := hc.to0
    have ho := hc.hold
    have w1 : IntKind.i64.wrap (c.to - c.fr) = c.to - c.fr := wrap_id (by omega) (by omega)
    have s1 : decide (r < (c.lines.length : Int)) = false := decide_eq_false (by have := hc.len; omega)
    have s2 : decide (h < c.to - c.fr) = false := decide_eq_false (by omega)
    refine ⟨?_, trivial⟩
    rw [evLShL]
    cases k with
    | zero =>
      have e0 : decide ((0 : Int) < ((0 : Nat) : Int)) = false := rfl
      simp only [unRl, unEW, unBg, unAwk, unEWw, preRl1, preEW1, preBg1, preAwk1, unstLSh, unstLSb, unstLSh0, unstLSb0, prlLSh, prlLSb, outLSh, outLSb, etaCap, etaMch, etaWrd, etaFnd, etaRatio, etaWay, Option.bind_some, List.length_map, unStrs, unInts, unBools, unCaps, uneL_eCaps, unMchs, unWrds, unFnds, unRatios, unWays, F.lt, F.le, cond_true, cond_false, Bool.and_true, Bool.true_and, cast_lt hlt, decide_eq_true hlt, next_at hlt (by omega : x.length ≤ 9223372036854775807), hgd, stLSh, w1, s1, s2, e0, hc.ends, hc.smj, decide_eq_true h3, Bool.and_self]
      try rfl
    | succ j =>
      have hoj : x[j]? = some x[j] := List.getElem?_eq_getElem (by omega)
      generalize x[j] = o at hoj
      have hlo := lt_at hoj
      have hgo : x.getD j ⟨0, 0, [], 0, false, false⟩ = o := getD_at hoj
      have e0 : decide ((0 : Int) < ((j + 1 : Nat) : Int)) = true := decide_eq_true (by omega)
      have s3 : decide (c.fr < o.to) = false := decide_eq_false (by have := F.apR_at h4.2 hoj hy; omega)
      simp only [unRl, unEW, unBg, unAwk, unEWw, preRl1, preEW1, preBg1, preAwk1, unstLSh, unstLSb, unstLSh0, unstLSb0, prlLSh, prlLSb, outLSh, outLSb, etaCap, etaMch, etaWrd, etaFnd, etaRatio, etaWay, Option.bind_some, List.length_map, unStrs, unInts, unBools, unCaps, uneL_eCaps, unMchs, unWrds, unFnds, unRatios, unWays, F.lt, F.le, cond_true, cond_false, Bool.and_true, Bool.true_and, cast_lt hlt, decide_eq_true hlt, decide_eq_true hlo, next_at hlt (by omega : x.length ≤ 9223372036854775807), hgd, hgo, stLSh, w1, s1, s2, s3, e0, idx_sub (by omega : j + 1 ≤ 9223372036854775807), hc.ends, hc.smj, decide_eq_true h3, Bool.and_self]
      try rfl

theorem evLSbL (x : List Cap) (l : List Wrd) (k : Nat) : ((exec enLSh (loopN Tryd.f4 1) (stLSb x l k)).bind (lessX ([77, 76, 75, 9], []) ([], []) ([8], []))).val =
  bif decide ((↑k : Int) < (↑(List.length l) : Int)) then Option.bind (unenc (List.map eWrd) (List.map eWrd l)) fun (z : List Wrd) => bif decide (k < List.length z) then
  Option.bind (unenc encBg [AV.sl (List.map eCap x), (vI (List.getD z k (Wrd.mk (0 : Int) (ByteArray.mk (Array.mk [])))).time)]) fun (z : List Cap × Int) => bif decide
  (List.length z.fst ≤ (500 : Nat)) then bif !List.any z.fst fun (c : Cap) => c.fr == z.snd then some (Ex.ret, St.mk [(8, (vB false))] []) else some (Ex.normal, St.mk [(77,
  (vI (IntKind.wrap IntKind.i64 ((↑k : Int) + (1 : Int))))), (76, (vI (↑(List.length l) : Int))), (75, AV.sl (List.map eWrd l)), (9, AV.sl (List.map eCap x))] []) else none
  else none else some (Ex.exit (2 : Nat), St.mk [] []) := (execR_bind _ _ _).symm.trans (by kernel_rfl)

theorem lpLSb_ok (x : List Cap) (l : List Wrd) (k : Nat) (hp : prlLSb x l k = true) : ∀ ex s', (outLSb x l k).val = some (ex, s') → LoopOK enLSh (loopN Tryd.f4 1) (stLSb x l k) ex s' := by
  simp only [prlLSb, Bool.and_eq_true, decide_eq_true_eq] at hp
  obtain ⟨⟨⟨h1, h2⟩, h3⟩, h4⟩ := hp
  intro ex s' hh
  refine loop_fold (xs := l) (st := fun (_ : Unit) k => stLSb x l k) (f := fun a _ => a) (fin := fun _ => (.exit 2, ⟨[], []⟩)) (I := fun _ _ => True) (n := ([77, 76, 75, 9], [])) (e := ([], [])) (r := ([8], [])) ?_ (fun _ => ⟨by simp, rfl⟩) (fun _ _ => rfl) ?_ () k h2 trivial ex s' hh
  · intro a _
    rw [evLSbL]
    simp
  · intro a k y hy _
    have hlt := lt_at hy
    have hb := List.all_eq_true.1 h4 y (List.mem_of_getElem? hy)
    refine ⟨?_, trivial⟩
    rw [evLSbL]
    simp only [unRl, unEW, unBg, unAwk, unEWw, preRl1, preEW1, preBg1, preAwk1, unstLSh, unstLSb, unstLSh0, unstLSb0, prlLSh, prlLSb, outLSh, outLSb, etaCap, etaMch, etaWrd, etaFnd, etaRatio, etaWay, Option.bind_some, List.length_map, unStrs, unInts, unBools, unCaps, uneL_eCaps, unMchs, unWrds, unFnds, unRatios, unWays, F.lt, F.le, cond_true, cond_false, Bool.and_true, Bool.true_and, cast_lt hlt, decide_eq_true hlt, next_at hlt (by omega : l.length ≤ 9223372036854775807), getD_at hy, stLSb, hb, decide_eq_true h1]
    try rfl

theorem evLSh (l : List Wrd) (w : Int) (r : Int) (h : Int) : (runF enLSh false Tryd.f4 [.sl (l.map eWrd), vI w, vI r, vI h]).val =
  Option.bind (unenc encRl [AV.sl (List.map eWrd l), (vI w), (vI r), (vI h)]) fun (z : List Wrd × Int × Int × Int) => bif F.smW z.fst then bif (F.roll z.fst z.snd.fst
  z.snd.snd.fst z.snd.snd.snd).snd != (0 : Int) then bif (↑(List.length (List.map eCap (F.roll z.fst z.snd.fst z.snd.snd.fst z.snd.snd.snd).fst)) : Int) == (0 : Int) then
  Option.bind (unenc encAwk []) fun (z : Unit) => some ((vB true), []) else some ((vB false), []) else Option.bind (unenc stLSh1 (St.mk [(33, (vI (0 : Int))), (32, (vI
  (↑(List.length (List.map eCap (F.roll z.fst z.snd.fst z.snd.snd.fst z.snd.snd.snd).fst)) : Int))), (31, AV.sl (List.map eCap (F.roll z.fst z.snd.fst z.snd.snd.fst
  z.snd.snd.snd).fst)), (9, AV.sl (List.map eCap (F.roll z.fst z.snd.fst z.snd.snd.fst z.snd.snd.snd).fst)), (3, (vI h)), (2, (vI r)), (0, AV.sl (List.map eWrd l))] [])) fun
  (z : List Cap × List Wrd × Int × Int × Nat) => bif decide (List.length z.fst ≤ (500 : Nat)) && decide (z.snd.snd.snd.snd ≤ List.length z.fst) && decide (List.length
  z.snd.fst ≤ (500 : Nat)) && F.shA z.fst z.snd.fst z.snd.snd.fst z.snd.snd.snd.fst && decide ((1 : Int) ≤ z.snd.snd.fst) && decide (z.snd.snd.fst ≤ (15 : Int)) && true then
  Option.bind (unenc stLSb1 (St.mk [(77, (vI (0 : Int))), (76, (vI (↑(List.length (List.map eWrd z.snd.fst)) : Int))), (75, AV.sl (List.map eWrd z.snd.fst)), (9, AV.sl
  (List.map eCap z.fst))] [])) fun (z : List Cap × List Wrd × Nat) => bif (decide (List.length z.fst ≤ (500 : Nat)) && decide (z.snd.snd ≤ List.length z.snd.fst) && decide
  (List.length z.snd.fst ≤ (500 : Nat)) && List.all z.snd.fst fun (w : Wrd) => List.any z.fst fun (c : Cap) => c.fr == w.time) && true then Option.bind (unenc encAwk []) fun
  (z : Unit) => some ((vB true), []) else none else none else none := (runFR_val).symm.trans (by kernel_rfl)

def encLSh1 (l : List Wrd) (w : Int) (r : Int) (h : Int) : List AV := [.sl (l.map eWrd), vI w, vI r, vI h]

def encLSh (a : (List Wrd) × Int × Int × Int) : List AV := encLSh1 a.1 a.2.1 a.2.2.1 a.2.2.2

theorem encLSh_inj (a a' : (List Wrd) × Int × Int × Int) (h : encLSh a = encLSh a') : a = a' := by
  simp only [encLSh, encLSh1] at h
  try simp [strs_inj, ints_inj, bools_inj, eCaps_inj, eCap_iff, eL_eCaps_inj, eMchs_inj, eMch_iff, eWrds_inj, eWrd_iff, eFnds_inj, eFnd_iff, eRatios_inj, eRatio_iff, eWays_inj, eWay_iff] at h
  grind

theorem unLSh (l : List Wrd) (w : Int) (r : Int) (h : Int) : unenc encLSh ([AV.sl (List.map eWrd l), (vI w), (vI r), (vI h)]) = some (l, w, r, h) := unenc_of encLSh_inj (l, w, r, h) rfl

def resLSh1 (l : List Wrd) (w : Int) (r : Int) (h : Int) : AV × Heap := (vB true, [])

def preLSh1 (l : List Wrd) (w : Int) (r : Int) (h : Int) : Bool := F.smW l

noncomputable def oLSh : Orc := orc 4 false encLSh (fun a => preLSh1 a.1 a.2.1 a.2.2.1 a.2.2.2) fun a => resLSh1 a.1 a.2.1 a.2.2.1 a.2.2.2

theorem okLSh : OrcOK Tryd.prog noG oLSh := by
  refine mk_ok Tryd.f4 (keep := false) (by kernel_rfl) (by kernel_rfl) enLSh_ok mixed (two_loops (x0 := loopN Tryd.f4 0) (x1 := loopN Tryd.f4 1) (by kernel_rfl) (lpo_ok ?_) (lpo_ok ?_)) (by first | exact fun _ _ => ⟨rfl, rfl⟩ | (intro h; cases h)) ?_
  · rintro ⟨x, l, r, h, k⟩ hp
    exact lpLSh_ok x l r h k hp
  · rintro ⟨x, l, k⟩ hp
    exact lpLSb_ok x l k hp
  rintro ⟨l, w, r, h⟩ hpre hok
  show (runF enLSh false _ (encLSh1 _ _ _ _)).val = some (resLSh1 _ _ _ _)
  unfold encLSh1 resLSh1
  rw [evLSh]
  simp only [preLSh1] at hpre
  simp only [unRl, unEW, unBg, unAwk, unEWw, preRl1, preEW1, preBg1, preAwk1, unstLSh, unstLSb, unstLSh0, unstLSb0, prlLSh, prlLSb, outLSh, outLSb, etaCap, etaMch, etaWrd, etaFnd, etaRatio, etaWay, Option.bind_some, List.length_map, unStrs, unInts, unBools, unCaps, uneL_eCaps, unMchs, unWrds, unFnds, unRatios, unWays, F.lt, F.le, cond_true, cond_false, Bool.and_true, Bool.true_and, hpre, bne, Nat.zero_le, decide_true]
  by_cases h0 : (F.roll l w r h).2 = 0
  · obtain ⟨c1, c2, c3, c4, c5, c6, c7⟩ := F.roll_all h0
    have e1 : ((F.roll l w r h).2 == 0) = true := by simpa using h0
    have e2 : F.shA (F.roll l w r h).1 l r h = true := by simp only [F.shA, decide_eq_true_eq]; exact ⟨c3, c4⟩
    have e3 : (l.all fun w_1 => (F.roll l w r h).1.any fun c => c.fr == w_1.time) = true := List.all_eq_true.2 c5
    simp only [e1, e2, e3, decide_eq_true c1, decide_eq_true c2, decide_eq_true c6.1, decide_eq_true c6.2, Bool.not_true, cond_false, Bool.and_self, cond_true]
  · have e1 : ((F.roll l w r h).2 == 0) = false := by simpa using h0
    simp only [e1, F.roll_no h0, List.length_nil, Bool.not_false, cond_true, Int.natCast_zero, beq_self_eq_true]

end M
end Go.Proofs.YtdmccifaggmmkaaDoor
