/- What is proved here: Roll of the reference: what it makes, on plain data; its loop's states (no statement of the seat). -/
import Derived.Test.YtdmccifaggmmkaaDoorC41
namespace Go.Proofs.YtdmccifaggmmkaaDoor
open Go Go.RowKit
set_option linter.unusedVariables false
set_option linter.unusedSimpArgs false

/-- The captions so far, with one word more. -/
def F.rollA (h r : Int) (out : List Cap) (ls : List ByteArray) (c : Wrd) : List Cap :=
  bif out.isEmpty then [F.rollC h r ls c none] else
  bif (out.getD (out.length - 1) default).fr == c.time then out.set (out.length - 1) (F.rollC h r ls c none) else
  out.set (out.length - 1) ⟨(out.getD (out.length - 1) default).fr, min (out.getD (out.length - 1) default).to c.time, (out.getD (out.length - 1) default).lines, (out.getD (out.length - 1) default).row, (out.getD (out.length - 1) default).bef, (out.getD (out.length - 1) default).aft⟩ ++ [F.rollC h r ls c none]

def F.rollR (w r h : Int) : Option Wrd → List ByteArray → List Cap → List Wrd → List Cap
  | _, _, out, [] => out
  | p, ls, out, c :: l => F.rollR w r h (some c) (F.rollS h w p ls c) (F.rollA h r out (F.rollS h w p ls c) c) l

theorem F.rollA_last (h r : Int) (done : List Cap) (o : Cap) (ls : List ByteArray) (c : Wrd) : F.rollA h r (done ++ [o]) ls c =
    (bif o.fr == c.time then done ++ [F.rollC h r ls c none] else done ++ [⟨o.fr, min o.to c.time, o.lines, o.row, o.bef, o.aft⟩] ++ [F.rollC h r ls c none]) := by
  have e1 : (done ++ [o]).isEmpty = false := by cases done <;> rfl
  have e2 : (done ++ [o]).length - 1 = done.length := by simp
  have e3 : (done ++ [o]).getD done.length default = o := by simp [List.getD]
  unfold F.rollA
  rw [e1, cond_false, e2, e3]
  simp only [List.set_append_right _ _ (Nat.le_refl _), Nat.sub_self, List.set_cons_zero]

theorem F.rollR_eq {w r h : Int} : ∀ (l : List Wrd) (w0 : Wrd) (ls : List ByteArray) (done : List Cap),
    F.rollR w r h (some w0) ls (done ++ [F.rollC h r ls w0 none]) l =
      done ++ (bif F.sameT w0 l.head? then F.rollP w r h (some w0) ls l else F.rollC h r ls w0 l.head? :: F.rollP w r h (some w0) ls l)
  | [], w0, ls, done => rfl
  | c :: l, w0, ls, done => by
    rw [F.rollR, F.rollA_last]
    have e0 : F.sameT w0 (c :: l).head? = (c.time == w0.time) := rfl
    have e1 : (F.rollC h r ls w0 none).fr = w0.time := rfl
    rw [e0, e1, F.rollP]
    by_cases hc : c.time = w0.time
    · have a1 : (c.time == w0.time) = true := by simpa using hc
      have a2 : (w0.time == c.time) = true := by simpa using hc.symm
      rw [a1, a2, cond_true, cond_true, F.rollR_eq l c]
    · have a1 : (c.time == w0.time) = false := by simpa using hc
      have a2 : (w0.time == c.time) = false := by simpa using fun e => hc e.symm
      rw [a1, a2, cond_false, cond_false, F.rollR_eq l c, List.append_assoc]
      rfl

theorem F.rollR_all {w r h : Int} (l : List Wrd) : F.rollR w r h none [] [] l = F.rollP w r h none [] l := by
  cases l with
  | nil => rfl
  | cons c l =>
    rw [F.rollR]
    have e : F.rollA h r [] (F.rollS h w none [] c) c = [] ++ [F.rollC h r (F.rollS h w none [] c) c none] := rfl
    rw [e, F.rollR_eq, F.rollP, List.nil_append]

namespace M

def stRRk (l : List Wrd) (w r h : Int) (ls : List ByteArray) (out : List Cap) (k : Nat) : St := ⟨[(40, vI k), (39, vI l.length), (38, .sl (l.map eWrd)), (12, .sl (ls.map eStr)), (11, .own 11), (3, vI h), (2, vI r), (1, vI w), (0, .sl (l.map eWrd))], [(11, ⟨false, 32, 6, out.map eCap⟩)]⟩

def stRRl (l : List Wrd) (w : Int) (r : Int) (h : Int) : St := ⟨[(40, vI 0), (39, vI l.length), (38, .sl (l.map eWrd)), (12, .own 12), (11, .own 11), (3, vI h), (2, vI r), (1, vI w), (0, .sl (l.map eWrd))], [(12, ⟨false, 9, 1, []⟩), (11, ⟨false, 32, 6, []⟩)]⟩

def stRRl1 (a : (List Wrd) × Int × Int × Int) : St := stRRl a.1 a.2.1 a.2.2.1 a.2.2.2

theorem stRRl_inj (a a' : (List Wrd) × Int × Int × Int) (h : stRRl1 a = stRRl1 a') : a = a' := by
  simp only [stRRl1, stRRl] at h
  try simp [strs_inj, ints_inj, bools_inj, eCaps_inj, eCap_iff, eL_eCaps_inj, eMchs_inj, eMch_iff, eWrds_inj, eWrd_iff, eFnds_inj, eFnd_iff, eRatios_inj, eRatio_iff, eWays_inj, eWay_iff] at h
  grind

theorem unstRRl (l : List Wrd) (w : Int) (r : Int) (h : Int) : unenc stRRl1 (St.mk [(40, (vI (0 : Int))), (39, (vI (↑(List.length l) : Int))), (38, AV.sl (List.map eWrd l)), (12, .own 12), (11, .own 11), (3, (vI h)), (2, (vI r)), (1, (vI w)), (0,
  AV.sl (List.map eWrd l))] [(12, Blk.mk false 9 1 []), (11, Blk.mk false 32 6 [])]) = some (l, w, r, h) := unenc_of stRRl_inj (l, w, r, h) rfl

def outRRl (l : List Wrd) (w : Int) (r : Int) (h : Int) : T (Ex × St) := .ret (.exit 0, ⟨[(11, .own 11)], [(11, ⟨false, 32, 6, (F.rollR w r h none [] [] l).map eCap⟩)]⟩)

noncomputable def prlRRl (l : List Wrd) (w : Int) (r : Int) (h : Int) : Bool := decide (l.length ≤ 500) && F.wrdsOK l && !F.rollB w r h

noncomputable def lpRRl : Nat × (St → T (Ex × St)) := (9, lpo [40, 39, 38, 12, 11, 3, 2, 1, 0] [12, 11] stRRl1 (fun a => prlRRl a.1 a.2.1 a.2.2.1 a.2.2.2) fun a => outRRl a.1 a.2.1 a.2.2.1 a.2.2.2)

noncomputable def enRRl : Env := envH ty noG lks [oWithin, oRWd, oRCh, oClF, oRhC] [] [113] [lpRRl]

theorem enRRl_ok : EnvOK Tryd.prog enRRl := by
  refine envH_ok lks_ok ty_ok ?_ ?_
  · simp only [List.forall_mem_cons]
    exact ⟨okWithin, okRWd, okRCh, okClF, okRhC, by simp⟩
  · simp

theorem evRRN (l : List Wrd) (w r h : Int) : ((exec enRRl (loopN Tryd.f8 0) (stRRl l w r h)).bind (lessX ([40, 39, 38, 12, 11, 3, 2, 1, 0], [11]) ([11], [11]) ([], []))).val =
  bif decide ((0 : Int) < (↑(List.length l) : Int)) then Option.bind (unenc (List.map eWrd) (List.map eWrd l)) fun (z : List Wrd) => bif decide ((0 : Nat) < List.length z)
  then Option.bind (unenc encClF [AV.sl []]) fun (z_1 : List ByteArray) => bif decide (List.length z_1 ≤ (1000 : Nat)) then bif Nat.ble ((List.length (List.map eStr z_1) +
  (1 : Nat)) * (16 : Nat)) (140737488355328 : Nat) && true then Option.bind (idx (max (0 : Int) (IntKind.wrap IntKind.i64 ((↑(List.length (List.map eStr z_1 ++ [[(vS
  (List.getD z (0 : Nat) (Wrd.mk (0 : Int) (ByteArray.mk (Array.mk [])))).text)]])) : Int) - r)))) fun (z_2 : Nat) => bif Nat.ble z_2 (List.length (List.map eStr z_1 ++
  [[(vS (List.getD z (0 : Nat) (Wrd.mk (0 : Int) (ByteArray.mk (Array.mk [])))).text)]])) && Nat.ble (List.length (List.map eStr z_1 ++ [[(vS (List.getD z (0 : Nat) (Wrd.mk
  (0 : Int) (ByteArray.mk (Array.mk [])))).text)]])) (List.length (List.map eStr z_1 ++ [[(vS (List.getD z (0 : Nat) (Wrd.mk (0 : Int) (ByteArray.mk (Array.mk
  [])))).text)]])) then some (Ex.normal, St.mk [(40, (vI (IntKind.wrap IntKind.i64 ((0 : Int) + (1 : Int))))), (39, (vI (↑(List.length l) : Int))), (38, AV.sl (List.map eWrd
  l)), (12, AV.sl (List.map eStr z_1 ++ [[(vS (List.getD z (0 : Nat) (Wrd.mk (0 : Int) (ByteArray.mk (Array.mk [])))).text)]])), (11, .own 11), (3, (vI h)), (2, (vI r)), (1,
  (vI w)), (0, AV.sl (List.map eWrd l))] [(11, Blk.mk false 32 6 [[(vI (List.getD z (0 : Nat) (Wrd.mk (0 : Int) (ByteArray.mk (Array.mk [])))).time), (vI (IntKind.wrap
  IntKind.i64 ((List.getD z (0 : Nat) (Wrd.mk (0 : Int) (ByteArray.mk (Array.mk [])))).time + h))), AV.sl (List.take (List.length (List.map eStr z_1 ++ [[(vS (List.getD z (0
  : Nat) (Wrd.mk (0 : Int) (ByteArray.mk (Array.mk [])))).text)]]) - z_2) (List.drop ((0 : Nat) + z_2) (List.map eStr z_1 ++ [[(vS (List.getD z (0 : Nat) (Wrd.mk (0 : Int)
  (ByteArray.mk (Array.mk [])))).text)]]))), (vI (0 : Int)), (vB false), (vB false)]])]) else none else none else none else none else some (Ex.exit (0 : Nat), St.mk [(11,
  .own 11)] [(11, Blk.mk false 32 6 [])]) := (execR_bind _ _ _).symm.trans (by kernel_rfl)

theorem evRRS (l : List Wrd) (w r h : Int) (ls : List ByteArray) (out : List Cap) (k : Nat) : ((exec enRRl (loopN Tryd.f8 0) (stRRk l w r h ls out k)).bind (lessX ([40, 39, 38, 12, 11, 3, 2, 1, 0], [11]) ([11], [11]) ([], []))).val =
  bif decide ((↑k : Int) < (↑(List.length l) : Int)) then Option.bind (unenc (List.map eWrd) (List.map eWrd l)) fun (z : List Wrd) => bif decide (k < List.length z) then bif
  decide ((0 : Int) < (↑k : Int)) then Option.bind (idx (IntKind.wrap IntKind.i64 ((↑k : Int) - (1 : Int)))) fun (z_1 : Nat) => Option.bind (unenc (List.map eWrd) (List.map
  eWrd l)) fun (z_2 : List Wrd) => bif decide (z_1 < List.length z_2) then bif decide (h < IntKind.wrap IntKind.i64 ((List.getD z k (Wrd.mk (0 : Int) (ByteArray.mk (Array.mk
  [])))).time - (List.getD z_2 z_1 (Wrd.mk (0 : Int) (ByteArray.mk (Array.mk [])))).time)) then Option.bind (unenc encClF [AV.sl []]) fun (z_3 : List ByteArray) => bif
  decide (List.length z_3 ≤ (1000 : Nat)) then bif Nat.ble ((List.length (List.map eStr z_3) + (1 : Nat)) * (16 : Nat)) (140737488355328 : Nat) && true then Option.bind (idx
  (max (0 : Int) (IntKind.wrap IntKind.i64 ((↑(List.length (List.map eStr z_3 ++ [[(vS (List.getD z k (Wrd.mk (0 : Int) (ByteArray.mk (Array.mk [])))).text)]])) : Int) -
  r)))) fun (z_4 : Nat) => bif Nat.ble z_4 (List.length (List.map eStr z_3 ++ [[(vS (List.getD z k (Wrd.mk (0 : Int) (ByteArray.mk (Array.mk [])))).text)]])) && Nat.ble
  (List.length (List.map eStr z_3 ++ [[(vS (List.getD z k (Wrd.mk (0 : Int) (ByteArray.mk (Array.mk [])))).text)]])) (List.length (List.map eStr z_3 ++ [[(vS (List.getD z k
  (Wrd.mk (0 : Int) (ByteArray.mk (Array.mk [])))).text)]])) then bif decide ((0 : Int) < (↑(List.length (List.map eCap out)) : Int)) then Option.bind (idx (IntKind.wrap
  IntKind.i64 ((↑(List.length (List.map eCap out)) : Int) - (1 : Int)))) fun (z_5 : Nat) => bif decide (z_5 < List.length (Blk.mk false 32 6 (List.map eCap out)).rows) then
  Option.bind (unenc (List.map eCap) (List.map eCap out)) fun (z_6 : List Cap) => bif decide (z_5 < List.length z_6) then bif (List.getD z_6 z_5 (Cap.mk (0 : Int) (0 : Int)
  [] (0 : Int) false false)).fr == (List.getD z k (Wrd.mk (0 : Int) (ByteArray.mk (Array.mk [])))).time then Option.bind (idx (IntKind.wrap IntKind.i64 ((↑(List.length
  (List.map eCap out)) : Int) - (1 : Int)))) fun (z_7 : Nat) => bif decide (z_7 < List.length (Blk.mk false 32 6 (List.map eCap out)).rows) then Option.bind (unenc (List.map
  eCap) (List.map eCap out)) fun (z_8 : List Cap) => bif decide (z_7 < List.length z_8) then some (Ex.normal, St.mk [(40, (vI (IntKind.wrap IntKind.i64 ((↑k : Int) + (1 :
  Int))))), (39, (vI (↑(List.length l) : Int))), (38, AV.sl (List.map eWrd l)), (12, AV.sl (List.map eStr z_3 ++ [[(vS (List.getD z k (Wrd.mk (0 : Int) (ByteArray.mk
  (Array.mk [])))).text)]])), (11, .own 11), (3, (vI h)), (2, (vI r)), (1, (vI w)), (0, AV.sl (List.map eWrd l))] [(11, Blk.mk false 32 6 (List.set (List.map eCap out) z_7
  [(vI (List.getD z k (Wrd.mk (0 : Int) (ByteArray.mk (Array.mk [])))).time), (vI (IntKind.wrap IntKind.i64 ((List.getD z k (Wrd.mk (0 : Int) (ByteArray.mk (Array.mk
  [])))).time + h))), AV.sl (List.take (List.length (List.map eStr z_3 ++ [[(vS (List.getD z k (Wrd.mk (0 : Int) (ByteArray.mk (Array.mk [])))).text)]]) - z_4) (List.drop
  ((0 : Nat) + z_4) (List.map eStr z_3 ++ [[(vS (List.getD z k (Wrd.mk (0 : Int) (ByteArray.mk (Array.mk [])))).text)]]))), (vI (0 : Int)), (vB false), (vB false)]))]) else
  none else none else bif decide ((0 : Int) < (↑(List.length (List.map eCap out)) : Int)) then Option.bind (idx (IntKind.wrap IntKind.i64 ((↑(List.length (List.map eCap
  out)) : Int) - (1 : Int)))) fun (z_7 : Nat) => bif decide (z_7 < List.length (Blk.mk false 32 6 (List.map eCap out)).rows) then Option.bind (unenc (List.map eCap)
  (List.map eCap out)) fun (z_8 : List Cap) => bif decide (z_7 < List.length z_8) then Option.bind (idx (IntKind.wrap IntKind.i64 ((↑(List.length (List.map eCap out)) : Int)
  - (1 : Int)))) fun (z_9 : Nat) => bif decide (z_9 < List.length (Blk.mk false 32 6 (List.map eCap out)).rows) then Option.bind (unenc (List.map eCap) (List.map eCap out))
  fun (z_10 : List Cap) => bif decide (z_9 < List.length z_10) then bif Nat.ble ((List.length (List.set (List.map eCap out) z_9 [(vI (List.getD z_10 z_9 (Cap.mk (0 : Int) (0
  : Int) [] (0 : Int) false false)).fr), (vI (min (List.getD z_8 z_7 (Cap.mk (0 : Int) (0 : Int) [] (0 : Int) false false)).to (List.getD z k (Wrd.mk (0 : Int) (ByteArray.mk
  (Array.mk [])))).time)), AV.sl (List.map eStr (List.getD z_10 z_9 (Cap.mk (0 : Int) (0 : Int) [] (0 : Int) false false)).lines), (vI (List.getD z_10 z_9 (Cap.mk (0 : Int)
  (0 : Int) [] (0 : Int) false false)).row), (vB (List.getD z_10 z_9 (Cap.mk (0 : Int) (0 : Int) [] (0 : Int) false false)).bef), (vB (List.getD z_10 z_9 (Cap.mk (0 : Int)
  (0 : Int) [] (0 : Int) false false)).aft)]) + (1 : Nat)) * (56 : Nat)) (140737488355328 : Nat) && true then some (Ex.normal, St.mk [(40, (vI (IntKind.wrap IntKind.i64 ((↑k
  : Int) + (1 : Int))))), (39, (vI (↑(List.length l) : Int))), (38, AV.sl (List.map eWrd l)), (12, AV.sl (List.map eStr z_3 ++ [[(vS (List.getD z k (Wrd.mk (0 : Int)
  (ByteArray.mk (Array.mk [])))).text)]])), (11, .own 11), (3, (vI h)), (2, (vI r)), (1, (vI w)), (0, AV.sl (List.map eWrd l))] [(11, Blk.mk false 32 6 (List.set (List.map
  eCap out) z_9 [(vI (List.getD z_10 z_9 (Cap.mk (0 : Int) (0 : Int) [] (0 : Int) false false)).fr), (vI (min (List.getD z_8 z_7 (Cap.mk (0 : Int) (0 : Int) [] (0 : Int)
  false false)).to (List.getD z k (Wrd.mk (0 : Int) (ByteArray.mk (Array.mk [])))).time)), AV.sl (List.map eStr (List.getD z_10 z_9 (Cap.mk (0 : Int) (0 : Int) [] (0 : Int)
  false false)).lines), (vI (List.getD z_10 z_9 (Cap.mk (0 : Int) (0 : Int) [] (0 : Int) false false)).row), (vB (List.getD z_10 z_9 (Cap.mk (0 : Int) (0 : Int) [] (0 : Int)
  false false)).bef), (vB (List.getD z_10 z_9 (Cap.mk (0 : Int) (0 : Int) [] (0 : Int) false false)).aft)] ++ [[(vI (List.getD z k (Wrd.mk (0 : Int) (ByteArray.mk (Array.mk
  [])))).time), (vI (IntKind.wrap IntKind.i64 ((List.getD z k (Wrd.mk (0 : Int) (ByteArray.mk (Array.mk [])))).time + h))), AV.sl (List.take (List.length (List.map eStr z_3
  ++ [[(vS (List.getD z k (Wrd.mk (0 : Int) (ByteArray.mk (Array.mk [])))).text)]]) - z_4) (List.drop ((0 : Nat) + z_4) (List.map eStr z_3 ++ [[(vS (List.getD z k (Wrd.mk (0
  : Int) (ByteArray.mk (Array.mk [])))).text)]]))), (vI (0 : Int)), (vB false), (vB false)]]))]) else none else none else none else none else none else bif Nat.ble
  ((List.length (List.map eCap out) + (1 : Nat)) * (56 : Nat)) (140737488355328 : Nat) && true then some (Ex.normal, St.mk [(40, (vI (IntKind.wrap IntKind.i64 ((↑k : Int) +
  (1 : Int))))), (39, (vI (↑(List.length l) : Int))), (38, AV.sl (List.map eWrd l)), (12, AV.sl (List.map eStr z_3 ++ [[(vS (List.getD z k (Wrd.mk (0 : Int) (ByteArray.mk
  (Array.mk [])))).text)]])), (11, .own 11), (3, (vI h)), (2, (vI r)), (1, (vI w)), (0, AV.sl (List.map eWrd l))] [(11, Blk.mk false 32 6 (List.map eCap out ++ [[(vI
  (List.getD z k (Wrd.mk (0 : Int) (ByteArray.mk (Array.mk [])))).time), (vI (IntKind.wrap IntKind.i64 ((List.getD z k (Wrd.mk (0 : Int) (ByteArray.mk (Array.mk [])))).time
  + h))), AV.sl (List.take (List.length (List.map eStr z_3 ++ [[(vS (List.getD z k (Wrd.mk (0 : Int) (ByteArray.mk (Array.mk [])))).text)]]) - z_4) (List.drop ((0 : Nat) +
  z_4) (List.map eStr z_3 ++ [[(vS (List.getD z k (Wrd.mk (0 : Int) (ByteArray.mk (Array.mk [])))).text)]]))), (vI (0 : Int)), (vB false), (vB false)]]))]) else none else
  none else none else bif decide ((0 : Int) < (↑(List.length (List.map eCap out)) : Int)) then Option.bind (idx (IntKind.wrap IntKind.i64 ((↑(List.length (List.map eCap
  out)) : Int) - (1 : Int)))) fun (z_5 : Nat) => bif decide (z_5 < List.length (Blk.mk false 32 6 (List.map eCap out)).rows) then Option.bind (unenc (List.map eCap)
  (List.map eCap out)) fun (z_6 : List Cap) => bif decide (z_5 < List.length z_6) then Option.bind (idx (IntKind.wrap IntKind.i64 ((↑(List.length (List.map eCap out)) : Int)
  - (1 : Int)))) fun (z_7 : Nat) => bif decide (z_7 < List.length (Blk.mk false 32 6 (List.map eCap out)).rows) then Option.bind (unenc (List.map eCap) (List.map eCap out))
  fun (z_8 : List Cap) => bif decide (z_7 < List.length z_8) then bif Nat.ble ((List.length (List.set (List.map eCap out) z_7 [(vI (List.getD z_8 z_7 (Cap.mk (0 : Int) (0 :
  Int) [] (0 : Int) false false)).fr), (vI (min (List.getD z_6 z_5 (Cap.mk (0 : Int) (0 : Int) [] (0 : Int) false false)).to (List.getD z k (Wrd.mk (0 : Int) (ByteArray.mk
  (Array.mk [])))).time)), AV.sl (List.map eStr (List.getD z_8 z_7 (Cap.mk (0 : Int) (0 : Int) [] (0 : Int) false false)).lines), (vI (List.getD z_8 z_7 (Cap.mk (0 : Int) (0
  : Int) [] (0 : Int) false false)).row), (vB (List.getD z_8 z_7 (Cap.mk (0 : Int) (0 : Int) [] (0 : Int) false false)).bef), (vB (List.getD z_8 z_7 (Cap.mk (0 : Int) (0 :
  Int) [] (0 : Int) false false)).aft)]) + (1 : Nat)) * (56 : Nat)) (140737488355328 : Nat) && true then some (Ex.normal, St.mk [(40, (vI (IntKind.wrap IntKind.i64 ((↑k :
  Int) + (1 : Int))))), (39, (vI (↑(List.length l) : Int))), (38, AV.sl (List.map eWrd l)), (12, AV.sl (List.map eStr z_3 ++ [[(vS (List.getD z k (Wrd.mk (0 : Int)
  (ByteArray.mk (Array.mk [])))).text)]])), (11, .own 11), (3, (vI h)), (2, (vI r)), (1, (vI w)), (0, AV.sl (List.map eWrd l))] [(11, Blk.mk false 32 6 (List.set (List.map
  eCap out) z_7 [(vI (List.getD z_8 z_7 (Cap.mk (0 : Int) (0 : Int) [] (0 : Int) false false)).fr), (vI (min (List.getD z_6 z_5 (Cap.mk (0 : Int) (0 : Int) [] (0 : Int)
  false false)).to (List.getD z k (Wrd.mk (0 : Int) (ByteArray.mk (Array.mk [])))).time)), AV.sl (List.map eStr (List.getD z_8 z_7 (Cap.mk (0 : Int) (0 : Int) [] (0 : Int)
  false false)).lines), (vI (List.getD z_8 z_7 (Cap.mk (0 : Int) (0 : Int) [] (0 : Int) false false)).row), (vB (List.getD z_8 z_7 (Cap.mk (0 : Int) (0 : Int) [] (0 : Int)
  false false)).bef), (vB (List.getD z_8 z_7 (Cap.mk (0 : Int) (0 : Int) [] (0 : Int) false false)).aft)] ++ [[(vI (List.getD z k (Wrd.mk (0 : Int) (ByteArray.mk (Array.mk
  [])))).time), (vI (IntKind.wrap IntKind.i64 ((List.getD z k (Wrd.mk (0 : Int) (ByteArray.mk (Array.mk [])))).time + h))), AV.sl (List.take (List.length (List.map eStr z_3
  ++ [[(vS (List.getD z k (Wrd.mk (0 : Int) (ByteArray.mk (Array.mk [])))).text)]]) - z_4) (List.drop ((0 : Nat) + z_4) (List.map eStr z_3 ++ [[(vS (List.getD z k (Wrd.mk (0
  : Int) (ByteArray.mk (Array.mk [])))).text)]]))), (vI (0 : Int)), (vB false), (vB false)]]))]) else none else none else none else none else none else bif Nat.ble
  ((List.length (List.map eCap out) + (1 : Nat)) * (56 : Nat)) (140737488355328 : Nat) && true then some (Ex.normal, St.mk [(40, (vI (IntKind.wrap IntKind.i64 ((↑k : Int) +
  (1 : Int))))), (39, (vI (↑(List.length l) : Int))), (38, AV.sl (List.map eWrd l)), (12, AV.sl (List.map eStr z_3 ++ [[(vS (List.getD z k (Wrd.mk (0 : Int) (ByteArray.mk
  (Array.mk [])))).text)]])), (11, .own 11), (3, (vI h)), (2, (vI r)), (1, (vI w)), (0, AV.sl (List.map eWrd l))] [(11, Blk.mk false 32 6 (List.map eCap out ++ [[(vI
  (List.getD z k (Wrd.mk (0 : Int) (ByteArray.mk (Array.mk [])))).time), (vI (IntKind.wrap IntKind.i64 ((List.getD z k (Wrd.mk (0 : Int) (ByteArray.mk (Array.mk [])))).time
  + h))), AV.sl (List.take (List.length (List.map eStr z_3 ++ [[(vS (List.getD z k (Wrd.mk (0 : Int) (ByteArray.mk (Array.mk [])))).text)]]) - z_4) (List.drop ((0 : Nat) +
  z_4) (List.map eStr z_3 ++ [[(vS (List.getD z k (Wrd.mk (0 : Int) (ByteArray.mk (Array.mk [])))).text)]]))), (vI (0 : Int)), (vB false), (vB false)]]))]) else none else
  none else none else none else bif decide ((0 : Int) < (↑(List.length (List.map eStr ls)) : Int)) then Option.bind (idx (IntKind.wrap IntKind.i64 ((↑(List.length (List.map
  eStr ls)) : Int) - (1 : Int)))) fun (z_3 : Nat) => Option.bind (unenc (List.map eStr) (List.map eStr ls)) fun (z_4 : List ByteArray) => bif decide (z_3 < List.length z_4)
  then Option.bind (unenc encRCh [(vS (List.getD z_4 z_3 (ByteArray.mk (Array.mk []))))]) fun (z_5 : ByteArray) => bif decide (ByteArray.size z_5 ≤ (4294967280 : Nat)) then
  Option.bind (unenc encRCh [(vS (List.getD z k (Wrd.mk (0 : Int) (ByteArray.mk (Array.mk [])))).text)]) fun (z_6 : ByteArray) => bif decide (ByteArray.size z_6 ≤
  (4294967280 : Nat)) then bif decide (IntKind.wrap IntKind.i64 (IntKind.wrap IntKind.i64 (F.runes z_5 + (1 : Int)) + F.runes z_6) ≤ w) then Option.bind (idx (IntKind.wrap
  IntKind.i64 ((↑(List.length (List.map eStr ls)) : Int) - (1 : Int)))) fun (z_7 : Nat) => bif Nat.ble (0 : Nat) z_7 && Nat.ble z_7 (List.length (List.map eStr ls)) &&
  List.all (List.map eStr ls) fun (r : Row) => Nat.beq (List.length r) (1 : Nat) then Option.bind (unenc encClF [AV.sl (List.take z_7 (List.map eStr ls))]) fun (z_8 : List
  ByteArray) => bif decide (List.length z_8 ≤ (1000 : Nat)) then Option.bind (idx (IntKind.wrap IntKind.i64 ((↑(List.length (List.map eStr ls)) : Int) - (1 : Int)))) fun
  (z_9 : Nat) => Option.bind (unenc (List.map eStr) (List.map eStr ls)) fun (z_10 : List ByteArray) => bif decide (z_9 < List.length z_10) then bif Nat.ble (ByteArray.size
  (List.getD z_10 z_9 (ByteArray.mk (Array.mk []))) + ByteArray.size (ByteArray.mk (Array.mk [(32 : UInt8)]))) (9223372036854775807 : Nat) then bif Nat.ble (ByteArray.size
  (List.getD z_10 z_9 (ByteArray.mk (Array.mk [])) ++ ByteArray.mk (Array.mk [(32 : UInt8)])) + ByteArray.size (List.getD z k (Wrd.mk (0 : Int) (ByteArray.mk (Array.mk
  [])))).text) (9223372036854775807 : Nat) then bif Nat.ble ((List.length (List.map eStr z_8) + (1 : Nat)) * (16 : Nat)) (140737488355328 : Nat) && true then Option.bind
  (idx (max (0 : Int) (IntKind.wrap IntKind.i64 ((↑(List.length (List.map eStr z_8 ++ [[(vS (List.getD z_10 z_9 (ByteArray.mk (Array.mk [])) ++ ByteArray.mk (Array.mk [(32 :
  UInt8)]) ++ (List.getD z k (Wrd.mk (0 : Int) (ByteArray.mk (Array.mk [])))).text))]])) : Int) - r)))) fun (z_11 : Nat) => bif Nat.ble z_11 (List.length (List.map eStr z_8
  ++ [[(vS (List.getD z_10 z_9 (ByteArray.mk (Array.mk [])) ++ ByteArray.mk (Array.mk [(32 : UInt8)]) ++ (List.getD z k (Wrd.mk (0 : Int) (ByteArray.mk (Array.mk
  [])))).text))]])) && Nat.ble (List.length (List.map eStr z_8 ++ [[(vS (List.getD z_10 z_9 (ByteArray.mk (Array.mk [])) ++ ByteArray.mk (Array.mk [(32 : UInt8)]) ++
  (List.getD z k (Wrd.mk (0 : Int) (ByteArray.mk (Array.mk [])))).text))]])) (List.length (List.map eStr z_8 ++ [[(vS (List.getD z_10 z_9 (ByteArray.mk (Array.mk [])) ++
  ByteArray.mk (Array.mk [(32 : UInt8)]) ++ (List.getD z k (Wrd.mk (0 : Int) (ByteArray.mk (Array.mk [])))).text))]])) then bif decide ((0 : Int) < (↑(List.length (List.map
  eCap out)) : Int)) then Option.bind (idx (IntKind.wrap IntKind.i64 ((↑(List.length (List.map eCap out)) : Int) - (1 : Int)))) fun (z_12 : Nat) => bif decide (z_12 <
  List.length (Blk.mk false 32 6 (List.map eCap out)).rows) then Option.bind (unenc (List.map eCap) (List.map eCap out)) fun (z_13 : List Cap) => bif decide (z_12 <
  List.length z_13) then bif (List.getD z_13 z_12 (Cap.mk (0 : Int) (0 : Int) [] (0 : Int) false false)).fr == (List.getD z k (Wrd.mk (0 : Int) (ByteArray.mk (Array.mk
  [])))).time then Option.bind (idx (IntKind.wrap IntKind.i64 ((↑(List.length (List.map eCap out)) : Int) - (1 : Int)))) fun (z_14 : Nat) => bif decide (z_14 < List.length
  (Blk.mk false 32 6 (List.map eCap out)).rows) then Option.bind (unenc (List.map eCap) (List.map eCap out)) fun (z_15 : List Cap) => bif decide (z_14 < List.length z_15)
  then some (Ex.normal, St.mk [(40, (vI (IntKind.wrap IntKind.i64 ((↑k : Int) + (1 : Int))))), (39, (vI (↑(List.length l) : Int))), (38, AV.sl (List.map eWrd l)), (12, AV.sl
  (List.map eStr z_8 ++ [[(vS (List.getD z_10 z_9 (ByteArray.mk (Array.mk [])) ++ ByteArray.mk (Array.mk [(32 : UInt8)]) ++ (List.getD z k (Wrd.mk (0 : Int) (ByteArray.mk
  (Array.mk [])))).text))]])), (11, .own 11), (3, (vI h)), (2, (vI r)), (1, (vI w)), (0, AV.sl (List.map eWrd l))] [(11, Blk.mk false 32 6 (List.set (List.map eCap out) z_14
  [(vI (List.getD z k (Wrd.mk (0 : Int) (ByteArray.mk (Array.mk [])))).time), (vI (IntKind.wrap IntKind.i64 ((List.getD z k (Wrd.mk (0 : Int) (ByteArray.mk (Array.mk
  [])))).time + h))), AV.sl (List.take (List.length (List.map eStr z_8 ++ [[(vS (List.getD z_10 z_9 (ByteArray.mk (Array.mk [])) ++ ByteArray.mk (Array.mk [(32 : UInt8)]) ++
  (List.getD z k (Wrd.mk (0 : Int) (ByteArray.mk (Array.mk [])))).text))]]) - z_11) (List.drop ((0 : Nat) + z_11) (List.map eStr z_8 ++ [[(vS (List.getD z_10 z_9
  (ByteArray.mk (Array.mk [])) ++ ByteArray.mk (Array.mk [(32 : UInt8)]) ++ (List.getD z k (Wrd.mk (0 : Int) (ByteArray.mk (Array.mk [])))).text))]]))), (vI (0 : Int)), (vB
  false), (vB false)]))]) else none else none else bif decide ((0 : Int) < (↑(List.length (List.map eCap out)) : Int)) then Option.bind (idx (IntKind.wrap IntKind.i64
  ((↑(List.length (List.map eCap out)) : Int) - (1 : Int)))) fun (z_14 : Nat) => bif decide (z_14 < List.length (Blk.mk false 32 6 (List.map eCap out)).rows) then
  Option.bind (unenc (List.map eCap) (List.map eCap out)) fun (z_15 : List Cap) => bif decide (z_14 < List.length z_15) then Option.bind (idx (IntKind.wrap IntKind.i64
  ((↑(List.length (List.map eCap out)) : Int) - (1 : Int)))) fun (z_16 : Nat) => bif decide (z_16 < List.length (Blk.mk false 32 6 (List.map eCap out)).rows) then
  Option.bind (unenc (List.map eCap) (List.map eCap out)) fun (z_17 : List Cap) => bif decide (z_16 < List.length z_17) then bif Nat.ble ((List.length (List.set (List.map
  eCap out) z_16 [(vI (List.getD z_17 z_16 (Cap.mk (0 : Int) (0 : Int) [] (0 : Int) false false)).fr), (vI (min (List.getD z_15 z_14 (Cap.mk (0 : Int) (0 : Int) [] (0 : Int)
  false false)).to (List.getD z k (Wrd.mk (0 : Int) (ByteArray.mk (Array.mk [])))).time)), AV.sl (List.map eStr (List.getD z_17 z_16 (Cap.mk (0 : Int) (0 : Int) [] (0 : Int)
  false false)).lines), (vI (List.getD z_17 z_16 (Cap.mk (0 : Int) (0 : Int) [] (0 : Int) false false)).row), (vB (List.getD z_17 z_16 (Cap.mk (0 : Int) (0 : Int) [] (0 :
  Int) false false)).bef), (vB (List.getD z_17 z_16 (Cap.mk (0 : Int) (0 : Int) [] (0 : Int) false false)).aft)]) + (1 : Nat)) * (56 : Nat)) (140737488355328 : Nat) && true
  then some (Ex.normal, St.mk [(40, (vI (IntKind.wrap IntKind.i64 ((↑k : Int) + (1 : Int))))), (39, (vI (↑(List.length l) : Int))), (38, AV.sl (List.map eWrd l)), (12, AV.sl
  (List.map eStr z_8 ++ [[(vS (List.getD z_10 z_9 (ByteArray.mk (Array.mk [])) ++ ByteArray.mk (Array.mk [(32 : UInt8)]) ++ (List.getD z k (Wrd.mk (0 : Int) (ByteArray.mk
  (Array.mk [])))).text))]])), (11, .own 11), (3, (vI h)), (2, (vI r)), (1, (vI w)), (0, AV.sl (List.map eWrd l))] [(11, Blk.mk false 32 6 (List.set (List.map eCap out) z_16
  [(vI (List.getD z_17 z_16 (Cap.mk (0 : Int) (0 : Int) [] (0 : Int) false false)).fr), (vI (min (List.getD z_15 z_14 (Cap.mk (0 : Int) (0 : Int) [] (0 : Int) false
  false)).to (List.getD z k (Wrd.mk (0 : Int) (ByteArray.mk (Array.mk [])))).time)), AV.sl (List.map eStr (List.getD z_17 z_16 (Cap.mk (0 : Int) (0 : Int) [] (0 : Int) false
  false)).lines), (vI (List.getD z_17 z_16 (Cap.mk (0 : Int) (0 : Int) [] (0 : Int) false false)).row), (vB (List.getD z_17 z_16 (Cap.mk (0 : Int) (0 : Int) [] (0 : Int)
  false false)).bef), (vB (List.getD z_17 z_16 (Cap.mk (0 : Int) (0 : Int) [] (0 : Int) false false)).aft)] ++ [[(vI (List.getD z k (Wrd.mk (0 : Int) (ByteArray.mk (Array.mk
  [])))).time), (vI (IntKind.wrap IntKind.i64 ((List.getD z k (Wrd.mk (0 : Int) (ByteArray.mk (Array.mk [])))).time + h))), AV.sl (List.take (List.length (List.map eStr z_8
  ++ [[(vS (List.getD z_10 z_9 (ByteArray.mk (Array.mk [])) ++ ByteArray.mk (Array.mk [(32 : UInt8)]) ++ (List.getD z k (Wrd.mk (0 : Int) (ByteArray.mk (Array.mk
  [])))).text))]]) - z_11) (List.drop ((0 : Nat) + z_11) (List.map eStr z_8 ++ [[(vS (List.getD z_10 z_9 (ByteArray.mk (Array.mk [])) ++ ByteArray.mk (Array.mk [(32 :
  UInt8)]) ++ (List.getD z k (Wrd.mk (0 : Int) (ByteArray.mk (Array.mk [])))).text))]]))), (vI (0 : Int)), (vB false), (vB false)]]))]) else none else none else none else
  none else none else bif Nat.ble ((List.length (List.map eCap out) + (1 : Nat)) * (56 : Nat)) (140737488355328 : Nat) && true then some (Ex.normal, St.mk [(40, (vI
  (IntKind.wrap IntKind.i64 ((↑k : Int) + (1 : Int))))), (39, (vI (↑(List.length l) : Int))), (38, AV.sl (List.map eWrd l)), (12, AV.sl (List.map eStr z_8 ++ [[(vS
  (List.getD z_10 z_9 (ByteArray.mk (Array.mk [])) ++ ByteArray.mk (Array.mk [(32 : UInt8)]) ++ (List.getD z k (Wrd.mk (0 : Int) (ByteArray.mk (Array.mk [])))).text))]])),
  (11, .own 11), (3, (vI h)), (2, (vI r)), (1, (vI w)), (0, AV.sl (List.map eWrd l))] [(11, Blk.mk false 32 6 (List.map eCap out ++ [[(vI (List.getD z k (Wrd.mk (0 : Int)
  (ByteArray.mk (Array.mk [])))).time), (vI (IntKind.wrap IntKind.i64 ((List.getD z k (Wrd.mk (0 : Int) (ByteArray.mk (Array.mk [])))).time + h))), AV.sl (List.take
  (List.length (List.map eStr z_8 ++ [[(vS (List.getD z_10 z_9 (ByteArray.mk (Array.mk [])) ++ ByteArray.mk (Array.mk [(32 : UInt8)]) ++ (List.getD z k (Wrd.mk (0 : Int)
  (ByteArray.mk (Array.mk [])))).text))]]) - z_11) (List.drop ((0 : Nat) + z_11) (List.map eStr z_8 ++ [[(vS (List.getD z_10 z_9 (ByteArray.mk (Array.mk [])) ++ ByteArray.mk
  (Array.mk [(32 : UInt8)]) ++ (List.getD z k (Wrd.mk (0 : Int) (ByteArray.mk (Array.mk [])))).text))]]))), (vI (0 : Int)), (vB false), (vB false)]]))]) else none else none
  else none else bif decide ((0 : Int) < (↑(List.length (List.map eCap out)) : Int)) then Option.bind (idx (IntKind.wrap IntKind.i64 ((↑(List.length (List.map eCap out)) :
  Int) - (1 : Int)))) fun (z_12 : Nat) => bif decide (z_12 < List.length (Blk.mk false 32 6 (List.map eCap out)).rows) then Option.bind (unenc (List.map eCap) (List.map eCap
  out)) fun (z_13 : List Cap) => bif decide (z_12 < List.length z_13) then Option.bind (idx (IntKind.wrap IntKind.i64 ((↑(List.length (List.map eCap out)) : Int) - (1 :
  Int)))) fun (z_14 : Nat) => bif decide (z_14 < List.length (Blk.mk false 32 6 (List.map eCap out)).rows) then Option.bind (unenc (List.map eCap) (List.map eCap out)) fun
  (z_15 : List Cap) => bif decide (z_14 < List.length z_15) then bif Nat.ble ((List.length (List.set (List.map eCap out) z_14 [(vI (List.getD z_15 z_14 (Cap.mk (0 : Int) (0
  : Int) [] (0 : Int) false false)).fr), (vI (min (List.getD z_13 z_12 (Cap.mk (0 : Int) (0 : Int) [] (0 : Int) false false)).to (List.getD z k (Wrd.mk (0 : Int)
  (ByteArray.mk (Array.mk [])))).time)), AV.sl (List.map eStr (List.getD z_15 z_14 (Cap.mk (0 : Int) (0 : Int) [] (0 : Int) false false)).lines), (vI (List.getD z_15 z_14
  (Cap.mk (0 : Int) (0 : Int) [] (0 : Int) false false)).row), (vB (List.getD z_15 z_14 (Cap.mk (0 : Int) (0 : Int) [] (0 : Int) false false)).bef), (vB (List.getD z_15 z_14
  (Cap.mk (0 : Int) (0 : Int) [] (0 : Int) false false)).aft)]) + (1 : Nat)) * (56 : Nat)) (140737488355328 : Nat) && true then some (Ex.normal, St.mk [(40, (vI
  (IntKind.wrap IntKind.i64 ((↑k : Int) + (1 : Int))))), (39, (vI (↑(List.length l) : Int))), (38, AV.sl (List.map eWrd l)), (12, AV.sl (List.map eStr z_8 ++ [[(vS
  (List.getD z_10 z_9 (ByteArray.mk (Array.mk [])) ++ ByteArray.mk (Array.mk [(32 : UInt8)]) ++ (List.getD z k (Wrd.mk (0 : Int) (ByteArray.mk (Array.mk [])))).text))]])),
  (11, .own 11), (3, (vI h)), (2, (vI r)), (1, (vI w)), (0, AV.sl (List.map eWrd l))] [(11, Blk.mk false 32 6 (List.set (List.map eCap out) z_14 [(vI (List.getD z_15 z_14
  (Cap.mk (0 : Int) (0 : Int) [] (0 : Int) false false)).fr), (vI (min (List.getD z_13 z_12 (Cap.mk (0 : Int) (0 : Int) [] (0 : Int) false false)).to (List.getD z k (Wrd.mk
  (0 : Int) (ByteArray.mk (Array.mk [])))).time)), AV.sl (List.map eStr (List.getD z_15 z_14 (Cap.mk (0 : Int) (0 : Int) [] (0 : Int) false false)).lines), (vI (List.getD
  z_15 z_14 (Cap.mk (0 : Int) (0 : Int) [] (0 : Int) false false)).row), (vB (List.getD z_15 z_14 (Cap.mk (0 : Int) (0 : Int) [] (0 : Int) false false)).bef), (vB (List.getD
  z_15 z_14 (Cap.mk (0 : Int) (0 : Int) [] (0 : Int) false false)).aft)] ++ [[(vI (List.getD z k (Wrd.mk (0 : Int) (ByteArray.mk (Array.mk [])))).time), (vI (IntKind.wrap
  IntKind.i64 ((List.getD z k (Wrd.mk (0 : Int) (ByteArray.mk (Array.mk [])))).time + h))), AV.sl (List.take (List.length (List.map eStr z_8 ++ [[(vS (List.getD z_10 z_9
  (ByteArray.mk (Array.mk [])) ++ ByteArray.mk (Array.mk [(32 : UInt8)]) ++ (List.getD z k (Wrd.mk (0 : Int) (ByteArray.mk (Array.mk [])))).text))]]) - z_11) (List.drop ((0
  : Nat) + z_11) (List.map eStr z_8 ++ [[(vS (List.getD z_10 z_9 (ByteArray.mk (Array.mk [])) ++ ByteArray.mk (Array.mk [(32 : UInt8)]) ++ (List.getD z k (Wrd.mk (0 : Int)
  (ByteArray.mk (Array.mk [])))).text))]]))), (vI (0 : Int)), (vB false), (vB false)]]))]) else none else none else none else none else none else bif Nat.ble ((List.length
  (List.map eCap out) + (1 : Nat)) * (56 : Nat)) (140737488355328 : Nat) && true then some (Ex.normal, St.mk [(40, (vI (IntKind.wrap IntKind.i64 ((↑k : Int) + (1 : Int))))),
  (39, (vI (↑(List.length l) : Int))), (38, AV.sl (List.map eWrd l)), (12, AV.sl (List.map eStr z_8 ++ [[(vS (List.getD z_10 z_9 (ByteArray.mk (Array.mk [])) ++ ByteArray.mk
  (Array.mk [(32 : UInt8)]) ++ (List.getD z k (Wrd.mk (0 : Int) (ByteArray.mk (Array.mk [])))).text))]])), (11, .own 11), (3, (vI h)), (2, (vI r)), (1, (vI w)), (0, AV.sl
  (List.map eWrd l))] [(11, Blk.mk false 32 6 (List.map eCap out ++ [[(vI (List.getD z k (Wrd.mk (0 : Int) (ByteArray.mk (Array.mk [])))).time), (vI (IntKind.wrap
  IntKind.i64 ((List.getD z k (Wrd.mk (0 : Int) (ByteArray.mk (Array.mk [])))).time + h))), AV.sl (List.take (List.length (List.map eStr z_8 ++ [[(vS (List.getD z_10 z_9
  (ByteArray.mk (Array.mk [])) ++ ByteArray.mk (Array.mk [(32 : UInt8)]) ++ (List.getD z k (Wrd.mk (0 : Int) (ByteArray.mk (Array.mk [])))).text))]]) - z_11) (List.drop ((0
  : Nat) + z_11) (List.map eStr z_8 ++ [[(vS (List.getD z_10 z_9 (ByteArray.mk (Array.mk [])) ++ ByteArray.mk (Array.mk [(32 : UInt8)]) ++ (List.getD z k (Wrd.mk (0 : Int)
  (ByteArray.mk (Array.mk [])))).text))]]))), (vI (0 : Int)), (vB false), (vB false)]]))]) else none else none else none else none else none else none else none else none
  else Option.bind (unenc encClF [AV.sl (List.map eStr ls)]) fun (z_7 : List ByteArray) => bif decide (List.length z_7 ≤ (1000 : Nat)) then bif Nat.ble ((List.length
  (List.map eStr z_7) + (1 : Nat)) * (16 : Nat)) (140737488355328 : Nat) && true then Option.bind (idx (max (0 : Int) (IntKind.wrap IntKind.i64 ((↑(List.length (List.map
  eStr z_7 ++ [[(vS (List.getD z k (Wrd.mk (0 : Int) (ByteArray.mk (Array.mk [])))).text)]])) : Int) - r)))) fun (z_8 : Nat) => bif Nat.ble z_8 (List.length (List.map eStr
  z_7 ++ [[(vS (List.getD z k (Wrd.mk (0 : Int) (ByteArray.mk (Array.mk [])))).text)]])) && Nat.ble (List.length (List.map eStr z_7 ++ [[(vS (List.getD z k (Wrd.mk (0 : Int)
  (ByteArray.mk (Array.mk [])))).text)]])) (List.length (List.map eStr z_7 ++ [[(vS (List.getD z k (Wrd.mk (0 : Int) (ByteArray.mk (Array.mk [])))).text)]])) then bif decide
  ((0 : Int) < (↑(List.length (List.map eCap out)) : Int)) then Option.bind (idx (IntKind.wrap IntKind.i64 ((↑(List.length (List.map eCap out)) : Int) - (1 : Int)))) fun
  (z_9 : Nat) => bif decide (z_9 < List.length (Blk.mk false 32 6 (List.map eCap out)).rows) then Option.bind (unenc (List.map eCap) (List.map eCap out)) fun (z_10 : List
  Cap) => bif decide (z_9 < List.length z_10) then bif (List.getD z_10 z_9 (Cap.mk (0 : Int) (0 : Int) [] (0 : Int) false false)).fr == (List.getD z k (Wrd.mk (0 : Int)
  (ByteArray.mk (Array.mk [])))).time then Option.bind (idx (IntKind.wrap IntKind.i64 ((↑(List.length (List.map eCap out)) : Int) - (1 : Int)))) fun (z_11 : Nat) => bif
  decide (z_11 < List.length (Blk.mk false 32 6 (List.map eCap out)).rows) then Option.bind (unenc (List.map eCap) (List.map eCap out)) fun (z_12 : List Cap) => bif decide
  (z_11 < List.length z_12) then some (Ex.normal, St.mk [(40, (vI (IntKind.wrap IntKind.i64 ((↑k : Int) + (1 : Int))))), (39, (vI (↑(List.length l) : Int))), (38, AV.sl
  (List.map eWrd l)), (12, AV.sl (List.map eStr z_7 ++ [[(vS (List.getD z k (Wrd.mk (0 : Int) (ByteArray.mk (Array.mk [])))).text)]])), (11, .own 11), (3, (vI h)), (2, (vI
  r)), (1, (vI w)), (0, AV.sl (List.map eWrd l))] [(11, Blk.mk false 32 6 (List.set (List.map eCap out) z_11 [(vI (List.getD z k (Wrd.mk (0 : Int) (ByteArray.mk (Array.mk
  [])))).time), (vI (IntKind.wrap IntKind.i64 ((List.getD z k (Wrd.mk (0 : Int) (ByteArray.mk (Array.mk [])))).time + h))), AV.sl (List.take (List.length (List.map eStr z_7
  ++ [[(vS (List.getD z k (Wrd.mk (0 : Int) (ByteArray.mk (Array.mk [])))).text)]]) - z_8) (List.drop ((0 : Nat) + z_8) (List.map eStr z_7 ++ [[(vS (List.getD z k (Wrd.mk (0
  : Int) (ByteArray.mk (Array.mk [])))).text)]]))), (vI (0 : Int)), (vB false), (vB false)]))]) else none else none else bif decide ((0 : Int) < (↑(List.length (List.map
  eCap out)) : Int)) then Option.bind (idx (IntKind.wrap IntKind.i64 ((↑(List.length (List.map eCap out)) : Int) - (1 : Int)))) fun (z_11 : Nat) => bif decide (z_11 <
  List.length (Blk.mk false 32 6 (List.map eCap out)).rows) then Option.bind (unenc (List.map eCap) (List.map eCap out)) fun (z_12 : List Cap) => bif decide (z_11 <
  List.length z_12) then Option.bind (idx (IntKind.wrap IntKind.i64 ((↑(List.length (List.map eCap out)) : Int) - (1 : Int)))) fun (z_13 : Nat) => bif decide (z_13 <
  List.length (Blk.mk false 32 6 (List.map eCap out)).rows) then Option.bind (unenc (List.map eCap) (List.map eCap out)) fun (z_14 : List Cap) => bif decide (z_13 <
  List.length z_14) then bif Nat.ble ((List.length (List.set (List.map eCap out) z_13 [(vI (List.getD z_14 z_13 (Cap.mk (0 : Int) (0 : Int) [] (0 : Int) false false)).fr),
  (vI (min (List.getD z_12 z_11 (Cap.mk (0 : Int) (0 : Int) [] (0 : Int) false false)).to (List.getD z k (Wrd.mk (0 : Int) (ByteArray.mk (Array.mk [])))).time)), AV.sl
  (List.map eStr (List.getD z_14 z_13 (Cap.mk (0 : Int) (0 : Int) [] (0 : Int) false false)).lines), (vI (List.getD z_14 z_13 (Cap.mk (0 : Int) (0 : Int) [] (0 : Int) false
  false)).row), (vB (List.getD z_14 z_13 (Cap.mk (0 : Int) (0 : Int) [] (0 : Int) false false)).bef), (vB (List.getD z_14 z_13 (Cap.mk (0 : Int) (0 : Int) [] (0 : Int) false
  false)).aft)]) + (1 : Nat)) * (56 : Nat)) (140737488355328 : Nat) && true then some (Ex.normal, St.mk [(40, (vI (IntKind.wrap IntKind.i64 ((↑k : Int) + (1 : Int))))), (39,
  (vI (↑(List.length l) : Int))), (38, AV.sl (List.map eWrd l)), (12, AV.sl (List.map eStr z_7 ++ [[(vS (List.getD z k (Wrd.mk (0 : Int) (ByteArray.mk (Array.mk
  [])))).text)]])), (11, .own 11), (3, (vI h)), (2, (vI r)), (1, (vI w)), (0, AV.sl (List.map eWrd l))] [(11, Blk.mk false 32 6 (List.set (List.map eCap out) z_13 [(vI
  (List.getD z_14 z_13 (Cap.mk (0 : Int) (0 : Int) [] (0 : Int) false false)).fr), (vI (min (List.getD z_12 z_11 (Cap.mk (0 : Int) (0 : Int) [] (0 : Int) false false)).to
  (List.getD z k (Wrd.mk (0 : Int) (ByteArray.mk (Array.mk [])))).time)), AV.sl (List.map eStr (List.getD z_14 z_13 (Cap.mk (0 : Int) (0 : Int) [] (0 : Int) false
  false)).lines), (vI (List.getD z_14 z_13 (Cap.mk (0 : Int) (0 : Int) [] (0 : Int) false false)).row), (vB (List.getD z_14 z_13 (Cap.mk (0 : Int) (0 : Int) [] (0 : Int)
  false false)).bef), (vB (List.getD z_14 z_13 (Cap.mk (0 : Int) (0 : Int) [] (0 : Int) false false)).aft)] ++ [[(vI (List.getD z k (Wrd.mk (0 : Int) (ByteArray.mk (Array.mk
  [])))).time), (vI (IntKind.wrap IntKind.i64 ((List.getD z k (Wrd.mk (0 : Int) (ByteArray.mk (Array.mk [])))).time + h))), AV.sl (List.take (List.length (List.map eStr z_7
  ++ [[(vS (List.getD z k (Wrd.mk (0 : Int) (ByteArray.mk (Array.mk [])))).text)]]) - z_8) (List.drop ((0 : Nat) + z_8) (List.map eStr z_7 ++ [[(vS (List.getD z k (Wrd.mk (0
  : Int) (ByteArray.mk (Array.mk [])))).text)]]))), (vI (0 : Int)), (vB false), (vB false)]]))]) else none else none else none else none else none else bif Nat.ble
  ((List.length (List.map eCap out) + (1 : Nat)) * (56 : Nat)) (140737488355328 : Nat) && true then some (Ex.normal, St.mk [(40, (vI (IntKind.wrap IntKind.i64 ((↑k : Int) +
  (1 : Int))))), (39, (vI (↑(List.length l) : Int))), (38, AV.sl (List.map eWrd l)), (12, AV.sl (List.map eStr z_7 ++ [[(vS (List.getD z k (Wrd.mk (0 : Int) (ByteArray.mk
  (Array.mk [])))).text)]])), (11, .own 11), (3, (vI h)), (2, (vI r)), (1, (vI w)), (0, AV.sl (List.map eWrd l))] [(11, Blk.mk false 32 6 (List.map eCap out ++ [[(vI
  (List.getD z k (Wrd.mk (0 : Int) (ByteArray.mk (Array.mk [])))).time), (vI (IntKind.wrap IntKind.i64 ((List.getD z k (Wrd.mk (0 : Int) (ByteArray.mk (Array.mk [])))).time
  + h))), AV.sl (List.take (List.length (List.map eStr z_7 ++ [[(vS (List.getD z k (Wrd.mk (0 : Int) (ByteArray.mk (Array.mk [])))).text)]]) - z_8) (List.drop ((0 : Nat) +
  z_8) (List.map eStr z_7 ++ [[(vS (List.getD z k (Wrd.mk (0 : Int) (ByteArray.mk (Array.mk [])))).text)]]))), (vI (0 : Int)), (vB false), (vB false)]]))]) else none else
  none else none else bif decide ((0 : Int) < (↑(List.length (List.map eCap out)) : Int)) then Option.bind (idx (IntKind.wrap IntKind.i64 ((↑(List.length (List.map eCap
  out)) : Int) - (1 : Int)))) fun (z_9 : Nat) => bif decide (z_9 < List.length (Blk.mk false 32 6 (List.map eCap out)).rows) then Option.bind (unenc (List.map eCap)
  (List.map eCap out)) fun (z_10 : List Cap) => bif decide (z_9 < List.length z_10) then Option.bind (idx (IntKind.wrap IntKind.i64 ((↑(List.length (List.map eCap out)) :
  Int) - (1 : Int)))) fun (z_11 : Nat) => bif decide (z_11 < List.length (Blk.mk false 32 6 (List.map eCap out)).rows) then Option.bind (unenc (List.map eCap) (List.map eCap
  out)) fun (z_12 : List Cap) => bif decide (z_11 < List.length z_12) then bif Nat.ble ((List.length (List.set (List.map eCap out) z_11 [(vI (List.getD z_12 z_11 (Cap.mk (0
  : Int) (0 : Int) [] (0 : Int) false false)).fr), (vI (min (List.getD z_10 z_9 (Cap.mk (0 : Int) (0 : Int) [] (0 : Int) false false)).to (List.getD z k (Wrd.mk (0 : Int)
  (ByteArray.mk (Array.mk [])))).time)), AV.sl (List.map eStr (List.getD z_12 z_11 (Cap.mk (0 : Int) (0 : Int) [] (0 : Int) false false)).lines), (vI (List.getD z_12 z_11
  (Cap.mk (0 : Int) (0 : Int) [] (0 : Int) false false)).row), (vB (List.getD z_12 z_11 (Cap.mk (0 : Int) (0 : Int) [] (0 : Int) false false)).bef), (vB (List.getD z_12 z_11
  (Cap.mk (0 : Int) (0 : Int) [] (0 : Int) false false)).aft)]) + (1 : Nat)) * (56 : Nat)) (140737488355328 : Nat) && true then some (Ex.normal, St.mk [(40, (vI
  (IntKind.wrap IntKind.i64 ((↑k : Int) + (1 : Int))))), (39, (vI (↑(List.length l) : Int))), (38, AV.sl (List.map eWrd l)), (12, AV.sl (List.map eStr z_7 ++ [[(vS
  (List.getD z k (Wrd.mk (0 : Int) (ByteArray.mk (Array.mk [])))).text)]])), (11, .own 11), (3, (vI h)), (2, (vI r)), (1, (vI w)), (0, AV.sl (List.map eWrd l))] [(11, Blk.mk
  false 32 6 (List.set (List.map eCap out) z_11 [(vI (List.getD z_12 z_11 (Cap.mk (0 : Int) (0 : Int) [] (0 : Int) false false)).fr), (vI (min (List.getD z_10 z_9 (Cap.mk (0
  : Int) (0 : Int) [] (0 : Int) false false)).to (List.getD z k (Wrd.mk (0 : Int) (ByteArray.mk (Array.mk [])))).time)), AV.sl (List.map eStr (List.getD z_12 z_11 (Cap.mk (0
  : Int) (0 : Int) [] (0 : Int) false false)).lines), (vI (List.getD z_12 z_11 (Cap.mk (0 : Int) (0 : Int) [] (0 : Int) false false)).row), (vB (List.getD z_12 z_11 (Cap.mk
  (0 : Int) (0 : Int) [] (0 : Int) false false)).bef), (vB (List.getD z_12 z_11 (Cap.mk (0 : Int) (0 : Int) [] (0 : Int) false false)).aft)] ++ [[(vI (List.getD z k (Wrd.mk
  (0 : Int) (ByteArray.mk (Array.mk [])))).time), (vI (IntKind.wrap IntKind.i64 ((List.getD z k (Wrd.mk (0 : Int) (ByteArray.mk (Array.mk [])))).time + h))), AV.sl
  (List.take (List.length (List.map eStr z_7 ++ [[(vS (List.getD z k (Wrd.mk (0 : Int) (ByteArray.mk (Array.mk [])))).text)]]) - z_8) (List.drop ((0 : Nat) + z_8) (List.map
  eStr z_7 ++ [[(vS (List.getD z k (Wrd.mk (0 : Int) (ByteArray.mk (Array.mk [])))).text)]]))), (vI (0 : Int)), (vB false), (vB false)]]))]) else none else none else none
  else none else none else bif Nat.ble ((List.length (List.map eCap out) + (1 : Nat)) * (56 : Nat)) (140737488355328 : Nat) && true then some (Ex.normal, St.mk [(40, (vI
  (IntKind.wrap IntKind.i64 ((↑k : Int) + (1 : Int))))), (39, (vI (↑(List.length l) : Int))), (38, AV.sl (List.map eWrd l)), (12, AV.sl (List.map eStr z_7 ++ [[(vS
  (List.getD z k (Wrd.mk (0 : Int) (ByteArray.mk (Array.mk [])))).text)]])), (11, .own 11), (3, (vI h)), (2, (vI r)), (1, (vI w)), (0, AV.sl (List.map eWrd l))] [(11, Blk.mk
  false 32 6 (List.map eCap out ++ [[(vI (List.getD z k (Wrd.mk (0 : Int) (ByteArray.mk (Array.mk [])))).time), (vI (IntKind.wrap IntKind.i64 ((List.getD z k (Wrd.mk (0 :
  Int) (ByteArray.mk (Array.mk [])))).time + h))), AV.sl (List.take (List.length (List.map eStr z_7 ++ [[(vS (List.getD z k (Wrd.mk (0 : Int) (ByteArray.mk (Array.mk
  [])))).text)]]) - z_8) (List.drop ((0 : Nat) + z_8) (List.map eStr z_7 ++ [[(vS (List.getD z k (Wrd.mk (0 : Int) (ByteArray.mk (Array.mk [])))).text)]]))), (vI (0 : Int)),
  (vB false), (vB false)]]))]) else none else none else none else none else none else none else none else Option.bind (unenc encClF [AV.sl (List.map eStr ls)]) fun (z_3 :
  List ByteArray) => bif decide (List.length z_3 ≤ (1000 : Nat)) then bif Nat.ble ((List.length (List.map eStr z_3) + (1 : Nat)) * (16 : Nat)) (140737488355328 : Nat) &&
  true then Option.bind (idx (max (0 : Int) (IntKind.wrap IntKind.i64 ((↑(List.length (List.map eStr z_3 ++ [[(vS (List.getD z k (Wrd.mk (0 : Int) (ByteArray.mk (Array.mk
  [])))).text)]])) : Int) - r)))) fun (z_4 : Nat) => bif Nat.ble z_4 (List.length (List.map eStr z_3 ++ [[(vS (List.getD z k (Wrd.mk (0 : Int) (ByteArray.mk (Array.mk
  [])))).text)]])) && Nat.ble (List.length (List.map eStr z_3 ++ [[(vS (List.getD z k (Wrd.mk (0 : Int) (ByteArray.mk (Array.mk [])))).text)]])) (List.length (List.map eStr
  z_3 ++ [[(vS (List.getD z k (Wrd.mk (0 : Int) (ByteArray.mk (Array.mk [])))).text)]])) then bif decide ((0 : Int) < (↑(List.length (List.map eCap out)) : Int)) then
  Option.bind (idx (IntKind.wrap IntKind.i64 ((↑(List.length (List.map eCap out)) : Int) - (1 : Int)))) fun (z_5 : Nat) => bif decide (z_5 < List.length (Blk.mk false 32 6
  (List.map eCap out)).rows) then Option.bind (unenc (List.map eCap) (List.map eCap out)) fun (z_6 : List Cap) => bif decide (z_5 < List.length z_6) then bif (List.getD z_6
  z_5 (Cap.mk (0 : Int) (0 : Int) [] (0 : Int) false false)).fr == (List.getD z k (Wrd.mk (0 : Int) (ByteArray.mk (Array.mk [])))).time then Option.bind (idx (IntKind.wrap
  IntKind.i64 ((↑(List.length (List.map eCap out)) : Int) - (1 : Int)))) fun (z_7 : Nat) => bif decide (z_7 < List.length (Blk.mk false 32 6 (List.map eCap out)).rows) then
  Option.bind (unenc (List.map eCap) (List.map eCap out)) fun (z_8 : List Cap) => bif decide (z_7 < List.length z_8) then some (Ex.normal, St.mk [(40, (vI (IntKind.wrap
  IntKind.i64 ((↑k : Int) + (1 : Int))))), (39, (vI (↑(List.length l) : Int))), (38, AV.sl (List.map eWrd l)), (12, AV.sl (List.map eStr z_3 ++ [[(vS (List.getD z k (Wrd.mk
  (0 : Int) (ByteArray.mk (Array.mk [])))).text)]])), (11, .own 11), (3, (vI h)), (2, (vI r)), (1, (vI w)), (0, AV.sl (List.map eWrd l))] [(11, Blk.mk false 32 6 (List.set
  (List.map eCap out) z_7 [(vI (List.getD z k (Wrd.mk (0 : Int) (ByteArray.mk (Array.mk [])))).time), (vI (IntKind.wrap IntKind.i64 ((List.getD z k (Wrd.mk (0 : Int)
  (ByteArray.mk (Array.mk [])))).time + h))), AV.sl (List.take (List.length (List.map eStr z_3 ++ [[(vS (List.getD z k (Wrd.mk (0 : Int) (ByteArray.mk (Array.mk
  [])))).text)]]) - z_4) (List.drop ((0 : Nat) + z_4) (List.map eStr z_3 ++ [[(vS (List.getD z k (Wrd.mk (0 : Int) (ByteArray.mk (Array.mk [])))).text)]]))), (vI (0 : Int)),
  (vB false), (vB false)]))]) else none else none else bif decide ((0 : Int) < (↑(List.length (List.map eCap out)) : Int)) then Option.bind (idx (IntKind.wrap IntKind.i64
  ((↑(List.length (List.map eCap out)) : Int) - (1 : Int)))) fun (z_7 : Nat) => bif decide (z_7 < List.length (Blk.mk false 32 6 (List.map eCap out)).rows) then Option.bind
  (unenc (List.map eCap) (List.map eCap out)) fun (z_8 : List Cap) => bif decide (z_7 < List.length z_8) then Option.bind (idx (IntKind.wrap IntKind.i64 ((↑(List.length
  (List.map eCap out)) : Int) - (1 : Int)))) fun (z_9 : Nat) => bif decide (z_9 < List.length (Blk.mk false 32 6 (List.map eCap out)).rows) then Option.bind (unenc (List.map
  eCap) (List.map eCap out)) fun (z_10 : List Cap) => bif decide (z_9 < List.length z_10) then bif Nat.ble ((List.length (List.set (List.map eCap out) z_9 [(vI (List.getD
  z_10 z_9 (Cap.mk (0 : Int) (0 : Int) [] (0 : Int) false false)).fr), (vI (min (List.getD z_8 z_7 (Cap.mk (0 : Int) (0 : Int) [] (0 : Int) false false)).to (List.getD z k
  (Wrd.mk (0 : Int) (ByteArray.mk (Array.mk [])))).time)), AV.sl (List.map eStr (List.getD z_10 z_9 (Cap.mk (0 : Int) (0 : Int) [] (0 : Int) false false)).lines), (vI
  (List.getD z_10 z_9 (Cap.mk (0 : Int) (0 : Int) [] (0 : Int) false false)).row), (vB (List.getD z_10 z_9 (Cap.mk (0 : Int) (0 : Int) [] (0 : Int) false false)).bef), (vB
  (List.getD z_10 z_9 (Cap.mk (0 : Int) (0 : Int) [] (0 : Int) false false)).aft)]) + (1 : Nat)) * (56 : Nat)) (140737488355328 : Nat) && true then some (Ex.normal, St.mk
  [(40, (vI (IntKind.wrap IntKind.i64 ((↑k : Int) + (1 : Int))))), (39, (vI (↑(List.length l) : Int))), (38, AV.sl (List.map eWrd l)), (12, AV.sl (List.map eStr z_3 ++ [[(vS
  (List.getD z k (Wrd.mk (0 : Int) (ByteArray.mk (Array.mk [])))).text)]])), (11, .own 11), (3, (vI h)), (2, (vI r)), (1, (vI w)), (0, AV.sl (List.map eWrd l))] [(11, Blk.mk
  false 32 6 (List.set (List.map eCap out) z_9 [(vI (List.getD z_10 z_9 (Cap.mk (0 : Int) (0 : Int) [] (0 : Int) false false)).fr), (vI (min (List.getD z_8 z_7 (Cap.mk (0 :
  Int) (0 : Int) [] (0 : Int) false false)).to (List.getD z k (Wrd.mk (0 : Int) (ByteArray.mk (Array.mk [])))).time)), AV.sl (List.map eStr (List.getD z_10 z_9 (Cap.mk (0 :
  Int) (0 : Int) [] (0 : Int) false false)).lines), (vI (List.getD z_10 z_9 (Cap.mk (0 : Int) (0 : Int) [] (0 : Int) false false)).row), (vB (List.getD z_10 z_9 (Cap.mk (0 :
  Int) (0 : Int) [] (0 : Int) false false)).bef), (vB (List.getD z_10 z_9 (Cap.mk (0 : Int) (0 : Int) [] (0 : Int) false false)).aft)] ++ [[(vI (List.getD z k (Wrd.mk (0 :
  Int) (ByteArray.mk (Array.mk [])))).time), (vI (IntKind.wrap IntKind.i64 ((List.getD z k (Wrd.mk (0 : Int) (ByteArray.mk (Array.mk [])))).time + h))), AV.sl (List.take
  (List.length (List.map eStr z_3 ++ [[(vS (List.getD z k (Wrd.mk (0 : Int) (ByteArray.mk (Array.mk [])))).text)]]) - z_4) (List.drop ((0 : Nat) + z_4) (List.map eStr z_3 ++
  [[(vS (List.getD z k (Wrd.mk (0 : Int) (ByteArray.mk (Array.mk [])))).text)]]))), (vI (0 : Int)), (vB false), (vB false)]]))]) else none else none else none else none else
  none else bif Nat.ble ((List.length (List.map eCap out) + (1 : Nat)) * (56 : Nat)) (140737488355328 : Nat) && true then some (Ex.normal, St.mk [(40, (vI (IntKind.wrap
  IntKind.i64 ((↑k : Int) + (1 : Int))))), (39, (vI (↑(List.length l) : Int))), (38, AV.sl (List.map eWrd l)), (12, AV.sl (List.map eStr z_3 ++ [[(vS (List.getD z k (Wrd.mk
  (0 : Int) (ByteArray.mk (Array.mk [])))).text)]])), (11, .own 11), (3, (vI h)), (2, (vI r)), (1, (vI w)), (0, AV.sl (List.map eWrd l))] [(11, Blk.mk false 32 6 (List.map
  eCap out ++ [[(vI (List.getD z k (Wrd.mk (0 : Int) (ByteArray.mk (Array.mk [])))).time), (vI (IntKind.wrap IntKind.i64 ((List.getD z k (Wrd.mk (0 : Int) (ByteArray.mk
  (Array.mk [])))).time + h))), AV.sl (List.take (List.length (List.map eStr z_3 ++ [[(vS (List.getD z k (Wrd.mk (0 : Int) (ByteArray.mk (Array.mk [])))).text)]]) - z_4)
  (List.drop ((0 : Nat) + z_4) (List.map eStr z_3 ++ [[(vS (List.getD z k (Wrd.mk (0 : Int) (ByteArray.mk (Array.mk [])))).text)]]))), (vI (0 : Int)), (vB false), (vB
  false)]]))]) else none else none else none else bif decide ((0 : Int) < (↑(List.length (List.map eCap out)) : Int)) then Option.bind (idx (IntKind.wrap IntKind.i64
  ((↑(List.length (List.map eCap out)) : Int) - (1 : Int)))) fun (z_5 : Nat) => bif decide (z_5 < List.length (Blk.mk false 32 6 (List.map eCap out)).rows) then Option.bind
  (unenc (List.map eCap) (List.map eCap out)) fun (z_6 : List Cap) => bif decide (z_5 < List.length z_6) then Option.bind (idx (IntKind.wrap IntKind.i64 ((↑(List.length
  (List.map eCap out)) : Int) - (1 : Int)))) fun (z_7 : Nat) => bif decide (z_7 < List.length (Blk.mk false 32 6 (List.map eCap out)).rows) then Option.bind (unenc (List.map
  eCap) (List.map eCap out)) fun (z_8 : List Cap) => bif decide (z_7 < List.length z_8) then bif Nat.ble ((List.length (List.set (List.map eCap out) z_7 [(vI (List.getD z_8
  z_7 (Cap.mk (0 : Int) (0 : Int) [] (0 : Int) false false)).fr), (vI (min (List.getD z_6 z_5 (Cap.mk (0 : Int) (0 : Int) [] (0 : Int) false false)).to (List.getD z k
  (Wrd.mk (0 : Int) (ByteArray.mk (Array.mk [])))).time)), AV.sl (List.map eStr (List.getD z_8 z_7 (Cap.mk (0 : Int) (0 : Int) [] (0 : Int) false false)).lines), (vI
  (List.getD z_8 z_7 (Cap.mk (0 : Int) (0 : Int) [] (0 : Int) false false)).row), (vB (List.getD z_8 z_7 (Cap.mk (0 : Int) (0 : Int) [] (0 : Int) false false)).bef), (vB
  (List.getD z_8 z_7 (Cap.mk (0 : Int) (0 : Int) [] (0 : Int) false false)).aft)]) + (1 : Nat)) * (56 : Nat)) (140737488355328 : Nat) && true then some (Ex.normal, St.mk
  [(40, (vI (IntKind.wrap IntKind.i64 ((↑k : Int) + (1 : Int))))), (39, (vI (↑(List.length l) : Int))), (38, AV.sl (List.map eWrd l)), (12, AV.sl (List.map eStr z_3 ++ [[(vS
  (List.getD z k (Wrd.mk (0 : Int) (ByteArray.mk (Array.mk [])))).text)]])), (11, .own 11), (3, (vI h)), (2, (vI r)), (1, (vI w)), (0, AV.sl (List.map eWrd l))] [(11, Blk.mk
  false 32 6 (List.set (List.map eCap out) z_7 [(vI (List.getD z_8 z_7 (Cap.mk (0 : Int) (0 : Int) [] (0 : Int) false false)).fr), (vI (min (List.getD z_6 z_5 (Cap.mk (0 :
  Int) (0 : Int) [] (0 : Int) false false)).to (List.getD z k (Wrd.mk (0 : Int) (ByteArray.mk (Array.mk [])))).time)), AV.sl (List.map eStr (List.getD z_8 z_7 (Cap.mk (0 :
  Int) (0 : Int) [] (0 : Int) false false)).lines), (vI (List.getD z_8 z_7 (Cap.mk (0 : Int) (0 : Int) [] (0 : Int) false false)).row), (vB (List.getD z_8 z_7 (Cap.mk (0 :
  Int) (0 : Int) [] (0 : Int) false false)).bef), (vB (List.getD z_8 z_7 (Cap.mk (0 : Int) (0 : Int) [] (0 : Int) false false)).aft)] ++ [[(vI (List.getD z k (Wrd.mk (0 :
  Int) (ByteArray.mk (Array.mk [])))).time), (vI (IntKind.wrap IntKind.i64 ((List.getD z k (Wrd.mk (0 : Int) (ByteArray.mk (Array.mk [])))).time + h))), AV.sl (List.take
  (List.length (List.map eStr z_3 ++ [[(vS (List.getD z k (Wrd.mk (0 : Int) (ByteArray.mk (Array.mk [])))).text)]]) - z_4) (List.drop ((0 : Nat) + z_4) (List.map eStr z_3 ++
  [[(vS (List.getD z k (Wrd.mk (0 : Int) (ByteArray.mk (Array.mk [])))).text)]]))), (vI (0 : Int)), (vB false), (vB false)]]))]) else none else none else none else none else
  none else bif Nat.ble ((List.length (List.map eCap out) + (1 : Nat)) * (56 : Nat)) (140737488355328 : Nat) && true then some (Ex.normal, St.mk [(40, (vI (IntKind.wrap
  IntKind.i64 ((↑k : Int) + (1 : Int))))), (39, (vI (↑(List.length l) : Int))), (38, AV.sl (List.map eWrd l)), (12, AV.sl (List.map eStr z_3 ++ [[(vS (List.getD z k (Wrd.mk
  (0 : Int) (ByteArray.mk (Array.mk [])))).text)]])), (11, .own 11), (3, (vI h)), (2, (vI r)), (1, (vI w)), (0, AV.sl (List.map eWrd l))] [(11, Blk.mk false 32 6 (List.map
  eCap out ++ [[(vI (List.getD z k (Wrd.mk (0 : Int) (ByteArray.mk (Array.mk [])))).time), (vI (IntKind.wrap IntKind.i64 ((List.getD z k (Wrd.mk (0 : Int) (ByteArray.mk
  (Array.mk [])))).time + h))), AV.sl (List.take (List.length (List.map eStr z_3 ++ [[(vS (List.getD z k (Wrd.mk (0 : Int) (ByteArray.mk (Array.mk [])))).text)]]) - z_4)
  (List.drop ((0 : Nat) + z_4) (List.map eStr z_3 ++ [[(vS (List.getD z k (Wrd.mk (0 : Int) (ByteArray.mk (Array.mk [])))).text)]]))), (vI (0 : Int)), (vB false), (vB
  false)]]))]) else none else none else none else none else none else bif decide ((0 : Int) < (↑(List.length (List.map eStr ls)) : Int)) then Option.bind (idx (IntKind.wrap
  IntKind.i64 ((↑(List.length (List.map eStr ls)) : Int) - (1 : Int)))) fun (z_1 : Nat) => Option.bind (unenc (List.map eStr) (List.map eStr ls)) fun (z_2 : List ByteArray)
  => bif decide (z_1 < List.length z_2) then Option.bind (unenc encRCh [(vS (List.getD z_2 z_1 (ByteArray.mk (Array.mk []))))]) fun (z_3 : ByteArray) => bif decide
  (ByteArray.size z_3 ≤ (4294967280 : Nat)) then Option.bind (unenc encRCh [(vS (List.getD z k (Wrd.mk (0 : Int) (ByteArray.mk (Array.mk [])))).text)]) fun (z_4 : ByteArray)
  => bif decide (ByteArray.size z_4 ≤ (4294967280 : Nat)) then bif decide (IntKind.wrap IntKind.i64 (IntKind.wrap IntKind.i64 (F.runes z_3 + (1 : Int)) + F.runes z_4) ≤ w)
  then Option.bind (idx (IntKind.wrap IntKind.i64 ((↑(List.length (List.map eStr ls)) : Int) - (1 : Int)))) fun (z_5 : Nat) => bif Nat.ble (0 : Nat) z_5 && Nat.ble z_5
  (List.length (List.map eStr ls)) && List.all (List.map eStr ls) fun (r : Row) => Nat.beq (List.length r) (1 : Nat) then Option.bind (unenc encClF [AV.sl (List.take z_5
  (List.map eStr ls))]) fun (z_6 : List ByteArray) => bif decide (List.length z_6 ≤ (1000 : Nat)) then Option.bind (idx (IntKind.wrap IntKind.i64 ((↑(List.length (List.map
  eStr ls)) : Int) - (1 : Int)))) fun (z_7 : Nat) => Option.bind (unenc (List.map eStr) (List.map eStr ls)) fun (z_8 : List ByteArray) => bif decide (z_7 < List.length z_8)
  then bif Nat.ble (ByteArray.size (List.getD z_8 z_7 (ByteArray.mk (Array.mk []))) + ByteArray.size (ByteArray.mk (Array.mk [(32 : UInt8)]))) (9223372036854775807 : Nat)
  then bif Nat.ble (ByteArray.size (List.getD z_8 z_7 (ByteArray.mk (Array.mk [])) ++ ByteArray.mk (Array.mk [(32 : UInt8)])) + ByteArray.size (List.getD z k (Wrd.mk (0 :
  Int) (ByteArray.mk (Array.mk [])))).text) (9223372036854775807 : Nat) then bif Nat.ble ((List.length (List.map eStr z_6) + (1 : Nat)) * (16 : Nat)) (140737488355328 : Nat)
  && true then Option.bind (idx (max (0 : Int) (IntKind.wrap IntKind.i64 ((↑(List.length (List.map eStr z_6 ++ [[(vS (List.getD z_8 z_7 (ByteArray.mk (Array.mk [])) ++
  ByteArray.mk (Array.mk [(32 : UInt8)]) ++ (List.getD z k (Wrd.mk (0 : Int) (ByteArray.mk (Array.mk [])))).text))]])) : Int) - r)))) fun (z_9 : Nat) => bif Nat.ble z_9
  (List.length (List.map eStr z_6 ++ [[(vS (List.getD z_8 z_7 (ByteArray.mk (Array.mk [])) ++ ByteArray.mk (Array.mk [(32 : UInt8)]) ++ (List.getD z k (Wrd.mk (0 : Int)
  (ByteArray.mk (Array.mk [])))).text))]])) && Nat.ble (List.length (List.map eStr z_6 ++ [[(vS (List.getD z_8 z_7 (ByteArray.mk (Array.mk [])) ++ ByteArray.mk (Array.mk
  [(32 : UInt8)]) ++ (List.getD z k (Wrd.mk (0 : Int) (ByteArray.mk (Array.mk [])))).text))]])) (List.length (List.map eStr z_6 ++ [[(vS (List.getD z_8 z_7 (ByteArray.mk
  (Array.mk [])) ++ ByteArray.mk (Array.mk [(32 : UInt8)]) ++ (List.getD z k (Wrd.mk (0 : Int) (ByteArray.mk (Array.mk [])))).text))]])) then bif decide ((0 : Int) <
  (↑(List.length (List.map eCap out)) : Int)) then Option.bind (idx (IntKind.wrap IntKind.i64 ((↑(List.length (List.map eCap out)) : Int) - (1 : Int)))) fun (z_10 : Nat) =>
  bif decide (z_10 < List.length (Blk.mk false 32 6 (List.map eCap out)).rows) then Option.bind (unenc (List.map eCap) (List.map eCap out)) fun (z_11 : List Cap) => bif
  decide (z_10 < List.length z_11) then bif (List.getD z_11 z_10 (Cap.mk (0 : Int) (0 : Int) [] (0 : Int) false false)).fr == (List.getD z k (Wrd.mk (0 : Int) (ByteArray.mk
  (Array.mk [])))).time then Option.bind (idx (IntKind.wrap IntKind.i64 ((↑(List.length (List.map eCap out)) : Int) - (1 : Int)))) fun (z_12 : Nat) => bif decide (z_12 <
  List.length (Blk.mk false 32 6 (List.map eCap out)).rows) then Option.bind (unenc (List.map eCap) (List.map eCap out)) fun (z_13 : List Cap) => bif decide (z_12 <
  List.length z_13) then some (Ex.normal, St.mk [(40, (vI (IntKind.wrap IntKind.i64 ((↑k : Int) + (1 : Int))))), (39, (vI (↑(List.length l) : Int))), (38, AV.sl (List.map
  eWrd l)), (12, AV.sl (List.map eStr z_6 ++ [[(vS (List.getD z_8 z_7 (ByteArray.mk (Array.mk [])) ++ ByteArray.mk (Array.mk [(32 : UInt8)]) ++ (List.getD z k (Wrd.mk (0 :
  Int) (ByteArray.mk (Array.mk [])))).text))]])), (11, .own 11), (3, (vI h)), (2, (vI r)), (1, (vI w)), (0, AV.sl (List.map eWrd l))] [(11, Blk.mk false 32 6 (List.set
  (List.map eCap out) z_12 [(vI (List.getD z k (Wrd.mk (0 : Int) (ByteArray.mk (Array.mk [])))).time), (vI (IntKind.wrap IntKind.i64 ((List.getD z k (Wrd.mk (0 : Int)
  (ByteArray.mk (Array.mk [])))).time + h))), AV.sl (List.take (List.length (List.map eStr z_6 ++ [[(vS (List.getD z_8 z_7 (ByteArray.mk (Array.mk [])) ++ ByteArray.mk
  (Array.mk [(32 : UInt8)]) ++ (List.getD z k (Wrd.mk (0 : Int) (ByteArray.mk (Array.mk [])))).text))]]) - z_9) (List.drop ((0 : Nat) + z_9) (List.map eStr z_6 ++ [[(vS
  (List.getD z_8 z_7 (ByteArray.mk (Array.mk [])) ++ ByteArray.mk (Array.mk [(32 : UInt8)]) ++ (List.getD z k (Wrd.mk (0 : Int) (ByteArray.mk (Array.mk [])))).text))]]))),
  (vI (0 : Int)), (vB false), (vB false)]))]) else none else none else bif decide ((0 : Int) < (↑(List.length (List.map eCap out)) : Int)) then Option.bind (idx
  (IntKind.wrap IntKind.i64 ((↑(List.length (List.map eCap out)) : Int) - (1 : Int)))) fun (z_12 : Nat) => bif decide (z_12 < List.length (Blk.mk false 32 6 (List.map eCap
  out)).rows) then Option.bind (unenc (List.map eCap) (List.map eCap out)) fun (z_13 : List Cap) => bif decide (z_12 < List.length z_13) then Option.bind (idx (IntKind.wrap
  IntKind.i64 ((↑(List.length (List.map eCap out)) : Int) - (1 : Int)))) fun (z_14 : Nat) => bif decide (z_14 < List.length (Blk.mk false 32 6 (List.map eCap out)).rows)
  then Option.bind (unenc (List.map eCap) (List.map eCap out)) fun (z_15 : List Cap) => bif decide (z_14 < List.length z_15) then bif Nat.ble ((List.length (List.set
  (List.map eCap out) z_14 [(vI (List.getD z_15 z_14 (Cap.mk (0 : Int) (0 : Int) [] (0 : Int) false false)).fr), (vI (min (List.getD z_13 z_12 (Cap.mk (0 : Int) (0 : Int) []
  (0 : Int) false false)).to (List.getD z k (Wrd.mk (0 : Int) (ByteArray.mk (Array.mk [])))).time)), AV.sl (List.map eStr (List.getD z_15 z_14 (Cap.mk (0 : Int) (0 : Int) []
  (0 : Int) false false)).lines), (vI (List.getD z_15 z_14 (Cap.mk (0 : Int) (0 : Int) [] (0 : Int) false false)).row), (vB (List.getD z_15 z_14 (Cap.mk (0 : Int) (0 : Int)
  [] (0 : Int) false false)).bef), (vB (List.getD z_15 z_14 (Cap.mk (0 : Int) (0 : Int) [] (0 : Int) false false)).aft)]) + (1 : Nat)) * (56 : Nat)) (140737488355328 : Nat)
  && true then some (Ex.normal, St.mk [(40, (vI (IntKind.wrap IntKind.i64 ((↑k : Int) + (1 : Int))))), (39, (vI (↑(List.length l) : Int))), (38, AV.sl (List.map eWrd l)),
  (12, AV.sl (List.map eStr z_6 ++ [[(vS (List.getD z_8 z_7 (ByteArray.mk (Array.mk [])) ++ ByteArray.mk (Array.mk [(32 : UInt8)]) ++ (List.getD z k (Wrd.mk (0 : Int)
  (ByteArray.mk (Array.mk [])))).text))]])), (11, .own 11), (3, (vI h)), (2, (vI r)), (1, (vI w)), (0, AV.sl (List.map eWrd l))] [(11, Blk.mk false 32 6 (List.set (List.map
  eCap out) z_14 [(vI (List.getD z_15 z_14 (Cap.mk (0 : Int) (0 : Int) [] (0 : Int) false false)).fr), (vI (min (List.getD z_13 z_12 (Cap.mk (0 : Int) (0 : Int) [] (0 : Int)
  false false)).to (List.getD z k (Wrd.mk (0 : Int) (ByteArray.mk (Array.mk [])))).time)), AV.sl (List.map eStr (List.getD z_15 z_14 (Cap.mk (0 : Int) (0 : Int) [] (0 : Int)
  false false)).lines), (vI (List.getD z_15 z_14 (Cap.mk (0 : Int) (0 : Int) [] (0 : Int) false false)).row), (vB (List.getD z_15 z_14 (Cap.mk (0 : Int) (0 : Int) [] (0 :
  Int) false false)).bef), (vB (List.getD z_15 z_14 (Cap.mk (0 : Int) (0 : Int) [] (0 : Int) false false)).aft)] ++ [[(vI (List.getD z k (Wrd.mk (0 : Int) (ByteArray.mk
  (Array.mk [])))).time), (vI (IntKind.wrap IntKind.i64 ((List.getD z k (Wrd.mk (0 : Int) (ByteArray.mk (Array.mk [])))).time + h))), AV.sl (List.take (List.length (List.map
  eStr z_6 ++ [[(vS (List.getD z_8 z_7 (ByteArray.mk (Array.mk [])) ++ ByteArray.mk (Array.mk [(32 : UInt8)]) ++ (List.getD z k (Wrd.mk (0 : Int) (ByteArray.mk (Array.mk
  [])))).text))]]) - z_9) (List.drop ((0 : Nat) + z_9) (List.map eStr z_6 ++ [[(vS (List.getD z_8 z_7 (ByteArray.mk (Array.mk [])) ++ ByteArray.mk (Array.mk [(32 : UInt8)])
  ++ (List.getD z k (Wrd.mk (0 : Int) (ByteArray.mk (Array.mk [])))).text))]]))), (vI (0 : Int)), (vB false), (vB false)]]))]) else none else none else none else none else
  none else bif Nat.ble ((List.length (List.map eCap out) + (1 : Nat)) * (56 : Nat)) (140737488355328 : Nat) && true then some (Ex.normal, St.mk [(40, (vI (IntKind.wrap
  IntKind.i64 ((↑k : Int) + (1 : Int))))), (39, (vI (↑(List.length l) : Int))), (38, AV.sl (List.map eWrd l)), (12, AV.sl (List.map eStr z_6 ++ [[(vS (List.getD z_8 z_7
  (ByteArray.mk (Array.mk [])) ++ ByteArray.mk (Array.mk [(32 : UInt8)]) ++ (List.getD z k (Wrd.mk (0 : Int) (ByteArray.mk (Array.mk [])))).text))]])), (11, .own 11), (3,
  (vI h)), (2, (vI r)), (1, (vI w)), (0, AV.sl (List.map eWrd l))] [(11, Blk.mk false 32 6 (List.map eCap out ++ [[(vI (List.getD z k (Wrd.mk (0 : Int) (ByteArray.mk
  (Array.mk [])))).time), (vI (IntKind.wrap IntKind.i64 ((List.getD z k (Wrd.mk (0 : Int) (ByteArray.mk (Array.mk [])))).time + h))), AV.sl (List.take (List.length (List.map
  eStr z_6 ++ [[(vS (List.getD z_8 z_7 (ByteArray.mk (Array.mk [])) ++ ByteArray.mk (Array.mk [(32 : UInt8)]) ++ (List.getD z k (Wrd.mk (0 : Int) (ByteArray.mk (Array.mk
  [])))).text))]]) - z_9) (List.drop ((0 : Nat) + z_9) (List.map eStr z_6 ++ [[(vS (List.getD z_8 z_7 (ByteArray.mk (Array.mk [])) ++ ByteArray.mk (Array.mk [(32 : UInt8)])
  ++ (List.getD z k (Wrd.mk (0 : Int) (ByteArray.mk (Array.mk [])))).text))]]))), (vI (0 : Int)), (vB false), (vB false)]]))]) else none else none else none else bif decide
  ((0 : Int) < (↑(List.length (List.map eCap out)) : Int)) then Option.bind (idx (IntKind.wrap IntKind.i64 ((↑(List.length (List.map eCap out)) : Int) - (1 : Int)))) fun
  (z_10 : Nat) => bif decide (z_10 < List.length (Blk.mk false 32 6 (List.map eCap out)).rows) then Option.bind (unenc (List.map eCap) (List.map eCap out)) fun (z_11 : List
  Cap) => bif decide (z_10 < List.length z_11) then Option.bind (idx (IntKind.wrap IntKind.i64 ((↑(List.length (List.map eCap out)) : Int) - (1 : Int)))) fun (z_12 : Nat) =>
  bif decide (z_12 < List.length (Blk.mk false 32 6 (List.map eCap out)).rows) then Option.bind (unenc (List.map eCap) (List.map eCap out)) fun (z_13 : List Cap) => bif
  decide (z_12 < List.length z_13) then bif Nat.ble ((List.length (List.set (List.map eCap out) z_12 [(vI (List.getD z_13 z_12 (Cap.mk (0 : Int) (0 : Int) [] (0 : Int) false
  false)).fr), (vI (min (List.getD z_11 z_10 (Cap.mk (0 : Int) (0 : Int) [] (0 : Int) false false)).to (List.getD z k (Wrd.mk (0 : Int) (ByteArray.mk (Array.mk
  [])))).time)), AV.sl (List.map eStr (List.getD z_13 z_12 (Cap.mk (0 : Int) (0 : Int) [] (0 : Int) false false)).lines), (vI (List.getD z_13 z_12 (Cap.mk (0 : Int) (0 :
  Int) [] (0 : Int) false false)).row), (vB (List.getD z_13 z_12 (Cap.mk (0 : Int) (0 : Int) [] (0 : Int) false false)).bef), (vB (List.getD z_13 z_12 (Cap.mk (0 : Int) (0 :
  Int) [] (0 : Int) false false)).aft)]) + (1 : Nat)) * (56 : Nat)) (140737488355328 : Nat) && true then some (Ex.normal, St.mk [(40, (vI (IntKind.wrap IntKind.i64 ((↑k :
  Int) + (1 : Int))))), (39, (vI (↑(List.length l) : Int))), (38, AV.sl (List.map eWrd l)), (12, AV.sl (List.map eStr z_6 ++ [[(vS (List.getD z_8 z_7 (ByteArray.mk (Array.mk
  [])) ++ ByteArray.mk (Array.mk [(32 : UInt8)]) ++ (List.getD z k (Wrd.mk (0 : Int) (ByteArray.mk (Array.mk [])))).text))]])), (11, .own 11), (3, (vI h)), (2, (vI r)), (1,
  (vI w)), (0, AV.sl (List.map eWrd l))] [(11, Blk.mk false 32 6 (List.set (List.map eCap out) z_12 [(vI (List.getD z_13 z_12 (Cap.mk (0 : Int) (0 : Int) [] (0 : Int) false
  false)).fr), (vI (min (List.getD z_11 z_10 (Cap.mk (0 : Int) (0 : Int) [] (0 : Int) false false)).to (List.getD z k (Wrd.mk (0 : Int) (ByteArray.mk (Array.mk
  [])))).time)), AV.sl (List.map eStr (List.getD z_13 z_12 (Cap.mk (0 : Int) (0 : Int) [] (0 : Int) false false)).lines), (vI (List.getD z_13 z_12 (Cap.mk (0 : Int) (0 :
  Int) [] (0 : Int) false false)).row), (vB (List.getD z_13 z_12 (Cap.mk (0 : Int) (0 : Int) [] (0 : Int) false false)).bef), (vB (List.getD z_13 z_12 (Cap.mk (0 : Int) (0 :
  Int) [] (0 : Int) false false)).aft)] ++ [[(vI (List.getD z k (Wrd.mk (0 : Int) (ByteArray.mk (Array.mk [])))).time), (vI (IntKind.wrap IntKind.i64 ((List.getD z k (Wrd.mk
  (0 : Int) (ByteArray.mk (Array.mk [])))).time + h))), AV.sl (List.take (List.length (List.map eStr z_6 ++ [[(vS (List.getD z_8 z_7 (ByteArray.mk (Array.mk [])) ++
  ByteArray.mk (Array.mk [(32 : UInt8)]) ++ (List.getD z k (Wrd.mk (0 : Int) (ByteArray.mk (Array.mk [])))).text))]]) - z_9) (List.drop ((0 : Nat) + z_9) (List.map eStr z_6
  ++ [[(vS (List.getD z_8 z_7 (ByteArray.mk (Array.mk [])) ++ ByteArray.mk (Array.mk [(32 : UInt8)]) ++ (List.getD z k (Wrd.mk (0 : Int) (ByteArray.mk (Array.mk
  [])))).text))]]))), (vI (0 : Int)), (vB false), (vB false)]]))]) else none else none else none else none else none else bif Nat.ble ((List.length (List.map eCap out) + (1
  : Nat)) * (56 : Nat)) (140737488355328 : Nat) && true then some (Ex.normal, St.mk [(40, (vI (IntKind.wrap IntKind.i64 ((↑k : Int) + (1 : Int))))), (39, (vI (↑(List.length
  l) : Int))), (38, AV.sl (List.map eWrd l)), (12, AV.sl (List.map eStr z_6 ++ [[(vS (List.getD z_8 z_7 (ByteArray.mk (Array.mk [])) ++ ByteArray.mk (Array.mk [(32 :
  UInt8)]) ++ (List.getD z k (Wrd.mk (0 : Int) (ByteArray.mk (Array.mk [])))).text))]])), (11, .own 11), (3, (vI h)), (2, (vI r)), (1, (vI w)), (0, AV.sl (List.map eWrd l))]
  [(11, Blk.mk false 32 6 (List.map eCap out ++ [[(vI (List.getD z k (Wrd.mk (0 : Int) (ByteArray.mk (Array.mk [])))).time), (vI (IntKind.wrap IntKind.i64 ((List.getD z k
  (Wrd.mk (0 : Int) (ByteArray.mk (Array.mk [])))).time + h))), AV.sl (List.take (List.length (List.map eStr z_6 ++ [[(vS (List.getD z_8 z_7 (ByteArray.mk (Array.mk [])) ++
  ByteArray.mk (Array.mk [(32 : UInt8)]) ++ (List.getD z k (Wrd.mk (0 : Int) (ByteArray.mk (Array.mk [])))).text))]]) - z_9) (List.drop ((0 : Nat) + z_9) (List.map eStr z_6
  ++ [[(vS (List.getD z_8 z_7 (ByteArray.mk (Array.mk [])) ++ ByteArray.mk (Array.mk [(32 : UInt8)]) ++ (List.getD z k (Wrd.mk (0 : Int) (ByteArray.mk (Array.mk
  [])))).text))]]))), (vI (0 : Int)), (vB false), (vB false)]]))]) else none else none else none else none else none else none else none else none else Option.bind (unenc
  encClF [AV.sl (List.map eStr ls)]) fun (z_5 : List ByteArray) => bif decide (List.length z_5 ≤ (1000 : Nat)) then bif Nat.ble ((List.length (List.map eStr z_5) + (1 :
  Nat)) * (16 : Nat)) (140737488355328 : Nat) && true then Option.bind (idx (max (0 : Int) (IntKind.wrap IntKind.i64 ((↑(List.length (List.map eStr z_5 ++ [[(vS (List.getD z
  k (Wrd.mk (0 : Int) (ByteArray.mk (Array.mk [])))).text)]])) : Int) - r)))) fun (z_6 : Nat) => bif Nat.ble z_6 (List.length (List.map eStr z_5 ++ [[(vS (List.getD z k
  (Wrd.mk (0 : Int) (ByteArray.mk (Array.mk [])))).text)]])) && Nat.ble (List.length (List.map eStr z_5 ++ [[(vS (List.getD z k (Wrd.mk (0 : Int) (ByteArray.mk (Array.mk
  [])))).text)]])) (List.length (List.map eStr z_5 ++ [[(vS (List.getD z k (Wrd.mk (0 : Int) (ByteArray.mk (Array.mk [])))).text)]])) then bif decide ((0 : Int) <
  (↑(List.length (List.map eCap out)) : Int)) then Option.bind (idx (IntKind.wrap IntKind.i64 ((↑(List.length (List.map eCap out)) : Int) - (1 : Int)))) fun (z_7 : Nat) =>
  bif decide (z_7 < List.length (Blk.mk false 32 6 (List.map eCap out)).rows) then Option.bind (unenc (List.map eCap) (List.map eCap out)) fun (z_8 : List Cap) => bif decide
  (z_7 < List.length z_8) then bif (List.getD z_8 z_7 (Cap.mk (0 : Int) (0 : Int) [] (0 : Int) false false)).fr == (List.getD z k (Wrd.mk (0 : Int) (ByteArray.mk (Array.mk
  [])))).time then Option.bind (idx (IntKind.wrap IntKind.i64 ((↑(List.length (List.map eCap out)) : Int) - (1 : Int)))) fun (z_9 : Nat) => bif decide (z_9 < List.length
  (Blk.mk false 32 6 (List.map eCap out)).rows) then Option.bind (unenc (List.map eCap) (List.map eCap out)) fun (z_10 : List Cap) => bif decide (z_9 < List.length z_10)
  then some (Ex.normal, St.mk [(40, (vI (IntKind.wrap IntKind.i64 ((↑k : Int) + (1 : Int))))), (39, (vI (↑(List.length l) : Int))), (38, AV.sl (List.map eWrd l)), (12, AV.sl
  (List.map eStr z_5 ++ [[(vS (List.getD z k (Wrd.mk (0 : Int) (ByteArray.mk (Array.mk [])))).text)]])), (11, .own 11), (3, (vI h)), (2, (vI r)), (1, (vI w)), (0, AV.sl
  (List.map eWrd l))] [(11, Blk.mk false 32 6 (List.set (List.map eCap out) z_9 [(vI (List.getD z k (Wrd.mk (0 : Int) (ByteArray.mk (Array.mk [])))).time), (vI (IntKind.wrap
  IntKind.i64 ((List.getD z k (Wrd.mk (0 : Int) (ByteArray.mk (Array.mk [])))).time + h))), AV.sl (List.take (List.length (List.map eStr z_5 ++ [[(vS (List.getD z k (Wrd.mk
  (0 : Int) (ByteArray.mk (Array.mk [])))).text)]]) - z_6) (List.drop ((0 : Nat) + z_6) (List.map eStr z_5 ++ [[(vS (List.getD z k (Wrd.mk (0 : Int) (ByteArray.mk (Array.mk
  [])))).text)]]))), (vI (0 : Int)), (vB false), (vB false)]))]) else none else none else bif decide ((0 : Int) < (↑(List.length (List.map eCap out)) : Int)) then
  Option.bind (idx (IntKind.wrap IntKind.i64 ((↑(List.length (List.map eCap out)) : Int) - (1 : Int)))) fun (z_9 : Nat) => bif decide (z_9 < List.length (Blk.mk false 32 6
  (List.map eCap out)).rows) then Option.bind (unenc (List.map eCap) (List.map eCap out)) fun (z_10 : List Cap) => bif decide (z_9 < List.length z_10) then Option.bind (idx
  (IntKind.wrap IntKind.i64 ((↑(List.length (List.map eCap out)) : Int) - (1 : Int)))) fun (z_11 : Nat) => bif decide (z_11 < List.length (Blk.mk false 32 6 (List.map eCap
  out)).rows) then Option.bind (unenc (List.map eCap) (List.map eCap out)) fun (z_12 : List Cap) => bif decide (z_11 < List.length z_12) then bif Nat.ble ((List.length
  (List.set (List.map eCap out) z_11 [(vI (List.getD z_12 z_11 (Cap.mk (0 : Int) (0 : Int) [] (0 : Int) false false)).fr), (vI (min (List.getD z_10 z_9 (Cap.mk (0 : Int) (0
  : Int) [] (0 : Int) false false)).to (List.getD z k (Wrd.mk (0 : Int) (ByteArray.mk (Array.mk [])))).time)), AV.sl (List.map eStr (List.getD z_12 z_11 (Cap.mk (0 : Int) (0
  : Int) [] (0 : Int) false false)).lines), (vI (List.getD z_12 z_11 (Cap.mk (0 : Int) (0 : Int) [] (0 : Int) false false)).row), (vB (List.getD z_12 z_11 (Cap.mk (0 : Int)
  (0 : Int) [] (0 : Int) false false)).bef), (vB (List.getD z_12 z_11 (Cap.mk (0 : Int) (0 : Int) [] (0 : Int) false false)).aft)]) + (1 : Nat)) * (56 : Nat))
  (140737488355328 : Nat) && true then some (Ex.normal, St.mk [(40, (vI (IntKind.wrap IntKind.i64 ((↑k : Int) + (1 : Int))))), (39, (vI (↑(List.length l) : Int))), (38,
  AV.sl (List.map eWrd l)), (12, AV.sl (List.map eStr z_5 ++ [[(vS (List.getD z k (Wrd.mk (0 : Int) (ByteArray.mk (Array.mk [])))).text)]])), (11, .own 11), (3, (vI h)), (2,
  (vI r)), (1, (vI w)), (0, AV.sl (List.map eWrd l))] [(11, Blk.mk false 32 6 (List.set (List.map eCap out) z_11 [(vI (List.getD z_12 z_11 (Cap.mk (0 : Int) (0 : Int) [] (0
  : Int) false false)).fr), (vI (min (List.getD z_10 z_9 (Cap.mk (0 : Int) (0 : Int) [] (0 : Int) false false)).to (List.getD z k (Wrd.mk (0 : Int) (ByteArray.mk (Array.mk
  [])))).time)), AV.sl (List.map eStr (List.getD z_12 z_11 (Cap.mk (0 : Int) (0 : Int) [] (0 : Int) false false)).lines), (vI (List.getD z_12 z_11 (Cap.mk (0 : Int) (0 :
  Int) [] (0 : Int) false false)).row), (vB (List.getD z_12 z_11 (Cap.mk (0 : Int) (0 : Int) [] (0 : Int) false false)).bef), (vB (List.getD z_12 z_11 (Cap.mk (0 : Int) (0 :
  Int) [] (0 : Int) false false)).aft)] ++ [[(vI (List.getD z k (Wrd.mk (0 : Int) (ByteArray.mk (Array.mk [])))).time), (vI (IntKind.wrap IntKind.i64 ((List.getD z k (Wrd.mk
  (0 : Int) (ByteArray.mk (Array.mk [])))).time + h))), AV.sl (List.take (List.length (List.map eStr z_5 ++ [[(vS (List.getD z k (Wrd.mk (0 : Int) (ByteArray.mk (Array.mk
  [])))).text)]]) - z_6) (List.drop ((0 : Nat) + z_6) (List.map eStr z_5 ++ [[(vS (List.getD z k (Wrd.mk (0 : Int) (ByteArray.mk (Array.mk [])))).text)]]))), (vI (0 : Int)),
  (vB false), (vB false)]]))]) else none else none else none else none else none else bif Nat.ble ((List.length (List.map eCap out) + (1 : Nat)) * (56 : Nat))
  (140737488355328 : Nat) && true then some (Ex.normal, St.mk [(40, (vI (IntKind.wrap IntKind.i64 ((↑k : Int) + (1 : Int))))), (39, (vI (↑(List.length l) : Int))), (38,
  AV.sl (List.map eWrd l)), (12, AV.sl (List.map eStr z_5 ++ [[(vS (List.getD z k (Wrd.mk (0 : Int) (ByteArray.mk (Array.mk [])))).text)]])), (11, .own 11), (3, (vI h)), (2,
  (vI r)), (1, (vI w)), (0, AV.sl (List.map eWrd l))] [(11, Blk.mk false 32 6 (List.map eCap out ++ [[(vI (List.getD z k (Wrd.mk (0 : Int) (ByteArray.mk (Array.mk
  [])))).time), (vI (IntKind.wrap IntKind.i64 ((List.getD z k (Wrd.mk (0 : Int) (ByteArray.mk (Array.mk [])))).time + h))), AV.sl (List.take (List.length (List.map eStr z_5
  ++ [[(vS (List.getD z k (Wrd.mk (0 : Int) (ByteArray.mk (Array.mk [])))).text)]]) - z_6) (List.drop ((0 : Nat) + z_6) (List.map eStr z_5 ++ [[(vS (List.getD z k (Wrd.mk (0
  : Int) (ByteArray.mk (Array.mk [])))).text)]]))), (vI (0 : Int)), (vB false), (vB false)]]))]) else none else none else none else bif decide ((0 : Int) < (↑(List.length
  (List.map eCap out)) : Int)) then Option.bind (idx (IntKind.wrap IntKind.i64 ((↑(List.length (List.map eCap out)) : Int) - (1 : Int)))) fun (z_7 : Nat) => bif decide (z_7
  < List.length (Blk.mk false 32 6 (List.map eCap out)).rows) then Option.bind (unenc (List.map eCap) (List.map eCap out)) fun (z_8 : List Cap) => bif decide (z_7 <
  List.length z_8) then Option.bind (idx (IntKind.wrap IntKind.i64 ((↑(List.length (List.map eCap out)) : Int) - (1 : Int)))) fun (z_9 : Nat) => bif decide (z_9 <
  List.length (Blk.mk false 32 6 (List.map eCap out)).rows) then Option.bind (unenc (List.map eCap) (List.map eCap out)) fun (z_10 : List Cap) => bif decide (z_9 <
  List.length z_10) then bif Nat.ble ((List.length (List.set (List.map eCap out) z_9 [(vI (List.getD z_10 z_9 (Cap.mk (0 : Int) (0 : Int) [] (0 : Int) false false)).fr), (vI
  (min (List.getD z_8 z_7 (Cap.mk (0 : Int) (0 : Int) [] (0 : Int) false false)).to (List.getD z k (Wrd.mk (0 : Int) (ByteArray.mk (Array.mk [])))).time)), AV.sl (List.map
  eStr (List.getD z_10 z_9 (Cap.mk (0 : Int) (0 : Int) [] (0 : Int) false false)).lines), (vI (List.getD z_10 z_9 (Cap.mk (0 : Int) (0 : Int) [] (0 : Int) false
  false)).row), (vB (List.getD z_10 z_9 (Cap.mk (0 : Int) (0 : Int) [] (0 : Int) false false)).bef), (vB (List.getD z_10 z_9 (Cap.mk (0 : Int) (0 : Int) [] (0 : Int) false
  false)).aft)]) + (1 : Nat)) * (56 : Nat)) (140737488355328 : Nat) && true then some (Ex.normal, St.mk [(40, (vI (IntKind.wrap IntKind.i64 ((↑k : Int) + (1 : Int))))), (39,
  (vI (↑(List.length l) : Int))), (38, AV.sl (List.map eWrd l)), (12, AV.sl (List.map eStr z_5 ++ [[(vS (List.getD z k (Wrd.mk (0 : Int) (ByteArray.mk (Array.mk
  [])))).text)]])), (11, .own 11), (3, (vI h)), (2, (vI r)), (1, (vI w)), (0, AV.sl (List.map eWrd l))] [(11, Blk.mk false 32 6 (List.set (List.map eCap out) z_9 [(vI
  (List.getD z_10 z_9 (Cap.mk (0 : Int) (0 : Int) [] (0 : Int) false false)).fr), (vI (min (List.getD z_8 z_7 (Cap.mk (0 : Int) (0 : Int) [] (0 : Int) false false)).to
  (List.getD z k (Wrd.mk (0 : Int) (ByteArray.mk (Array.mk [])))).time)), AV.sl (List.map eStr (List.getD z_10 z_9 (Cap.mk (0 : Int) (0 : Int) [] (0 : Int) false
  false)).lines), (vI (List.getD z_10 z_9 (Cap.mk (0 : Int) (0 : Int) [] (0 : Int) false false)).row), (vB (List.getD z_10 z_9 (Cap.mk (0 : Int) (0 : Int) [] (0 : Int) false
  false)).bef), (vB (List.getD z_10 z_9 (Cap.mk (0 : Int) (0 : Int) [] (0 : Int) false false)).aft)] ++ [[(vI (List.getD z k (Wrd.mk (0 : Int) (ByteArray.mk (Array.mk
  [])))).time), (vI (IntKind.wrap IntKind.i64 ((List.getD z k (Wrd.mk (0 : Int) (ByteArray.mk (Array.mk [])))).time + h))), AV.sl (List.take (List.length (List.map eStr z_5
  ++ [[(vS (List.getD z k (Wrd.mk (0 : Int) (ByteArray.mk (Array.mk [])))).text)]]) - z_6) (List.drop ((0 : Nat) + z_6) (List.map eStr z_5 ++ [[(vS (List.getD z k (Wrd.mk (0
  : Int) (ByteArray.mk (Array.mk [])))).text)]]))), (vI (0 : Int)), (vB false), (vB false)]]))]) else none else none else none else none else none else bif Nat.ble
  ((List.length (List.map eCap out) + (1 : Nat)) * (56 : Nat)) (140737488355328 : Nat) && true then some (Ex.normal, St.mk [(40, (vI (IntKind.wrap IntKind.i64 ((↑k : Int) +
  (1 : Int))))), (39, (vI (↑(List.length l) : Int))), (38, AV.sl (List.map eWrd l)), (12, AV.sl (List.map eStr z_5 ++ [[(vS (List.getD z k (Wrd.mk (0 : Int) (ByteArray.mk
  (Array.mk [])))).text)]])), (11, .own 11), (3, (vI h)), (2, (vI r)), (1, (vI w)), (0, AV.sl (List.map eWrd l))] [(11, Blk.mk false 32 6 (List.map eCap out ++ [[(vI
  (List.getD z k (Wrd.mk (0 : Int) (ByteArray.mk (Array.mk [])))).time), (vI (IntKind.wrap IntKind.i64 ((List.getD z k (Wrd.mk (0 : Int) (ByteArray.mk (Array.mk [])))).time
  + h))), AV.sl (List.take (List.length (List.map eStr z_5 ++ [[(vS (List.getD z k (Wrd.mk (0 : Int) (ByteArray.mk (Array.mk [])))).text)]]) - z_6) (List.drop ((0 : Nat) +
  z_6) (List.map eStr z_5 ++ [[(vS (List.getD z k (Wrd.mk (0 : Int) (ByteArray.mk (Array.mk [])))).text)]]))), (vI (0 : Int)), (vB false), (vB false)]]))]) else none else
  none else none else none else none else none else none else Option.bind (unenc encClF [AV.sl (List.map eStr ls)]) fun (z_1 : List ByteArray) => bif decide (List.length z_1
  ≤ (1000 : Nat)) then bif Nat.ble ((List.length (List.map eStr z_1) + (1 : Nat)) * (16 : Nat)) (140737488355328 : Nat) && true then Option.bind (idx (max (0 : Int)
  (IntKind.wrap IntKind.i64 ((↑(List.length (List.map eStr z_1 ++ [[(vS (List.getD z k (Wrd.mk (0 : Int) (ByteArray.mk (Array.mk [])))).text)]])) : Int) - r)))) fun (z_2 :
  Nat) => bif Nat.ble z_2 (List.length (List.map eStr z_1 ++ [[(vS (List.getD z k (Wrd.mk (0 : Int) (ByteArray.mk (Array.mk [])))).text)]])) && Nat.ble (List.length
  (List.map eStr z_1 ++ [[(vS (List.getD z k (Wrd.mk (0 : Int) (ByteArray.mk (Array.mk [])))).text)]])) (List.length (List.map eStr z_1 ++ [[(vS (List.getD z k (Wrd.mk (0 :
  Int) (ByteArray.mk (Array.mk [])))).text)]])) then bif decide ((0 : Int) < (↑(List.length (List.map eCap out)) : Int)) then Option.bind (idx (IntKind.wrap IntKind.i64
  ((↑(List.length (List.map eCap out)) : Int) - (1 : Int)))) fun (z_3 : Nat) => bif decide (z_3 < List.length (Blk.mk false 32 6 (List.map eCap out)).rows) then Option.bind
  (unenc (List.map eCap) (List.map eCap out)) fun (z_4 : List Cap) => bif decide (z_3 < List.length z_4) then bif (List.getD z_4 z_3 (Cap.mk (0 : Int) (0 : Int) [] (0 : Int)
  false false)).fr == (List.getD z k (Wrd.mk (0 : Int) (ByteArray.mk (Array.mk [])))).time then Option.bind (idx (IntKind.wrap IntKind.i64 ((↑(List.length (List.map eCap
  out)) : Int) - (1 : Int)))) fun (z_5 : Nat) => bif decide (z_5 < List.length (Blk.mk false 32 6 (List.map eCap out)).rows) then Option.bind (unenc (List.map eCap)
  (List.map eCap out)) fun (z_6 : List Cap) => bif decide (z_5 < List.length z_6) then some (Ex.normal, St.mk [(40, (vI (IntKind.wrap IntKind.i64 ((↑k : Int) + (1 :
  Int))))), (39, (vI (↑(List.length l) : Int))), (38, AV.sl (List.map eWrd l)), (12, AV.sl (List.map eStr z_1 ++ [[(vS (List.getD z k (Wrd.mk (0 : Int) (ByteArray.mk
  (Array.mk [])))).text)]])), (11, .own 11), (3, (vI h)), (2, (vI r)), (1, (vI w)), (0, AV.sl (List.map eWrd l))] [(11, Blk.mk false 32 6 (List.set (List.map eCap out) z_5
  [(vI (List.getD z k (Wrd.mk (0 : Int) (ByteArray.mk (Array.mk [])))).time), (vI (IntKind.wrap IntKind.i64 ((List.getD z k (Wrd.mk (0 : Int) (ByteArray.mk (Array.mk
  [])))).time + h))), AV.sl (List.take (List.length (List.map eStr z_1 ++ [[(vS (List.getD z k (Wrd.mk (0 : Int) (ByteArray.mk (Array.mk [])))).text)]]) - z_2) (List.drop
  ((0 : Nat) + z_2) (List.map eStr z_1 ++ [[(vS (List.getD z k (Wrd.mk (0 : Int) (ByteArray.mk (Array.mk [])))).text)]]))), (vI (0 : Int)), (vB false), (vB false)]))]) else
  none else none else bif decide ((0 : Int) < (↑(List.length (List.map eCap out)) : Int)) then Option.bind (idx (IntKind.wrap IntKind.i64 ((↑(List.length (List.map eCap
  out)) : Int) - (1 : Int)))) fun (z_5 : Nat) => bif decide (z_5 < List.length (Blk.mk false 32 6 (List.map eCap out)).rows) then Option.bind (unenc (List.map eCap)
  (List.map eCap out)) fun (z_6 : List Cap) => bif decide (z_5 < List.length z_6) then Option.bind (idx (IntKind.wrap IntKind.i64 ((↑(List.length (List.map eCap out)) : Int)
  - (1 : Int)))) fun (z_7 : Nat) => bif decide (z_7 < List.length (Blk.mk false 32 6 (List.map eCap out)).rows) then Option.bind (unenc (List.map eCap) (List.map eCap out))
  fun (z_8 : List Cap) => bif decide (z_7 < List.length z_8) then bif Nat.ble ((List.length (List.set (List.map eCap out) z_7 [(vI (List.getD z_8 z_7 (Cap.mk (0 : Int) (0 :
  Int) [] (0 : Int) false false)).fr), (vI (min (List.getD z_6 z_5 (Cap.mk (0 : Int) (0 : Int) [] (0 : Int) false false)).to (List.getD z k (Wrd.mk (0 : Int) (ByteArray.mk
  (Array.mk [])))).time)), AV.sl (List.map eStr (List.getD z_8 z_7 (Cap.mk (0 : Int) (0 : Int) [] (0 : Int) false false)).lines), (vI (List.getD z_8 z_7 (Cap.mk (0 : Int) (0
  : Int) [] (0 : Int) false false)).row), (vB (List.getD z_8 z_7 (Cap.mk (0 : Int) (0 : Int) [] (0 : Int) false false)).bef), (vB (List.getD z_8 z_7 (Cap.mk (0 : Int) (0 :
  Int) [] (0 : Int) false false)).aft)]) + (1 : Nat)) * (56 : Nat)) (140737488355328 : Nat) && true then some (Ex.normal, St.mk [(40, (vI (IntKind.wrap IntKind.i64 ((↑k :
  Int) + (1 : Int))))), (39, (vI (↑(List.length l) : Int))), (38, AV.sl (List.map eWrd l)), (12, AV.sl (List.map eStr z_1 ++ [[(vS (List.getD z k (Wrd.mk (0 : Int)
  (ByteArray.mk (Array.mk [])))).text)]])), (11, .own 11), (3, (vI h)), (2, (vI r)), (1, (vI w)), (0, AV.sl (List.map eWrd l))] [(11, Blk.mk false 32 6 (List.set (List.map
  eCap out) z_7 [(vI (List.getD z_8 z_7 (Cap.mk (0 : Int) (0 : Int) [] (0 : Int) false false)).fr), (vI (min (List.getD z_6 z_5 (Cap.mk (0 : Int) (0 : Int) [] (0 : Int)
  false false)).to (List.getD z k (Wrd.mk (0 : Int) (ByteArray.mk (Array.mk [])))).time)), AV.sl (List.map eStr (List.getD z_8 z_7 (Cap.mk (0 : Int) (0 : Int) [] (0 : Int)
  false false)).lines), (vI (List.getD z_8 z_7 (Cap.mk (0 : Int) (0 : Int) [] (0 : Int) false false)).row), (vB (List.getD z_8 z_7 (Cap.mk (0 : Int) (0 : Int) [] (0 : Int)
  false false)).bef), (vB (List.getD z_8 z_7 (Cap.mk (0 : Int) (0 : Int) [] (0 : Int) false false)).aft)] ++ [[(vI (List.getD z k (Wrd.mk (0 : Int) (ByteArray.mk (Array.mk
  [])))).time), (vI (IntKind.wrap IntKind.i64 ((List.getD z k (Wrd.mk (0 : Int) (ByteArray.mk (Array.mk [])))).time + h))), AV.sl (List.take (List.length (List.map eStr z_1
  ++ [[(vS (List.getD z k (Wrd.mk (0 : Int) (ByteArray.mk (Array.mk [])))).text)]]) - z_2) (List.drop ((0 : Nat) + z_2) (List.map eStr z_1 ++ [[(vS (List.getD z k (Wrd.mk (0
  : Int) (ByteArray.mk (Array.mk [])))).text)]]))), (vI (0 : Int)), (vB false), (vB false)]]))]) else none else none else none else none else none else bif Nat.ble
  ((List.length (List.map eCap out) + (1 : Nat)) * (56 : Nat)) (140737488355328 : Nat) && true then some (Ex.normal, St.mk [(40, (vI (IntKind.wrap IntKind.i64 ((↑k : Int) +
  (1 : Int))))), (39, (vI (↑(List.length l) : Int))), (38, AV.sl (List.map eWrd l)), (12, AV.sl (List.map eStr z_1 ++ [[(vS (List.getD z k (Wrd.mk (0 : Int) (ByteArray.mk
  (Array.mk [])))).text)]])), (11, .own 11), (3, (vI h)), (2, (vI r)), (1, (vI w)), (0, AV.sl (List.map eWrd l))] [(11, Blk.mk false 32 6 (List.map eCap out ++ [[(vI
  (List.getD z k (Wrd.mk (0 : Int) (ByteArray.mk (Array.mk [])))).time), (vI (IntKind.wrap IntKind.i64 ((List.getD z k (Wrd.mk (0 : Int) (ByteArray.mk (Array.mk [])))).time
  + h))), AV.sl (List.take (List.length (List.map eStr z_1 ++ [[(vS (List.getD z k (Wrd.mk (0 : Int) (ByteArray.mk (Array.mk [])))).text)]]) - z_2) (List.drop ((0 : Nat) +
  z_2) (List.map eStr z_1 ++ [[(vS (List.getD z k (Wrd.mk (0 : Int) (ByteArray.mk (Array.mk [])))).text)]]))), (vI (0 : Int)), (vB false), (vB false)]]))]) else none else
  none else none else bif decide ((0 : Int) < (↑(List.length (List.map eCap out)) : Int)) then Option.bind (idx (IntKind.wrap IntKind.i64 ((↑(List.length (List.map eCap
  out)) : Int) - (1 : Int)))) fun (z_3 : Nat) => bif decide (z_3 < List.length (Blk.mk false 32 6 (List.map eCap out)).rows) then Option.bind (unenc (List.map eCap)
  (List.map eCap out)) fun (z_4 : List Cap) => bif decide (z_3 < List.length z_4) then Option.bind (idx (IntKind.wrap IntKind.i64 ((↑(List.length (List.map eCap out)) : Int)
  - (1 : Int)))) fun (z_5 : Nat) => bif decide (z_5 < List.length (Blk.mk false 32 6 (List.map eCap out)).rows) then Option.bind (unenc (List.map eCap) (List.map eCap out))
  fun (z_6 : List Cap) => bif decide (z_5 < List.length z_6) then bif Nat.ble ((List.length (List.set (List.map eCap out) z_5 [(vI (List.getD z_6 z_5 (Cap.mk (0 : Int) (0 :
  Int) [] (0 : Int) false false)).fr), (vI (min (List.getD z_4 z_3 (Cap.mk (0 : Int) (0 : Int) [] (0 : Int) false false)).to (List.getD z k (Wrd.mk (0 : Int) (ByteArray.mk
  (Array.mk [])))).time)), AV.sl (List.map eStr (List.getD z_6 z_5 (Cap.mk (0 : Int) (0 : Int) [] (0 : Int) false false)).lines), (vI (List.getD z_6 z_5 (Cap.mk (0 : Int) (0
  : Int) [] (0 : Int) false false)).row), (vB (List.getD z_6 z_5 (Cap.mk (0 : Int) (0 : Int) [] (0 : Int) false false)).bef), (vB (List.getD z_6 z_5 (Cap.mk (0 : Int) (0 :
  Int) [] (0 : Int) false false)).aft)]) + (1 : Nat)) * (56 : Nat)) (140737488355328 : Nat) && true then some (Ex.normal, St.mk [(40, (vI (IntKind.wrap IntKind.i64 ((↑k :
  Int) + (1 : Int))))), (39, (vI (↑(List.length l) : Int))), (38, AV.sl (List.map eWrd l)), (12, AV.sl (List.map eStr z_1 ++ [[(vS (List.getD z k (Wrd.mk (0 : Int)
  (ByteArray.mk (Array.mk [])))).text)]])), (11, .own 11), (3, (vI h)), (2, (vI r)), (1, (vI w)), (0, AV.sl (List.map eWrd l))] [(11, Blk.mk false 32 6 (List.set (List.map
  eCap out) z_5 [(vI (List.getD z_6 z_5 (Cap.mk (0 : Int) (0 : Int) [] (0 : Int) false false)).fr), (vI (min (List.getD z_4 z_3 (Cap.mk (0 : Int) (0 : Int) [] (0 : Int)
  false false)).to (List.getD z k (Wrd.mk (0 : Int) (ByteArray.mk (Array.mk [])))).time)), AV.sl (List.map eStr (List.getD z_6 z_5 (Cap.mk (0 : Int) (0 : Int) [] (0 : Int)
  false false)).lines), (vI (List.getD z_6 z_5 (Cap.mk (0 : Int) (0 : Int) [] (0 : Int) false false)).row), (vB (List.getD z_6 z_5 (Cap.mk (0 : Int) (0 : Int) [] (0 : Int)
  false false)).bef), (vB (List.getD z_6 z_5 (Cap.mk (0 : Int) (0 : Int) [] (0 : Int) false false)).aft)] ++ [[(vI (List.getD z k (Wrd.mk (0 : Int) (ByteArray.mk (Array.mk
  [])))).time), (vI (IntKind.wrap IntKind.i64 ((List.getD z k (Wrd.mk (0 : Int) (ByteArray.mk (Array.mk [])))).time + h))), AV.sl (List.take (List.length (List.map eStr z_1
  ++ [[(vS (List.getD z k (Wrd.mk (0 : Int) (ByteArray.mk (Array.mk [])))).text)]]) - z_2) (List.drop ((0 : Nat) + z_2) (List.map eStr z_1 ++ [[(vS (List.getD z k (Wrd.mk (0
  : Int) (ByteArray.mk (Array.mk [])))).text)]]))), (vI (0 : Int)), (vB false), (vB false)]]))]) else none else none else none else none else none else bif Nat.ble
  ((List.length (List.map eCap out) + (1 : Nat)) * (56 : Nat)) (140737488355328 : Nat) && true then some (Ex.normal, St.mk [(40, (vI (IntKind.wrap IntKind.i64 ((↑k : Int) +
  (1 : Int))))), (39, (vI (↑(List.length l) : Int))), (38, AV.sl (List.map eWrd l)), (12, AV.sl (List.map eStr z_1 ++ [[(vS (List.getD z k (Wrd.mk (0 : Int) (ByteArray.mk
  (Array.mk [])))).text)]])), (11, .own 11), (3, (vI h)), (2, (vI r)), (1, (vI w)), (0, AV.sl (List.map eWrd l))] [(11, Blk.mk false 32 6 (List.map eCap out ++ [[(vI
  (List.getD z k (Wrd.mk (0 : Int) (ByteArray.mk (Array.mk [])))).time), (vI (IntKind.wrap IntKind.i64 ((List.getD z k (Wrd.mk (0 : Int) (ByteArray.mk (Array.mk [])))).time
  + h))), AV.sl (List.take (List.length (List.map eStr z_1 ++ [[(vS (List.getD z k (Wrd.mk (0 : Int) (ByteArray.mk (Array.mk [])))).text)]]) - z_2) (List.drop ((0 : Nat) +
  z_2) (List.map eStr z_1 ++ [[(vS (List.getD z k (Wrd.mk (0 : Int) (ByteArray.mk (Array.mk [])))).text)]]))), (vI (0 : Int)), (vB false), (vB false)]]))]) else none else
  none else none else none else none else some (Ex.exit (0 : Nat), St.mk [(11, .own 11)] [(11, Blk.mk false 32 6 (List.map eCap out))]) := (execR_bind _ _ _).symm.trans (by kernel_rfl)

end M
end Go.Proofs.YtdmccifaggmmkaaDoor
