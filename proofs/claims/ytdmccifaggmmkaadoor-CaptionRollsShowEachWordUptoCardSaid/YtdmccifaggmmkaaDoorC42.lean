/- What is proved here: Roll of the program: its loop (no statement of the seat). -/
import Derived.Test.YtdmccifaggmmkaaDoorC41
namespace Go.Proofs.YtdmccifaggmmkaaDoor
open Go Go.RowKit
set_option linter.unusedVariables false
set_option linter.unusedSimpArgs false

namespace M

def stRl (l : List Wrd) (w : Int) (r : Int) (h : Int) (ls : List ByteArray) (out : List Cap) (k : Nat) : St := ⟨[(35, vI k), (34, vI l.length), (33, .sl (l.map eWrd)), (12, .own 12), (11, .own 11), (3, vI h), (2, vI r), (1, vI w), (0, .sl (l.map eWrd))], [(12, ⟨false, 9, 1, ls.map eStr⟩), (11, ⟨false, 32, 6, out.map eCap⟩)]⟩

def stRl1 (a : (List Wrd) × Int × Int × Int × (List ByteArray) × (List Cap) × Nat) : St := stRl a.1 a.2.1 a.2.2.1 a.2.2.2.1 a.2.2.2.2.1 a.2.2.2.2.2.1 a.2.2.2.2.2.2

theorem stRl_inj (a a' : (List Wrd) × Int × Int × Int × (List ByteArray) × (List Cap) × Nat) (h : stRl1 a = stRl1 a') : a = a' := by
  simp only [stRl1, stRl] at h
  try simp [strs_inj, ints_inj, bools_inj, eCaps_inj, eCap_iff, eL_eCaps_inj, eMchs_inj, eMch_iff, eWrds_inj, eWrd_iff, eFnds_inj, eFnd_iff, eRatios_inj, eRatio_iff, eWays_inj, eWay_iff] at h
  grind

theorem unstRl (l : List Wrd) (w : Int) (r : Int) (h : Int) (ls : List ByteArray) (out : List Cap) (k : Nat) : unenc stRl1 (St.mk [(35, (vI (↑k : Int))), (34, (vI (↑(List.length l) : Int))), (33, AV.sl (List.map eWrd l)), (12, .own 12), (11, .own 11), (3, (vI h)), (2, (vI r)), (1, (vI w)), (0,
  AV.sl (List.map eWrd l))] [(12, Blk.mk false 9 1 (List.map eStr ls)), (11, Blk.mk false 32 6 (List.map eCap out))]) = some (l, w, r, h, ls, out, k) := unenc_of stRl_inj (l, w, r, h, ls, out, k) rfl

theorem unstRl0 (l : List Wrd) (w : Int) (r : Int) (h : Int)  : unenc stRl1 (St.mk [(35, (vI (0 : Int))), (34, (vI (↑(List.length l) : Int))), (33, AV.sl (List.map eWrd l)), (12, .own 12), (11, .own 11), (3, (vI h)), (2, (vI r)), (1, (vI w)), (0,
  AV.sl (List.map eWrd l))] [(12, Blk.mk false 9 1 []), (11, Blk.mk false 32 6 [])]) = some (l, w, r, h, [], [], 0) := unenc_of stRl_inj (l, w, r, h, [], [], 0) rfl

def outRl (l : List Wrd) (w : Int) (r : Int) (h : Int) (ls : List ByteArray) (out : List Cap) (k : Nat) : T (Ex × St) := .ret (.exit 0, ⟨[(11, .own 11)], [(11, ⟨false, 32, 6, (out ++ F.rollP w r h (F.prev l k) ls (l.drop k)).map eCap⟩)]⟩)

noncomputable def prlRl (l : List Wrd) (w : Int) (r : Int) (h : Int) (ls : List ByteArray) (out : List Cap) (k : Nat) : Bool := decide (l.length ≤ 500) && F.wrdsOK l && !F.rollB w r h && decide (k ≤ l.length) && decide (out.length ≤ k) && F.lnsBb k ls

noncomputable def lpRl : Nat × (St → T (Ex × St)) := (9, lpo [35, 34, 33, 12, 11, 3, 2, 1, 0] [12, 11] stRl1 (fun a => prlRl a.1 a.2.1 a.2.2.1 a.2.2.2.1 a.2.2.2.2.1 a.2.2.2.2.2.1 a.2.2.2.2.2.2) fun a => outRl a.1 a.2.1 a.2.2.1 a.2.2.2.1 a.2.2.2.2.1 a.2.2.2.2.2.1 a.2.2.2.2.2.2)

noncomputable def enRl : Env := envH ty noG lks [oOut, oWdF, oRun, oClF, oCkd] [] [12, 116] [lpRl]

theorem enRl_ok : EnvOK Tryd.prog enRl := by
  refine envH_ok lks_ok ty_ok ?_ ?_
  · simp only [List.forall_mem_cons]
    exact ⟨okOut, okWdF, okRun, okClF, okCkd, by simp⟩
  · simp

theorem evRlL (l : List Wrd) (w r h : Int) (ls : List ByteArray) (out : List Cap) (k : Nat) : ((exec enRl (loopN Tryd.f7 0) (stRl l w r h ls out k)).bind (lessX ([35, 34, 33, 12, 11, 3, 2, 1, 0], [12, 11]) ([11], [11]) ([], []))).val =
  bif decide ((↑k : Int) < (↑(List.length l) : Int)) then Option.bind (unenc (List.map eWrd) (List.map eWrd l)) fun (z : List Wrd) => bif decide (k < List.length z) then bif
  decide ((0 : Int) < (↑k : Int)) then Option.bind (idx (IntKind.wrap IntKind.i64 ((↑k : Int) - (1 : Int)))) fun (z_1 : Nat) => Option.bind (unenc (List.map eWrd) (List.map
  eWrd l)) fun (z_2 : List Wrd) => bif decide (z_1 < List.length z_2) then bif decide (h < IntKind.wrap IntKind.i64 ((List.getD z k (Wrd.mk (0 : Int) (ByteArray.mk (Array.mk
  [])))).time - (List.getD z_2 z_1 (Wrd.mk (0 : Int) (ByteArray.mk (Array.mk [])))).time)) then bif decide (IntKind.wrap IntKind.i64 ((↑k : Int) + (1 : Int)) <
  (↑(List.length (List.map eWrd l)) : Int)) then Option.bind (idx (IntKind.wrap IntKind.i64 ((↑k : Int) + (1 : Int)))) fun (z_3 : Nat) => Option.bind (unenc (List.map eWrd)
  (List.map eWrd l)) fun (z_4 : List Wrd) => bif decide (z_3 < List.length z_4) then bif (List.getD z_4 z_3 (Wrd.mk (0 : Int) (ByteArray.mk (Array.mk [])))).time ==
  (List.getD z k (Wrd.mk (0 : Int) (ByteArray.mk (Array.mk [])))).time then some (Ex.normal, St.mk [(35, (vI (IntKind.wrap IntKind.i64 ((↑k : Int) + (1 : Int))))), (34, (vI
  (↑(List.length l) : Int))), (33, AV.sl (List.map eWrd l)), (12, .own 12), (11, .own 11), (3, (vI h)), (2, (vI r)), (1, (vI w)), (0, AV.sl (List.map eWrd l))] [(12, Blk.mk
  false 9 1 [[(vS (List.getD z k (Wrd.mk (0 : Int) (ByteArray.mk (Array.mk [])))).text)]]), (11, Blk.mk false 32 6 (List.map eCap out))]) else Option.bind (idx (max (0 :
  Int) (IntKind.wrap IntKind.i64 ((↑(1 : Nat) : Int) - r)))) fun (z_5 : Nat) => bif Nat.ble z_5 (1 : Nat) && true then Option.bind (unenc encClF [AV.sl (List.take ((1 : Nat)
  - z_5) (List.drop ((0 : Nat) + z_5) [[(vS (List.getD z k (Wrd.mk (0 : Int) (ByteArray.mk (Array.mk [])))).text)]]))]) fun (z_6 : List ByteArray) => bif decide (List.length
  z_6 ≤ (1000 : Nat)) then bif decide (IntKind.wrap IntKind.i64 ((↑k : Int) + (1 : Int)) < (↑(List.length (List.map eWrd l)) : Int)) then Option.bind (idx (IntKind.wrap
  IntKind.i64 ((↑k : Int) + (1 : Int)))) fun (z_7 : Nat) => Option.bind (unenc (List.map eWrd) (List.map eWrd l)) fun (z_8 : List Wrd) => bif decide (z_7 < List.length z_8)
  then bif Nat.ble ((List.length (List.map eCap out) + (1 : Nat)) * (56 : Nat)) (140737488355328 : Nat) && true then some (Ex.normal, St.mk [(35, (vI (IntKind.wrap
  IntKind.i64 ((↑k : Int) + (1 : Int))))), (34, (vI (↑(List.length l) : Int))), (33, AV.sl (List.map eWrd l)), (12, .own 12), (11, .own 11), (3, (vI h)), (2, (vI r)), (1,
  (vI w)), (0, AV.sl (List.map eWrd l))] [(12, Blk.mk false 9 1 [[(vS (List.getD z k (Wrd.mk (0 : Int) (ByteArray.mk (Array.mk [])))).text)]]), (11, Blk.mk false 32 6
  (List.map eCap out ++ [[(vI (List.getD z k (Wrd.mk (0 : Int) (ByteArray.mk (Array.mk [])))).time), (vI (min (IntKind.wrap IntKind.i64 ((List.getD z k (Wrd.mk (0 : Int)
  (ByteArray.mk (Array.mk [])))).time + h)) (List.getD z_8 z_7 (Wrd.mk (0 : Int) (ByteArray.mk (Array.mk [])))).time)), AV.sl (List.map eStr z_6), (vI (0 : Int)), (vB
  false), (vB false)]]))]) else none else none else bif Nat.ble ((List.length (List.map eCap out) + (1 : Nat)) * (56 : Nat)) (140737488355328 : Nat) && true then some
  (Ex.normal, St.mk [(35, (vI (IntKind.wrap IntKind.i64 ((↑k : Int) + (1 : Int))))), (34, (vI (↑(List.length l) : Int))), (33, AV.sl (List.map eWrd l)), (12, .own 12), (11,
  .own 11), (3, (vI h)), (2, (vI r)), (1, (vI w)), (0, AV.sl (List.map eWrd l))] [(12, Blk.mk false 9 1 [[(vS (List.getD z k (Wrd.mk (0 : Int) (ByteArray.mk (Array.mk
  [])))).text)]]), (11, Blk.mk false 32 6 (List.map eCap out ++ [[(vI (List.getD z k (Wrd.mk (0 : Int) (ByteArray.mk (Array.mk [])))).time), (vI (IntKind.wrap IntKind.i64
  ((List.getD z k (Wrd.mk (0 : Int) (ByteArray.mk (Array.mk [])))).time + h))), AV.sl (List.map eStr z_6), (vI (0 : Int)), (vB false), (vB false)]]))]) else none else none
  else none else none else Option.bind (idx (max (0 : Int) (IntKind.wrap IntKind.i64 ((↑(1 : Nat) : Int) - r)))) fun (z_3 : Nat) => bif Nat.ble z_3 (1 : Nat) && true then
  Option.bind (unenc encClF [AV.sl (List.take ((1 : Nat) - z_3) (List.drop ((0 : Nat) + z_3) [[(vS (List.getD z k (Wrd.mk (0 : Int) (ByteArray.mk (Array.mk
  [])))).text)]]))]) fun (z_4 : List ByteArray) => bif decide (List.length z_4 ≤ (1000 : Nat)) then bif decide (IntKind.wrap IntKind.i64 ((↑k : Int) + (1 : Int)) <
  (↑(List.length (List.map eWrd l)) : Int)) then Option.bind (idx (IntKind.wrap IntKind.i64 ((↑k : Int) + (1 : Int)))) fun (z_5 : Nat) => Option.bind (unenc (List.map eWrd)
  (List.map eWrd l)) fun (z_6 : List Wrd) => bif decide (z_5 < List.length z_6) then bif Nat.ble ((List.length (List.map eCap out) + (1 : Nat)) * (56 : Nat))
  (140737488355328 : Nat) && true then some (Ex.normal, St.mk [(35, (vI (IntKind.wrap IntKind.i64 ((↑k : Int) + (1 : Int))))), (34, (vI (↑(List.length l) : Int))), (33,
  AV.sl (List.map eWrd l)), (12, .own 12), (11, .own 11), (3, (vI h)), (2, (vI r)), (1, (vI w)), (0, AV.sl (List.map eWrd l))] [(12, Blk.mk false 9 1 [[(vS (List.getD z k
  (Wrd.mk (0 : Int) (ByteArray.mk (Array.mk [])))).text)]]), (11, Blk.mk false 32 6 (List.map eCap out ++ [[(vI (List.getD z k (Wrd.mk (0 : Int) (ByteArray.mk (Array.mk
  [])))).time), (vI (min (IntKind.wrap IntKind.i64 ((List.getD z k (Wrd.mk (0 : Int) (ByteArray.mk (Array.mk [])))).time + h)) (List.getD z_6 z_5 (Wrd.mk (0 : Int)
  (ByteArray.mk (Array.mk [])))).time)), AV.sl (List.map eStr z_4), (vI (0 : Int)), (vB false), (vB false)]]))]) else none else none else bif Nat.ble ((List.length (List.map
  eCap out) + (1 : Nat)) * (56 : Nat)) (140737488355328 : Nat) && true then some (Ex.normal, St.mk [(35, (vI (IntKind.wrap IntKind.i64 ((↑k : Int) + (1 : Int))))), (34, (vI
  (↑(List.length l) : Int))), (33, AV.sl (List.map eWrd l)), (12, .own 12), (11, .own 11), (3, (vI h)), (2, (vI r)), (1, (vI w)), (0, AV.sl (List.map eWrd l))] [(12, Blk.mk
  false 9 1 [[(vS (List.getD z k (Wrd.mk (0 : Int) (ByteArray.mk (Array.mk [])))).text)]]), (11, Blk.mk false 32 6 (List.map eCap out ++ [[(vI (List.getD z k (Wrd.mk (0 :
  Int) (ByteArray.mk (Array.mk [])))).time), (vI (IntKind.wrap IntKind.i64 ((List.getD z k (Wrd.mk (0 : Int) (ByteArray.mk (Array.mk [])))).time + h))), AV.sl (List.map eStr
  z_4), (vI (0 : Int)), (vB false), (vB false)]]))]) else none else none else none else bif decide ((0 : Int) ≤ IntKind.wrap IntKind.i64 ((↑(List.length (List.map eStr ls))
  : Int) - (1 : Int))) then Option.bind (idx (IntKind.wrap IntKind.i64 ((↑(List.length (List.map eStr ls)) : Int) - (1 : Int)))) fun (z_3 : Nat) => bif decide (z_3 <
  List.length (Blk.mk false 9 1 (List.map eStr ls)).rows) then Option.bind (unenc (List.map eStr) (List.map eStr ls)) fun (z_4 : List ByteArray) => bif decide (z_3 <
  List.length z_4) then Option.bind (unenc encRun [(vS (List.getD z_4 z_3 (ByteArray.mk (Array.mk []))))]) fun (z_5 : ByteArray) => bif decide (ByteArray.size z_5 ≤
  (4294967280 : Nat)) then Option.bind (unenc encRun [(vS (List.getD z k (Wrd.mk (0 : Int) (ByteArray.mk (Array.mk [])))).text)]) fun (z_6 : ByteArray) => bif decide
  (ByteArray.size z_6 ≤ (4294967280 : Nat)) then bif decide (IntKind.wrap IntKind.i64 (IntKind.wrap IntKind.i64 (F.runes z_5 + (1 : Int)) + F.runes z_6) ≤ w) then
  Option.bind (idx (IntKind.wrap IntKind.i64 ((↑(List.length (List.map eStr ls)) : Int) - (1 : Int)))) fun (z_7 : Nat) => bif decide (z_7 < List.length (Blk.mk false 9 1
  (List.map eStr ls)).rows) then Option.bind (unenc (List.map eStr) (List.map eStr ls)) fun (z_8 : List ByteArray) => bif decide (z_7 < List.length z_8) then bif Nat.ble
  (ByteArray.size (ByteArray.mk (Array.mk [(32 : UInt8)])) + ByteArray.size (List.getD z k (Wrd.mk (0 : Int) (ByteArray.mk (Array.mk [])))).text) (9223372036854775807 : Nat)
  then bif Nat.ble (ByteArray.size (List.getD z_8 z_7 (ByteArray.mk (Array.mk []))) + ByteArray.size (ByteArray.mk (Array.mk [(32 : UInt8)]) ++ (List.getD z k (Wrd.mk (0 :
  Int) (ByteArray.mk (Array.mk [])))).text)) (9223372036854775807 : Nat) then Option.bind (idx (IntKind.wrap IntKind.i64 ((↑(List.length (List.map eStr ls)) : Int) - (1 :
  Int)))) fun (z_9 : Nat) => bif decide (z_9 < List.length (Blk.mk false 9 1 (List.map eStr ls)).rows) then Option.bind (unenc (List.map eStr) (List.map eStr ls)) fun (z_10
  : List ByteArray) => bif decide (z_9 < List.length z_10) then bif decide (IntKind.wrap IntKind.i64 ((↑k : Int) + (1 : Int)) < (↑(List.length (List.map eWrd l)) : Int))
  then Option.bind (idx (IntKind.wrap IntKind.i64 ((↑k : Int) + (1 : Int)))) fun (z_11 : Nat) => Option.bind (unenc (List.map eWrd) (List.map eWrd l)) fun (z_12 : List Wrd)
  => bif decide (z_11 < List.length z_12) then bif (List.getD z_12 z_11 (Wrd.mk (0 : Int) (ByteArray.mk (Array.mk [])))).time == (List.getD z k (Wrd.mk (0 : Int)
  (ByteArray.mk (Array.mk [])))).time then some (Ex.normal, St.mk [(35, (vI (IntKind.wrap IntKind.i64 ((↑k : Int) + (1 : Int))))), (34, (vI (↑(List.length l) : Int))), (33,
  AV.sl (List.map eWrd l)), (12, .own 12), (11, .own 11), (3, (vI h)), (2, (vI r)), (1, (vI w)), (0, AV.sl (List.map eWrd l))] [(12, Blk.mk false 9 1 (List.set (List.map
  eStr ls) z_9 [(vS (List.getD z_8 z_7 (ByteArray.mk (Array.mk [])) ++ (ByteArray.mk (Array.mk [(32 : UInt8)]) ++ (List.getD z k (Wrd.mk (0 : Int) (ByteArray.mk (Array.mk
  [])))).text)))])), (11, Blk.mk false 32 6 (List.map eCap out))]) else Option.bind (idx (max (0 : Int) (IntKind.wrap IntKind.i64 ((↑(List.length (List.set (List.map eStr
  ls) z_9 [(vS (List.getD z_8 z_7 (ByteArray.mk (Array.mk [])) ++ (ByteArray.mk (Array.mk [(32 : UInt8)]) ++ (List.getD z k (Wrd.mk (0 : Int) (ByteArray.mk (Array.mk
  [])))).text)))])) : Int) - r)))) fun (z_13 : Nat) => bif Nat.ble z_13 (List.length (List.set (List.map eStr ls) z_9 [(vS (List.getD z_8 z_7 (ByteArray.mk (Array.mk [])) ++
  (ByteArray.mk (Array.mk [(32 : UInt8)]) ++ (List.getD z k (Wrd.mk (0 : Int) (ByteArray.mk (Array.mk [])))).text)))])) && Nat.ble (List.length (List.set (List.map eStr ls)
  z_9 [(vS (List.getD z_8 z_7 (ByteArray.mk (Array.mk [])) ++ (ByteArray.mk (Array.mk [(32 : UInt8)]) ++ (List.getD z k (Wrd.mk (0 : Int) (ByteArray.mk (Array.mk
  [])))).text)))])) (List.length (List.set (List.map eStr ls) z_9 [(vS (List.getD z_8 z_7 (ByteArray.mk (Array.mk [])) ++ (ByteArray.mk (Array.mk [(32 : UInt8)]) ++
  (List.getD z k (Wrd.mk (0 : Int) (ByteArray.mk (Array.mk [])))).text)))])) then Option.bind (unenc encClF [AV.sl (List.take (List.length (List.set (List.map eStr ls) z_9
  [(vS (List.getD z_8 z_7 (ByteArray.mk (Array.mk [])) ++ (ByteArray.mk (Array.mk [(32 : UInt8)]) ++ (List.getD z k (Wrd.mk (0 : Int) (ByteArray.mk (Array.mk
  [])))).text)))]) - z_13) (List.drop ((0 : Nat) + z_13) (List.set (List.map eStr ls) z_9 [(vS (List.getD z_8 z_7 (ByteArray.mk (Array.mk [])) ++ (ByteArray.mk (Array.mk
  [(32 : UInt8)]) ++ (List.getD z k (Wrd.mk (0 : Int) (ByteArray.mk (Array.mk [])))).text)))])))]) fun (z_14 : List ByteArray) => bif decide (List.length z_14 ≤ (1000 :
  Nat)) then bif decide (IntKind.wrap IntKind.i64 ((↑k : Int) + (1 : Int)) < (↑(List.length (List.map eWrd l)) : Int)) then Option.bind (idx (IntKind.wrap IntKind.i64 ((↑k :
  Int) + (1 : Int)))) fun (z_15 : Nat) => Option.bind (unenc (List.map eWrd) (List.map eWrd l)) fun (z_16 : List Wrd) => bif decide (z_15 < List.length z_16) then bif
  Nat.ble ((List.length (List.map eCap out) + (1 : Nat)) * (56 : Nat)) (140737488355328 : Nat) && true then some (Ex.normal, St.mk [(35, (vI (IntKind.wrap IntKind.i64 ((↑k :
  Int) + (1 : Int))))), (34, (vI (↑(List.length l) : Int))), (33, AV.sl (List.map eWrd l)), (12, .own 12), (11, .own 11), (3, (vI h)), (2, (vI r)), (1, (vI w)), (0, AV.sl
  (List.map eWrd l))] [(12, Blk.mk false 9 1 (List.set (List.map eStr ls) z_9 [(vS (List.getD z_8 z_7 (ByteArray.mk (Array.mk [])) ++ (ByteArray.mk (Array.mk [(32 : UInt8)])
  ++ (List.getD z k (Wrd.mk (0 : Int) (ByteArray.mk (Array.mk [])))).text)))])), (11, Blk.mk false 32 6 (List.map eCap out ++ [[(vI (List.getD z k (Wrd.mk (0 : Int)
  (ByteArray.mk (Array.mk [])))).time), (vI (min (IntKind.wrap IntKind.i64 ((List.getD z k (Wrd.mk (0 : Int) (ByteArray.mk (Array.mk [])))).time + h)) (List.getD z_16 z_15
  (Wrd.mk (0 : Int) (ByteArray.mk (Array.mk [])))).time)), AV.sl (List.map eStr z_14), (vI (0 : Int)), (vB false), (vB false)]]))]) else none else none else bif Nat.ble
  ((List.length (List.map eCap out) + (1 : Nat)) * (56 : Nat)) (140737488355328 : Nat) && true then some (Ex.normal, St.mk [(35, (vI (IntKind.wrap IntKind.i64 ((↑k : Int) +
  (1 : Int))))), (34, (vI (↑(List.length l) : Int))), (33, AV.sl (List.map eWrd l)), (12, .own 12), (11, .own 11), (3, (vI h)), (2, (vI r)), (1, (vI w)), (0, AV.sl (List.map
  eWrd l))] [(12, Blk.mk false 9 1 (List.set (List.map eStr ls) z_9 [(vS (List.getD z_8 z_7 (ByteArray.mk (Array.mk [])) ++ (ByteArray.mk (Array.mk [(32 : UInt8)]) ++
  (List.getD z k (Wrd.mk (0 : Int) (ByteArray.mk (Array.mk [])))).text)))])), (11, Blk.mk false 32 6 (List.map eCap out ++ [[(vI (List.getD z k (Wrd.mk (0 : Int)
  (ByteArray.mk (Array.mk [])))).time), (vI (IntKind.wrap IntKind.i64 ((List.getD z k (Wrd.mk (0 : Int) (ByteArray.mk (Array.mk [])))).time + h))), AV.sl (List.map eStr
  z_14), (vI (0 : Int)), (vB false), (vB false)]]))]) else none else none else none else none else Option.bind (idx (max (0 : Int) (IntKind.wrap IntKind.i64 ((↑(List.length
  (List.set (List.map eStr ls) z_9 [(vS (List.getD z_8 z_7 (ByteArray.mk (Array.mk [])) ++ (ByteArray.mk (Array.mk [(32 : UInt8)]) ++ (List.getD z k (Wrd.mk (0 : Int)
  (ByteArray.mk (Array.mk [])))).text)))])) : Int) - r)))) fun (z_11 : Nat) => bif Nat.ble z_11 (List.length (List.set (List.map eStr ls) z_9 [(vS (List.getD z_8 z_7
  (ByteArray.mk (Array.mk [])) ++ (ByteArray.mk (Array.mk [(32 : UInt8)]) ++ (List.getD z k (Wrd.mk (0 : Int) (ByteArray.mk (Array.mk [])))).text)))])) && Nat.ble
  (List.length (List.set (List.map eStr ls) z_9 [(vS (List.getD z_8 z_7 (ByteArray.mk (Array.mk [])) ++ (ByteArray.mk (Array.mk [(32 : UInt8)]) ++ (List.getD z k (Wrd.mk (0
  : Int) (ByteArray.mk (Array.mk [])))).text)))])) (List.length (List.set (List.map eStr ls) z_9 [(vS (List.getD z_8 z_7 (ByteArray.mk (Array.mk [])) ++ (ByteArray.mk
  (Array.mk [(32 : UInt8)]) ++ (List.getD z k (Wrd.mk (0 : Int) (ByteArray.mk (Array.mk [])))).text)))])) then Option.bind (unenc encClF [AV.sl (List.take (List.length
  (List.set (List.map eStr ls) z_9 [(vS (List.getD z_8 z_7 (ByteArray.mk (Array.mk [])) ++ (ByteArray.mk (Array.mk [(32 : UInt8)]) ++ (List.getD z k (Wrd.mk (0 : Int)
  (ByteArray.mk (Array.mk [])))).text)))]) - z_11) (List.drop ((0 : Nat) + z_11) (List.set (List.map eStr ls) z_9 [(vS (List.getD z_8 z_7 (ByteArray.mk (Array.mk [])) ++
  (ByteArray.mk (Array.mk [(32 : UInt8)]) ++ (List.getD z k (Wrd.mk (0 : Int) (ByteArray.mk (Array.mk [])))).text)))])))]) fun (z_12 : List ByteArray) => bif decide
  (List.length z_12 ≤ (1000 : Nat)) then bif decide (IntKind.wrap IntKind.i64 ((↑k : Int) + (1 : Int)) < (↑(List.length (List.map eWrd l)) : Int)) then Option.bind (idx
  (IntKind.wrap IntKind.i64 ((↑k : Int) + (1 : Int)))) fun (z_13 : Nat) => Option.bind (unenc (List.map eWrd) (List.map eWrd l)) fun (z_14 : List Wrd) => bif decide (z_13 <
  List.length z_14) then bif Nat.ble ((List.length (List.map eCap out) + (1 : Nat)) * (56 : Nat)) (140737488355328 : Nat) && true then some (Ex.normal, St.mk [(35, (vI
  (IntKind.wrap IntKind.i64 ((↑k : Int) + (1 : Int))))), (34, (vI (↑(List.length l) : Int))), (33, AV.sl (List.map eWrd l)), (12, .own 12), (11, .own 11), (3, (vI h)), (2,
  (vI r)), (1, (vI w)), (0, AV.sl (List.map eWrd l))] [(12, Blk.mk false 9 1 (List.set (List.map eStr ls) z_9 [(vS (List.getD z_8 z_7 (ByteArray.mk (Array.mk [])) ++
  (ByteArray.mk (Array.mk [(32 : UInt8)]) ++ (List.getD z k (Wrd.mk (0 : Int) (ByteArray.mk (Array.mk [])))).text)))])), (11, Blk.mk false 32 6 (List.map eCap out ++ [[(vI
  (List.getD z k (Wrd.mk (0 : Int) (ByteArray.mk (Array.mk [])))).time), (vI (min (IntKind.wrap IntKind.i64 ((List.getD z k (Wrd.mk (0 : Int) (ByteArray.mk (Array.mk
  [])))).time + h)) (List.getD z_14 z_13 (Wrd.mk (0 : Int) (ByteArray.mk (Array.mk [])))).time)), AV.sl (List.map eStr z_12), (vI (0 : Int)), (vB false), (vB false)]]))])
  else none else none else bif Nat.ble ((List.length (List.map eCap out) + (1 : Nat)) * (56 : Nat)) (140737488355328 : Nat) && true then some (Ex.normal, St.mk [(35, (vI
  (IntKind.wrap IntKind.i64 ((↑k : Int) + (1 : Int))))), (34, (vI (↑(List.length l) : Int))), (33, AV.sl (List.map eWrd l)), (12, .own 12), (11, .own 11), (3, (vI h)), (2,
  (vI r)), (1, (vI w)), (0, AV.sl (List.map eWrd l))] [(12, Blk.mk false 9 1 (List.set (List.map eStr ls) z_9 [(vS (List.getD z_8 z_7 (ByteArray.mk (Array.mk [])) ++
  (ByteArray.mk (Array.mk [(32 : UInt8)]) ++ (List.getD z k (Wrd.mk (0 : Int) (ByteArray.mk (Array.mk [])))).text)))])), (11, Blk.mk false 32 6 (List.map eCap out ++ [[(vI
  (List.getD z k (Wrd.mk (0 : Int) (ByteArray.mk (Array.mk [])))).time), (vI (IntKind.wrap IntKind.i64 ((List.getD z k (Wrd.mk (0 : Int) (ByteArray.mk (Array.mk [])))).time
  + h))), AV.sl (List.map eStr z_12), (vI (0 : Int)), (vB false), (vB false)]]))]) else none else none else none else none else none else none else none else none else none
  else bif Nat.ble ((List.length (List.map eStr ls) + (1 : Nat)) * (16 : Nat)) (140737488355328 : Nat) && true then bif decide (IntKind.wrap IntKind.i64 ((↑k : Int) + (1 :
  Int)) < (↑(List.length (List.map eWrd l)) : Int)) then Option.bind (idx (IntKind.wrap IntKind.i64 ((↑k : Int) + (1 : Int)))) fun (z_7 : Nat) => Option.bind (unenc
  (List.map eWrd) (List.map eWrd l)) fun (z_8 : List Wrd) => bif decide (z_7 < List.length z_8) then bif (List.getD z_8 z_7 (Wrd.mk (0 : Int) (ByteArray.mk (Array.mk
  [])))).time == (List.getD z k (Wrd.mk (0 : Int) (ByteArray.mk (Array.mk [])))).time then some (Ex.normal, St.mk [(35, (vI (IntKind.wrap IntKind.i64 ((↑k : Int) + (1 :
  Int))))), (34, (vI (↑(List.length l) : Int))), (33, AV.sl (List.map eWrd l)), (12, .own 12), (11, .own 11), (3, (vI h)), (2, (vI r)), (1, (vI w)), (0, AV.sl (List.map eWrd
  l))] [(12, Blk.mk false 9 1 (List.map eStr ls ++ [[(vS (List.getD z k (Wrd.mk (0 : Int) (ByteArray.mk (Array.mk [])))).text)]])), (11, Blk.mk false 32 6 (List.map eCap
  out))]) else Option.bind (idx (max (0 : Int) (IntKind.wrap IntKind.i64 ((↑(List.length (List.map eStr ls ++ [[(vS (List.getD z k (Wrd.mk (0 : Int) (ByteArray.mk (Array.mk
  [])))).text)]])) : Int) - r)))) fun (z_9 : Nat) => bif Nat.ble z_9 (List.length (List.map eStr ls ++ [[(vS (List.getD z k (Wrd.mk (0 : Int) (ByteArray.mk (Array.mk
  [])))).text)]])) && Nat.ble (List.length (List.map eStr ls ++ [[(vS (List.getD z k (Wrd.mk (0 : Int) (ByteArray.mk (Array.mk [])))).text)]])) (List.length (List.map eStr
  ls ++ [[(vS (List.getD z k (Wrd.mk (0 : Int) (ByteArray.mk (Array.mk [])))).text)]])) then Option.bind (unenc encClF [AV.sl (List.take (List.length (List.map eStr ls ++
  [[(vS (List.getD z k (Wrd.mk (0 : Int) (ByteArray.mk (Array.mk [])))).text)]]) - z_9) (List.drop ((0 : Nat) + z_9) (List.map eStr ls ++ [[(vS (List.getD z k (Wrd.mk (0 :
  Int) (ByteArray.mk (Array.mk [])))).text)]])))]) fun (z_10 : List ByteArray) => bif decide (List.length z_10 ≤ (1000 : Nat)) then bif decide (IntKind.wrap IntKind.i64 ((↑k
  : Int) + (1 : Int)) < (↑(List.length (List.map eWrd l)) : Int)) then Option.bind (idx (IntKind.wrap IntKind.i64 ((↑k : Int) + (1 : Int)))) fun (z_11 : Nat) => Option.bind
  (unenc (List.map eWrd) (List.map eWrd l)) fun (z_12 : List Wrd) => bif decide (z_11 < List.length z_12) then bif Nat.ble ((List.length (List.map eCap out) + (1 : Nat)) *
  (56 : Nat)) (140737488355328 : Nat) && true then some (Ex.normal, St.mk [(35, (vI (IntKind.wrap IntKind.i64 ((↑k : Int) + (1 : Int))))), (34, (vI (↑(List.length l) :
  Int))), (33, AV.sl (List.map eWrd l)), (12, .own 12), (11, .own 11), (3, (vI h)), (2, (vI r)), (1, (vI w)), (0, AV.sl (List.map eWrd l))] [(12, Blk.mk false 9 1 (List.map
  eStr ls ++ [[(vS (List.getD z k (Wrd.mk (0 : Int) (ByteArray.mk (Array.mk [])))).text)]])), (11, Blk.mk false 32 6 (List.map eCap out ++ [[(vI (List.getD z k (Wrd.mk (0 :
  Int) (ByteArray.mk (Array.mk [])))).time), (vI (min (IntKind.wrap IntKind.i64 ((List.getD z k (Wrd.mk (0 : Int) (ByteArray.mk (Array.mk [])))).time + h)) (List.getD z_12
  z_11 (Wrd.mk (0 : Int) (ByteArray.mk (Array.mk [])))).time)), AV.sl (List.map eStr z_10), (vI (0 : Int)), (vB false), (vB false)]]))]) else none else none else bif Nat.ble
  ((List.length (List.map eCap out) + (1 : Nat)) * (56 : Nat)) (140737488355328 : Nat) && true then some (Ex.normal, St.mk [(35, (vI (IntKind.wrap IntKind.i64 ((↑k : Int) +
  (1 : Int))))), (34, (vI (↑(List.length l) : Int))), (33, AV.sl (List.map eWrd l)), (12, .own 12), (11, .own 11), (3, (vI h)), (2, (vI r)), (1, (vI w)), (0, AV.sl (List.map
  eWrd l))] [(12, Blk.mk false 9 1 (List.map eStr ls ++ [[(vS (List.getD z k (Wrd.mk (0 : Int) (ByteArray.mk (Array.mk [])))).text)]])), (11, Blk.mk false 32 6 (List.map
  eCap out ++ [[(vI (List.getD z k (Wrd.mk (0 : Int) (ByteArray.mk (Array.mk [])))).time), (vI (IntKind.wrap IntKind.i64 ((List.getD z k (Wrd.mk (0 : Int) (ByteArray.mk
  (Array.mk [])))).time + h))), AV.sl (List.map eStr z_10), (vI (0 : Int)), (vB false), (vB false)]]))]) else none else none else none else none else Option.bind (idx (max
  (0 : Int) (IntKind.wrap IntKind.i64 ((↑(List.length (List.map eStr ls ++ [[(vS (List.getD z k (Wrd.mk (0 : Int) (ByteArray.mk (Array.mk [])))).text)]])) : Int) - r)))) fun
  (z_7 : Nat) => bif Nat.ble z_7 (List.length (List.map eStr ls ++ [[(vS (List.getD z k (Wrd.mk (0 : Int) (ByteArray.mk (Array.mk [])))).text)]])) && Nat.ble (List.length
  (List.map eStr ls ++ [[(vS (List.getD z k (Wrd.mk (0 : Int) (ByteArray.mk (Array.mk [])))).text)]])) (List.length (List.map eStr ls ++ [[(vS (List.getD z k (Wrd.mk (0 :
  Int) (ByteArray.mk (Array.mk [])))).text)]])) then Option.bind (unenc encClF [AV.sl (List.take (List.length (List.map eStr ls ++ [[(vS (List.getD z k (Wrd.mk (0 : Int)
  (ByteArray.mk (Array.mk [])))).text)]]) - z_7) (List.drop ((0 : Nat) + z_7) (List.map eStr ls ++ [[(vS (List.getD z k (Wrd.mk (0 : Int) (ByteArray.mk (Array.mk
  [])))).text)]])))]) fun (z_8 : List ByteArray) => bif decide (List.length z_8 ≤ (1000 : Nat)) then bif decide (IntKind.wrap IntKind.i64 ((↑k : Int) + (1 : Int)) <
  (↑(List.length (List.map eWrd l)) : Int)) then Option.bind (idx (IntKind.wrap IntKind.i64 ((↑k : Int) + (1 : Int)))) fun (z_9 : Nat) => Option.bind (unenc (List.map eWrd)
  (List.map eWrd l)) fun (z_10 : List Wrd) => bif decide (z_9 < List.length z_10) then bif Nat.ble ((List.length (List.map eCap out) + (1 : Nat)) * (56 : Nat))
  (140737488355328 : Nat) && true then some (Ex.normal, St.mk [(35, (vI (IntKind.wrap IntKind.i64 ((↑k : Int) + (1 : Int))))), (34, (vI (↑(List.length l) : Int))), (33,
  AV.sl (List.map eWrd l)), (12, .own 12), (11, .own 11), (3, (vI h)), (2, (vI r)), (1, (vI w)), (0, AV.sl (List.map eWrd l))] [(12, Blk.mk false 9 1 (List.map eStr ls ++
  [[(vS (List.getD z k (Wrd.mk (0 : Int) (ByteArray.mk (Array.mk [])))).text)]])), (11, Blk.mk false 32 6 (List.map eCap out ++ [[(vI (List.getD z k (Wrd.mk (0 : Int)
  (ByteArray.mk (Array.mk [])))).time), (vI (min (IntKind.wrap IntKind.i64 ((List.getD z k (Wrd.mk (0 : Int) (ByteArray.mk (Array.mk [])))).time + h)) (List.getD z_10 z_9
  (Wrd.mk (0 : Int) (ByteArray.mk (Array.mk [])))).time)), AV.sl (List.map eStr z_8), (vI (0 : Int)), (vB false), (vB false)]]))]) else none else none else bif Nat.ble
  ((List.length (List.map eCap out) + (1 : Nat)) * (56 : Nat)) (140737488355328 : Nat) && true then some (Ex.normal, St.mk [(35, (vI (IntKind.wrap IntKind.i64 ((↑k : Int) +
  (1 : Int))))), (34, (vI (↑(List.length l) : Int))), (33, AV.sl (List.map eWrd l)), (12, .own 12), (11, .own 11), (3, (vI h)), (2, (vI r)), (1, (vI w)), (0, AV.sl (List.map
  eWrd l))] [(12, Blk.mk false 9 1 (List.map eStr ls ++ [[(vS (List.getD z k (Wrd.mk (0 : Int) (ByteArray.mk (Array.mk [])))).text)]])), (11, Blk.mk false 32 6 (List.map
  eCap out ++ [[(vI (List.getD z k (Wrd.mk (0 : Int) (ByteArray.mk (Array.mk [])))).time), (vI (IntKind.wrap IntKind.i64 ((List.getD z k (Wrd.mk (0 : Int) (ByteArray.mk
  (Array.mk [])))).time + h))), AV.sl (List.map eStr z_8), (vI (0 : Int)), (vB false), (vB false)]]))]) else none else none else none else none else none else none else none
  else none else bif Nat.ble ((List.length (List.map eStr ls) + (1 : Nat)) * (16 : Nat)) (140737488355328 : Nat) && true then bif decide (IntKind.wrap IntKind.i64 ((↑k :
  Int) + (1 : Int)) < (↑(List.length (List.map eWrd l)) : Int)) then Option.bind (idx (IntKind.wrap IntKind.i64 ((↑k : Int) + (1 : Int)))) fun (z_3 : Nat) => Option.bind
  (unenc (List.map eWrd) (List.map eWrd l)) fun (z_4 : List Wrd) => bif decide (z_3 < List.length z_4) then bif (List.getD z_4 z_3 (Wrd.mk (0 : Int) (ByteArray.mk (Array.mk
  [])))).time == (List.getD z k (Wrd.mk (0 : Int) (ByteArray.mk (Array.mk [])))).time then some (Ex.normal, St.mk [(35, (vI (IntKind.wrap IntKind.i64 ((↑k : Int) + (1 :
  Int))))), (34, (vI (↑(List.length l) : Int))), (33, AV.sl (List.map eWrd l)), (12, .own 12), (11, .own 11), (3, (vI h)), (2, (vI r)), (1, (vI w)), (0, AV.sl (List.map eWrd
  l))] [(12, Blk.mk false 9 1 (List.map eStr ls ++ [[(vS (List.getD z k (Wrd.mk (0 : Int) (ByteArray.mk (Array.mk [])))).text)]])), (11, Blk.mk false 32 6 (List.map eCap
  out))]) else Option.bind (idx (max (0 : Int) (IntKind.wrap IntKind.i64 ((↑(List.length (List.map eStr ls ++ [[(vS (List.getD z k (Wrd.mk (0 : Int) (ByteArray.mk (Array.mk
  [])))).text)]])) : Int) - r)))) fun (z_5 : Nat) => bif Nat.ble z_5 (List.length (List.map eStr ls ++ [[(vS (List.getD z k (Wrd.mk (0 : Int) (ByteArray.mk (Array.mk
  [])))).text)]])) && Nat.ble (List.length (List.map eStr ls ++ [[(vS (List.getD z k (Wrd.mk (0 : Int) (ByteArray.mk (Array.mk [])))).text)]])) (List.length (List.map eStr
  ls ++ [[(vS (List.getD z k (Wrd.mk (0 : Int) (ByteArray.mk (Array.mk [])))).text)]])) then Option.bind (unenc encClF [AV.sl (List.take (List.length (List.map eStr ls ++
  [[(vS (List.getD z k (Wrd.mk (0 : Int) (ByteArray.mk (Array.mk [])))).text)]]) - z_5) (List.drop ((0 : Nat) + z_5) (List.map eStr ls ++ [[(vS (List.getD z k (Wrd.mk (0 :
  Int) (ByteArray.mk (Array.mk [])))).text)]])))]) fun (z_6 : List ByteArray) => bif decide (List.length z_6 ≤ (1000 : Nat)) then bif decide (IntKind.wrap IntKind.i64 ((↑k :
  Int) + (1 : Int)) < (↑(List.length (List.map eWrd l)) : Int)) then Option.bind (idx (IntKind.wrap IntKind.i64 ((↑k : Int) + (1 : Int)))) fun (z_7 : Nat) => Option.bind
  (unenc (List.map eWrd) (List.map eWrd l)) fun (z_8 : List Wrd) => bif decide (z_7 < List.length z_8) then bif Nat.ble ((List.length (List.map eCap out) + (1 : Nat)) * (56
  : Nat)) (140737488355328 : Nat) && true then some (Ex.normal, St.mk [(35, (vI (IntKind.wrap IntKind.i64 ((↑k : Int) + (1 : Int))))), (34, (vI (↑(List.length l) : Int))),
  (33, AV.sl (List.map eWrd l)), (12, .own 12), (11, .own 11), (3, (vI h)), (2, (vI r)), (1, (vI w)), (0, AV.sl (List.map eWrd l))] [(12, Blk.mk false 9 1 (List.map eStr ls
  ++ [[(vS (List.getD z k (Wrd.mk (0 : Int) (ByteArray.mk (Array.mk [])))).text)]])), (11, Blk.mk false 32 6 (List.map eCap out ++ [[(vI (List.getD z k (Wrd.mk (0 : Int)
  (ByteArray.mk (Array.mk [])))).time), (vI (min (IntKind.wrap IntKind.i64 ((List.getD z k (Wrd.mk (0 : Int) (ByteArray.mk (Array.mk [])))).time + h)) (List.getD z_8 z_7
  (Wrd.mk (0 : Int) (ByteArray.mk (Array.mk [])))).time)), AV.sl (List.map eStr z_6), (vI (0 : Int)), (vB false), (vB false)]]))]) else none else none else bif Nat.ble
  ((List.length (List.map eCap out) + (1 : Nat)) * (56 : Nat)) (140737488355328 : Nat) && true then some (Ex.normal, St.mk [(35, (vI (IntKind.wrap IntKind.i64 ((↑k : Int) +
  (1 : Int))))), (34, (vI (↑(List.length l) : Int))), (33, AV.sl (List.map eWrd l)), (12, .own 12), (11, .own 11), (3, (vI h)), (2, (vI r)), (1, (vI w)), (0, AV.sl (List.map
  eWrd l))] [(12, Blk.mk false 9 1 (List.map eStr ls ++ [[(vS (List.getD z k (Wrd.mk (0 : Int) (ByteArray.mk (Array.mk [])))).text)]])), (11, Blk.mk false 32 6 (List.map
  eCap out ++ [[(vI (List.getD z k (Wrd.mk (0 : Int) (ByteArray.mk (Array.mk [])))).time), (vI (IntKind.wrap IntKind.i64 ((List.getD z k (Wrd.mk (0 : Int) (ByteArray.mk
  (Array.mk [])))).time + h))), AV.sl (List.map eStr z_6), (vI (0 : Int)), (vB false), (vB false)]]))]) else none else none else none else none else Option.bind (idx (max (0
  : Int) (IntKind.wrap IntKind.i64 ((↑(List.length (List.map eStr ls ++ [[(vS (List.getD z k (Wrd.mk (0 : Int) (ByteArray.mk (Array.mk [])))).text)]])) : Int) - r)))) fun
  (z_3 : Nat) => bif Nat.ble z_3 (List.length (List.map eStr ls ++ [[(vS (List.getD z k (Wrd.mk (0 : Int) (ByteArray.mk (Array.mk [])))).text)]])) && Nat.ble (List.length
  (List.map eStr ls ++ [[(vS (List.getD z k (Wrd.mk (0 : Int) (ByteArray.mk (Array.mk [])))).text)]])) (List.length (List.map eStr ls ++ [[(vS (List.getD z k (Wrd.mk (0 :
  Int) (ByteArray.mk (Array.mk [])))).text)]])) then Option.bind (unenc encClF [AV.sl (List.take (List.length (List.map eStr ls ++ [[(vS (List.getD z k (Wrd.mk (0 : Int)
  (ByteArray.mk (Array.mk [])))).text)]]) - z_3) (List.drop ((0 : Nat) + z_3) (List.map eStr ls ++ [[(vS (List.getD z k (Wrd.mk (0 : Int) (ByteArray.mk (Array.mk
  [])))).text)]])))]) fun (z_4 : List ByteArray) => bif decide (List.length z_4 ≤ (1000 : Nat)) then bif decide (IntKind.wrap IntKind.i64 ((↑k : Int) + (1 : Int)) <
  (↑(List.length (List.map eWrd l)) : Int)) then Option.bind (idx (IntKind.wrap IntKind.i64 ((↑k : Int) + (1 : Int)))) fun (z_5 : Nat) => Option.bind (unenc (List.map eWrd)
  (List.map eWrd l)) fun (z_6 : List Wrd) => bif decide (z_5 < List.length z_6) then bif Nat.ble ((List.length (List.map eCap out) + (1 : Nat)) * (56 : Nat))
  (140737488355328 : Nat) && true then some (Ex.normal, St.mk [(35, (vI (IntKind.wrap IntKind.i64 ((↑k : Int) + (1 : Int))))), (34, (vI (↑(List.length l) : Int))), (33,
  AV.sl (List.map eWrd l)), (12, .own 12), (11, .own 11), (3, (vI h)), (2, (vI r)), (1, (vI w)), (0, AV.sl (List.map eWrd l))] [(12, Blk.mk false 9 1 (List.map eStr ls ++
  [[(vS (List.getD z k (Wrd.mk (0 : Int) (ByteArray.mk (Array.mk [])))).text)]])), (11, Blk.mk false 32 6 (List.map eCap out ++ [[(vI (List.getD z k (Wrd.mk (0 : Int)
  (ByteArray.mk (Array.mk [])))).time), (vI (min (IntKind.wrap IntKind.i64 ((List.getD z k (Wrd.mk (0 : Int) (ByteArray.mk (Array.mk [])))).time + h)) (List.getD z_6 z_5
  (Wrd.mk (0 : Int) (ByteArray.mk (Array.mk [])))).time)), AV.sl (List.map eStr z_4), (vI (0 : Int)), (vB false), (vB false)]]))]) else none else none else bif Nat.ble
  ((List.length (List.map eCap out) + (1 : Nat)) * (56 : Nat)) (140737488355328 : Nat) && true then some (Ex.normal, St.mk [(35, (vI (IntKind.wrap IntKind.i64 ((↑k : Int) +
  (1 : Int))))), (34, (vI (↑(List.length l) : Int))), (33, AV.sl (List.map eWrd l)), (12, .own 12), (11, .own 11), (3, (vI h)), (2, (vI r)), (1, (vI w)), (0, AV.sl (List.map
  eWrd l))] [(12, Blk.mk false 9 1 (List.map eStr ls ++ [[(vS (List.getD z k (Wrd.mk (0 : Int) (ByteArray.mk (Array.mk [])))).text)]])), (11, Blk.mk false 32 6 (List.map
  eCap out ++ [[(vI (List.getD z k (Wrd.mk (0 : Int) (ByteArray.mk (Array.mk [])))).time), (vI (IntKind.wrap IntKind.i64 ((List.getD z k (Wrd.mk (0 : Int) (ByteArray.mk
  (Array.mk [])))).time + h))), AV.sl (List.map eStr z_4), (vI (0 : Int)), (vB false), (vB false)]]))]) else none else none else none else none else none else bif decide ((0
  : Int) ≤ IntKind.wrap IntKind.i64 ((↑(List.length (List.map eStr ls)) : Int) - (1 : Int))) then Option.bind (idx (IntKind.wrap IntKind.i64 ((↑(List.length (List.map eStr
  ls)) : Int) - (1 : Int)))) fun (z_1 : Nat) => bif decide (z_1 < List.length (Blk.mk false 9 1 (List.map eStr ls)).rows) then Option.bind (unenc (List.map eStr) (List.map
  eStr ls)) fun (z_2 : List ByteArray) => bif decide (z_1 < List.length z_2) then Option.bind (unenc encRun [(vS (List.getD z_2 z_1 (ByteArray.mk (Array.mk []))))]) fun (z_3
  : ByteArray) => bif decide (ByteArray.size z_3 ≤ (4294967280 : Nat)) then Option.bind (unenc encRun [(vS (List.getD z k (Wrd.mk (0 : Int) (ByteArray.mk (Array.mk
  [])))).text)]) fun (z_4 : ByteArray) => bif decide (ByteArray.size z_4 ≤ (4294967280 : Nat)) then bif decide (IntKind.wrap IntKind.i64 (IntKind.wrap IntKind.i64 (F.runes
  z_3 + (1 : Int)) + F.runes z_4) ≤ w) then Option.bind (idx (IntKind.wrap IntKind.i64 ((↑(List.length (List.map eStr ls)) : Int) - (1 : Int)))) fun (z_5 : Nat) => bif
  decide (z_5 < List.length (Blk.mk false 9 1 (List.map eStr ls)).rows) then Option.bind (unenc (List.map eStr) (List.map eStr ls)) fun (z_6 : List ByteArray) => bif decide
  (z_5 < List.length z_6) then bif Nat.ble (ByteArray.size (ByteArray.mk (Array.mk [(32 : UInt8)])) + ByteArray.size (List.getD z k (Wrd.mk (0 : Int) (ByteArray.mk (Array.mk
  [])))).text) (9223372036854775807 : Nat) then bif Nat.ble (ByteArray.size (List.getD z_6 z_5 (ByteArray.mk (Array.mk []))) + ByteArray.size (ByteArray.mk (Array.mk [(32 :
  UInt8)]) ++ (List.getD z k (Wrd.mk (0 : Int) (ByteArray.mk (Array.mk [])))).text)) (9223372036854775807 : Nat) then Option.bind (idx (IntKind.wrap IntKind.i64
  ((↑(List.length (List.map eStr ls)) : Int) - (1 : Int)))) fun (z_7 : Nat) => bif decide (z_7 < List.length (Blk.mk false 9 1 (List.map eStr ls)).rows) then Option.bind
  (unenc (List.map eStr) (List.map eStr ls)) fun (z_8 : List ByteArray) => bif decide (z_7 < List.length z_8) then bif decide (IntKind.wrap IntKind.i64 ((↑k : Int) + (1 :
  Int)) < (↑(List.length (List.map eWrd l)) : Int)) then Option.bind (idx (IntKind.wrap IntKind.i64 ((↑k : Int) + (1 : Int)))) fun (z_9 : Nat) => Option.bind (unenc
  (List.map eWrd) (List.map eWrd l)) fun (z_10 : List Wrd) => bif decide (z_9 < List.length z_10) then bif (List.getD z_10 z_9 (Wrd.mk (0 : Int) (ByteArray.mk (Array.mk
  [])))).time == (List.getD z k (Wrd.mk (0 : Int) (ByteArray.mk (Array.mk [])))).time then some (Ex.normal, St.mk [(35, (vI (IntKind.wrap IntKind.i64 ((↑k : Int) + (1 :
  Int))))), (34, (vI (↑(List.length l) : Int))), (33, AV.sl (List.map eWrd l)), (12, .own 12), (11, .own 11), (3, (vI h)), (2, (vI r)), (1, (vI w)), (0, AV.sl (List.map eWrd
  l))] [(12, Blk.mk false 9 1 (List.set (List.map eStr ls) z_7 [(vS (List.getD z_6 z_5 (ByteArray.mk (Array.mk [])) ++ (ByteArray.mk (Array.mk [(32 : UInt8)]) ++ (List.getD
  z k (Wrd.mk (0 : Int) (ByteArray.mk (Array.mk [])))).text)))])), (11, Blk.mk false 32 6 (List.map eCap out))]) else Option.bind (idx (max (0 : Int) (IntKind.wrap
  IntKind.i64 ((↑(List.length (List.set (List.map eStr ls) z_7 [(vS (List.getD z_6 z_5 (ByteArray.mk (Array.mk [])) ++ (ByteArray.mk (Array.mk [(32 : UInt8)]) ++ (List.getD
  z k (Wrd.mk (0 : Int) (ByteArray.mk (Array.mk [])))).text)))])) : Int) - r)))) fun (z_11 : Nat) => bif Nat.ble z_11 (List.length (List.set (List.map eStr ls) z_7 [(vS
  (List.getD z_6 z_5 (ByteArray.mk (Array.mk [])) ++ (ByteArray.mk (Array.mk [(32 : UInt8)]) ++ (List.getD z k (Wrd.mk (0 : Int) (ByteArray.mk (Array.mk [])))).text)))])) &&
  Nat.ble (List.length (List.set (List.map eStr ls) z_7 [(vS (List.getD z_6 z_5 (ByteArray.mk (Array.mk [])) ++ (ByteArray.mk (Array.mk [(32 : UInt8)]) ++ (List.getD z k
  (Wrd.mk (0 : Int) (ByteArray.mk (Array.mk [])))).text)))])) (List.length (List.set (List.map eStr ls) z_7 [(vS (List.getD z_6 z_5 (ByteArray.mk (Array.mk [])) ++
  (ByteArray.mk (Array.mk [(32 : UInt8)]) ++ (List.getD z k (Wrd.mk (0 : Int) (ByteArray.mk (Array.mk [])))).text)))])) then Option.bind (unenc encClF [AV.sl (List.take
  (List.length (List.set (List.map eStr ls) z_7 [(vS (List.getD z_6 z_5 (ByteArray.mk (Array.mk [])) ++ (ByteArray.mk (Array.mk [(32 : UInt8)]) ++ (List.getD z k (Wrd.mk (0
  : Int) (ByteArray.mk (Array.mk [])))).text)))]) - z_11) (List.drop ((0 : Nat) + z_11) (List.set (List.map eStr ls) z_7 [(vS (List.getD z_6 z_5 (ByteArray.mk (Array.mk []))
  ++ (ByteArray.mk (Array.mk [(32 : UInt8)]) ++ (List.getD z k (Wrd.mk (0 : Int) (ByteArray.mk (Array.mk [])))).text)))])))]) fun (z_12 : List ByteArray) => bif decide
  (List.length z_12 ≤ (1000 : Nat)) then bif decide (IntKind.wrap IntKind.i64 ((↑k : Int) + (1 : Int)) < (↑(List.length (List.map eWrd l)) : Int)) then Option.bind (idx
  (IntKind.wrap IntKind.i64 ((↑k : Int) + (1 : Int)))) fun (z_13 : Nat) => Option.bind (unenc (List.map eWrd) (List.map eWrd l)) fun (z_14 : List Wrd) => bif decide (z_13 <
  List.length z_14) then bif Nat.ble ((List.length (List.map eCap out) + (1 : Nat)) * (56 : Nat)) (140737488355328 : Nat) && true then some (Ex.normal, St.mk [(35, (vI
  (IntKind.wrap IntKind.i64 ((↑k : Int) + (1 : Int))))), (34, (vI (↑(List.length l) : Int))), (33, AV.sl (List.map eWrd l)), (12, .own 12), (11, .own 11), (3, (vI h)), (2,
  (vI r)), (1, (vI w)), (0, AV.sl (List.map eWrd l))] [(12, Blk.mk false 9 1 (List.set (List.map eStr ls) z_7 [(vS (List.getD z_6 z_5 (ByteArray.mk (Array.mk [])) ++
  (ByteArray.mk (Array.mk [(32 : UInt8)]) ++ (List.getD z k (Wrd.mk (0 : Int) (ByteArray.mk (Array.mk [])))).text)))])), (11, Blk.mk false 32 6 (List.map eCap out ++ [[(vI
  (List.getD z k (Wrd.mk (0 : Int) (ByteArray.mk (Array.mk [])))).time), (vI (min (IntKind.wrap IntKind.i64 ((List.getD z k (Wrd.mk (0 : Int) (ByteArray.mk (Array.mk
  [])))).time + h)) (List.getD z_14 z_13 (Wrd.mk (0 : Int) (ByteArray.mk (Array.mk [])))).time)), AV.sl (List.map eStr z_12), (vI (0 : Int)), (vB false), (vB false)]]))])
  else none else none else bif Nat.ble ((List.length (List.map eCap out) + (1 : Nat)) * (56 : Nat)) (140737488355328 : Nat) && true then some (Ex.normal, St.mk [(35, (vI
  (IntKind.wrap IntKind.i64 ((↑k : Int) + (1 : Int))))), (34, (vI (↑(List.length l) : Int))), (33, AV.sl (List.map eWrd l)), (12, .own 12), (11, .own 11), (3, (vI h)), (2,
  (vI r)), (1, (vI w)), (0, AV.sl (List.map eWrd l))] [(12, Blk.mk false 9 1 (List.set (List.map eStr ls) z_7 [(vS (List.getD z_6 z_5 (ByteArray.mk (Array.mk [])) ++
  (ByteArray.mk (Array.mk [(32 : UInt8)]) ++ (List.getD z k (Wrd.mk (0 : Int) (ByteArray.mk (Array.mk [])))).text)))])), (11, Blk.mk false 32 6 (List.map eCap out ++ [[(vI
  (List.getD z k (Wrd.mk (0 : Int) (ByteArray.mk (Array.mk [])))).time), (vI (IntKind.wrap IntKind.i64 ((List.getD z k (Wrd.mk (0 : Int) (ByteArray.mk (Array.mk [])))).time
  + h))), AV.sl (List.map eStr z_12), (vI (0 : Int)), (vB false), (vB false)]]))]) else none else none else none else none else Option.bind (idx (max (0 : Int) (IntKind.wrap
  IntKind.i64 ((↑(List.length (List.set (List.map eStr ls) z_7 [(vS (List.getD z_6 z_5 (ByteArray.mk (Array.mk [])) ++ (ByteArray.mk (Array.mk [(32 : UInt8)]) ++ (List.getD
  z k (Wrd.mk (0 : Int) (ByteArray.mk (Array.mk [])))).text)))])) : Int) - r)))) fun (z_9 : Nat) => bif Nat.ble z_9 (List.length (List.set (List.map eStr ls) z_7 [(vS
  (List.getD z_6 z_5 (ByteArray.mk (Array.mk [])) ++ (ByteArray.mk (Array.mk [(32 : UInt8)]) ++ (List.getD z k (Wrd.mk (0 : Int) (ByteArray.mk (Array.mk [])))).text)))])) &&
  Nat.ble (List.length (List.set (List.map eStr ls) z_7 [(vS (List.getD z_6 z_5 (ByteArray.mk (Array.mk [])) ++ (ByteArray.mk (Array.mk [(32 : UInt8)]) ++ (List.getD z k
  (Wrd.mk (0 : Int) (ByteArray.mk (Array.mk [])))).text)))])) (List.length (List.set (List.map eStr ls) z_7 [(vS (List.getD z_6 z_5 (ByteArray.mk (Array.mk [])) ++
  (ByteArray.mk (Array.mk [(32 : UInt8)]) ++ (List.getD z k (Wrd.mk (0 : Int) (ByteArray.mk (Array.mk [])))).text)))])) then Option.bind (unenc encClF [AV.sl (List.take
  (List.length (List.set (List.map eStr ls) z_7 [(vS (List.getD z_6 z_5 (ByteArray.mk (Array.mk [])) ++ (ByteArray.mk (Array.mk [(32 : UInt8)]) ++ (List.getD z k (Wrd.mk (0
  : Int) (ByteArray.mk (Array.mk [])))).text)))]) - z_9) (List.drop ((0 : Nat) + z_9) (List.set (List.map eStr ls) z_7 [(vS (List.getD z_6 z_5 (ByteArray.mk (Array.mk []))
  ++ (ByteArray.mk (Array.mk [(32 : UInt8)]) ++ (List.getD z k (Wrd.mk (0 : Int) (ByteArray.mk (Array.mk [])))).text)))])))]) fun (z_10 : List ByteArray) => bif decide
  (List.length z_10 ≤ (1000 : Nat)) then bif decide (IntKind.wrap IntKind.i64 ((↑k : Int) + (1 : Int)) < (↑(List.length (List.map eWrd l)) : Int)) then Option.bind (idx
  (IntKind.wrap IntKind.i64 ((↑k : Int) + (1 : Int)))) fun (z_11 : Nat) => Option.bind (unenc (List.map eWrd) (List.map eWrd l)) fun (z_12 : List Wrd) => bif decide (z_11 <
  List.length z_12) then bif Nat.ble ((List.length (List.map eCap out) + (1 : Nat)) * (56 : Nat)) (140737488355328 : Nat) && true then some (Ex.normal, St.mk [(35, (vI
  (IntKind.wrap IntKind.i64 ((↑k : Int) + (1 : Int))))), (34, (vI (↑(List.length l) : Int))), (33, AV.sl (List.map eWrd l)), (12, .own 12), (11, .own 11), (3, (vI h)), (2,
  (vI r)), (1, (vI w)), (0, AV.sl (List.map eWrd l))] [(12, Blk.mk false 9 1 (List.set (List.map eStr ls) z_7 [(vS (List.getD z_6 z_5 (ByteArray.mk (Array.mk [])) ++
  (ByteArray.mk (Array.mk [(32 : UInt8)]) ++ (List.getD z k (Wrd.mk (0 : Int) (ByteArray.mk (Array.mk [])))).text)))])), (11, Blk.mk false 32 6 (List.map eCap out ++ [[(vI
  (List.getD z k (Wrd.mk (0 : Int) (ByteArray.mk (Array.mk [])))).time), (vI (min (IntKind.wrap IntKind.i64 ((List.getD z k (Wrd.mk (0 : Int) (ByteArray.mk (Array.mk
  [])))).time + h)) (List.getD z_12 z_11 (Wrd.mk (0 : Int) (ByteArray.mk (Array.mk [])))).time)), AV.sl (List.map eStr z_10), (vI (0 : Int)), (vB false), (vB false)]]))])
  else none else none else bif Nat.ble ((List.length (List.map eCap out) + (1 : Nat)) * (56 : Nat)) (140737488355328 : Nat) && true then some (Ex.normal, St.mk [(35, (vI
  (IntKind.wrap IntKind.i64 ((↑k : Int) + (1 : Int))))), (34, (vI (↑(List.length l) : Int))), (33, AV.sl (List.map eWrd l)), (12, .own 12), (11, .own 11), (3, (vI h)), (2,
  (vI r)), (1, (vI w)), (0, AV.sl (List.map eWrd l))] [(12, Blk.mk false 9 1 (List.set (List.map eStr ls) z_7 [(vS (List.getD z_6 z_5 (ByteArray.mk (Array.mk [])) ++
  (ByteArray.mk (Array.mk [(32 : UInt8)]) ++ (List.getD z k (Wrd.mk (0 : Int) (ByteArray.mk (Array.mk [])))).text)))])), (11, Blk.mk false 32 6 (List.map eCap out ++ [[(vI
  (List.getD z k (Wrd.mk (0 : Int) (ByteArray.mk (Array.mk [])))).time), (vI (IntKind.wrap IntKind.i64 ((List.getD z k (Wrd.mk (0 : Int) (ByteArray.mk (Array.mk [])))).time
  + h))), AV.sl (List.map eStr z_10), (vI (0 : Int)), (vB false), (vB false)]]))]) else none else none else none else none else none else none else none else none else none
  else bif Nat.ble ((List.length (List.map eStr ls) + (1 : Nat)) * (16 : Nat)) (140737488355328 : Nat) && true then bif decide (IntKind.wrap IntKind.i64 ((↑k : Int) + (1 :
  Int)) < (↑(List.length (List.map eWrd l)) : Int)) then Option.bind (idx (IntKind.wrap IntKind.i64 ((↑k : Int) + (1 : Int)))) fun (z_5 : Nat) => Option.bind (unenc
  (List.map eWrd) (List.map eWrd l)) fun (z_6 : List Wrd) => bif decide (z_5 < List.length z_6) then bif (List.getD z_6 z_5 (Wrd.mk (0 : Int) (ByteArray.mk (Array.mk
  [])))).time == (List.getD z k (Wrd.mk (0 : Int) (ByteArray.mk (Array.mk [])))).time then some (Ex.normal, St.mk [(35, (vI (IntKind.wrap IntKind.i64 ((↑k : Int) + (1 :
  Int))))), (34, (vI (↑(List.length l) : Int))), (33, AV.sl (List.map eWrd l)), (12, .own 12), (11, .own 11), (3, (vI h)), (2, (vI r)), (1, (vI w)), (0, AV.sl (List.map eWrd
  l))] [(12, Blk.mk false 9 1 (List.map eStr ls ++ [[(vS (List.getD z k (Wrd.mk (0 : Int) (ByteArray.mk (Array.mk [])))).text)]])), (11, Blk.mk false 32 6 (List.map eCap
  out))]) else Option.bind (idx (max (0 : Int) (IntKind.wrap IntKind.i64 ((↑(List.length (List.map eStr ls ++ [[(vS (List.getD z k (Wrd.mk (0 : Int) (ByteArray.mk (Array.mk
  [])))).text)]])) : Int) - r)))) fun (z_7 : Nat) => bif Nat.ble z_7 (List.length (List.map eStr ls ++ [[(vS (List.getD z k (Wrd.mk (0 : Int) (ByteArray.mk (Array.mk
  [])))).text)]])) && Nat.ble (List.length (List.map eStr ls ++ [[(vS (List.getD z k (Wrd.mk (0 : Int) (ByteArray.mk (Array.mk [])))).text)]])) (List.length (List.map eStr
  ls ++ [[(vS (List.getD z k (Wrd.mk (0 : Int) (ByteArray.mk (Array.mk [])))).text)]])) then Option.bind (unenc encClF [AV.sl (List.take (List.length (List.map eStr ls ++
  [[(vS (List.getD z k (Wrd.mk (0 : Int) (ByteArray.mk (Array.mk [])))).text)]]) - z_7) (List.drop ((0 : Nat) + z_7) (List.map eStr ls ++ [[(vS (List.getD z k (Wrd.mk (0 :
  Int) (ByteArray.mk (Array.mk [])))).text)]])))]) fun (z_8 : List ByteArray) => bif decide (List.length z_8 ≤ (1000 : Nat)) then bif decide (IntKind.wrap IntKind.i64 ((↑k :
  Int) + (1 : Int)) < (↑(List.length (List.map eWrd l)) : Int)) then Option.bind (idx (IntKind.wrap IntKind.i64 ((↑k : Int) + (1 : Int)))) fun (z_9 : Nat) => Option.bind
  (unenc (List.map eWrd) (List.map eWrd l)) fun (z_10 : List Wrd) => bif decide (z_9 < List.length z_10) then bif Nat.ble ((List.length (List.map eCap out) + (1 : Nat)) *
  (56 : Nat)) (140737488355328 : Nat) && true then some (Ex.normal, St.mk [(35, (vI (IntKind.wrap IntKind.i64 ((↑k : Int) + (1 : Int))))), (34, (vI (↑(List.length l) :
  Int))), (33, AV.sl (List.map eWrd l)), (12, .own 12), (11, .own 11), (3, (vI h)), (2, (vI r)), (1, (vI w)), (0, AV.sl (List.map eWrd l))] [(12, Blk.mk false 9 1 (List.map
  eStr ls ++ [[(vS (List.getD z k (Wrd.mk (0 : Int) (ByteArray.mk (Array.mk [])))).text)]])), (11, Blk.mk false 32 6 (List.map eCap out ++ [[(vI (List.getD z k (Wrd.mk (0 :
  Int) (ByteArray.mk (Array.mk [])))).time), (vI (min (IntKind.wrap IntKind.i64 ((List.getD z k (Wrd.mk (0 : Int) (ByteArray.mk (Array.mk [])))).time + h)) (List.getD z_10
  z_9 (Wrd.mk (0 : Int) (ByteArray.mk (Array.mk [])))).time)), AV.sl (List.map eStr z_8), (vI (0 : Int)), (vB false), (vB false)]]))]) else none else none else bif Nat.ble
  ((List.length (List.map eCap out) + (1 : Nat)) * (56 : Nat)) (140737488355328 : Nat) && true then some (Ex.normal, St.mk [(35, (vI (IntKind.wrap IntKind.i64 ((↑k : Int) +
  (1 : Int))))), (34, (vI (↑(List.length l) : Int))), (33, AV.sl (List.map eWrd l)), (12, .own 12), (11, .own 11), (3, (vI h)), (2, (vI r)), (1, (vI w)), (0, AV.sl (List.map
  eWrd l))] [(12, Blk.mk false 9 1 (List.map eStr ls ++ [[(vS (List.getD z k (Wrd.mk (0 : Int) (ByteArray.mk (Array.mk [])))).text)]])), (11, Blk.mk false 32 6 (List.map
  eCap out ++ [[(vI (List.getD z k (Wrd.mk (0 : Int) (ByteArray.mk (Array.mk [])))).time), (vI (IntKind.wrap IntKind.i64 ((List.getD z k (Wrd.mk (0 : Int) (ByteArray.mk
  (Array.mk [])))).time + h))), AV.sl (List.map eStr z_8), (vI (0 : Int)), (vB false), (vB false)]]))]) else none else none else none else none else Option.bind (idx (max (0
  : Int) (IntKind.wrap IntKind.i64 ((↑(List.length (List.map eStr ls ++ [[(vS (List.getD z k (Wrd.mk (0 : Int) (ByteArray.mk (Array.mk [])))).text)]])) : Int) - r)))) fun
  (z_5 : Nat) => bif Nat.ble z_5 (List.length (List.map eStr ls ++ [[(vS (List.getD z k (Wrd.mk (0 : Int) (ByteArray.mk (Array.mk [])))).text)]])) && Nat.ble (List.length
  (List.map eStr ls ++ [[(vS (List.getD z k (Wrd.mk (0 : Int) (ByteArray.mk (Array.mk [])))).text)]])) (List.length (List.map eStr ls ++ [[(vS (List.getD z k (Wrd.mk (0 :
  Int) (ByteArray.mk (Array.mk [])))).text)]])) then Option.bind (unenc encClF [AV.sl (List.take (List.length (List.map eStr ls ++ [[(vS (List.getD z k (Wrd.mk (0 : Int)
  (ByteArray.mk (Array.mk [])))).text)]]) - z_5) (List.drop ((0 : Nat) + z_5) (List.map eStr ls ++ [[(vS (List.getD z k (Wrd.mk (0 : Int) (ByteArray.mk (Array.mk
  [])))).text)]])))]) fun (z_6 : List ByteArray) => bif decide (List.length z_6 ≤ (1000 : Nat)) then bif decide (IntKind.wrap IntKind.i64 ((↑k : Int) + (1 : Int)) <
  (↑(List.length (List.map eWrd l)) : Int)) then Option.bind (idx (IntKind.wrap IntKind.i64 ((↑k : Int) + (1 : Int)))) fun (z_7 : Nat) => Option.bind (unenc (List.map eWrd)
  (List.map eWrd l)) fun (z_8 : List Wrd) => bif decide (z_7 < List.length z_8) then bif Nat.ble ((List.length (List.map eCap out) + (1 : Nat)) * (56 : Nat))
  (140737488355328 : Nat) && true then some (Ex.normal, St.mk [(35, (vI (IntKind.wrap IntKind.i64 ((↑k : Int) + (1 : Int))))), (34, (vI (↑(List.length l) : Int))), (33,
  AV.sl (List.map eWrd l)), (12, .own 12), (11, .own 11), (3, (vI h)), (2, (vI r)), (1, (vI w)), (0, AV.sl (List.map eWrd l))] [(12, Blk.mk false 9 1 (List.map eStr ls ++
  [[(vS (List.getD z k (Wrd.mk (0 : Int) (ByteArray.mk (Array.mk [])))).text)]])), (11, Blk.mk false 32 6 (List.map eCap out ++ [[(vI (List.getD z k (Wrd.mk (0 : Int)
  (ByteArray.mk (Array.mk [])))).time), (vI (min (IntKind.wrap IntKind.i64 ((List.getD z k (Wrd.mk (0 : Int) (ByteArray.mk (Array.mk [])))).time + h)) (List.getD z_8 z_7
  (Wrd.mk (0 : Int) (ByteArray.mk (Array.mk [])))).time)), AV.sl (List.map eStr z_6), (vI (0 : Int)), (vB false), (vB false)]]))]) else none else none else bif Nat.ble
  ((List.length (List.map eCap out) + (1 : Nat)) * (56 : Nat)) (140737488355328 : Nat) && true then some (Ex.normal, St.mk [(35, (vI (IntKind.wrap IntKind.i64 ((↑k : Int) +
  (1 : Int))))), (34, (vI (↑(List.length l) : Int))), (33, AV.sl (List.map eWrd l)), (12, .own 12), (11, .own 11), (3, (vI h)), (2, (vI r)), (1, (vI w)), (0, AV.sl (List.map
  eWrd l))] [(12, Blk.mk false 9 1 (List.map eStr ls ++ [[(vS (List.getD z k (Wrd.mk (0 : Int) (ByteArray.mk (Array.mk [])))).text)]])), (11, Blk.mk false 32 6 (List.map
  eCap out ++ [[(vI (List.getD z k (Wrd.mk (0 : Int) (ByteArray.mk (Array.mk [])))).time), (vI (IntKind.wrap IntKind.i64 ((List.getD z k (Wrd.mk (0 : Int) (ByteArray.mk
  (Array.mk [])))).time + h))), AV.sl (List.map eStr z_6), (vI (0 : Int)), (vB false), (vB false)]]))]) else none else none else none else none else none else none else none
  else none else bif Nat.ble ((List.length (List.map eStr ls) + (1 : Nat)) * (16 : Nat)) (140737488355328 : Nat) && true then bif decide (IntKind.wrap IntKind.i64 ((↑k :
  Int) + (1 : Int)) < (↑(List.length (List.map eWrd l)) : Int)) then Option.bind (idx (IntKind.wrap IntKind.i64 ((↑k : Int) + (1 : Int)))) fun (z_1 : Nat) => Option.bind
  (unenc (List.map eWrd) (List.map eWrd l)) fun (z_2 : List Wrd) => bif decide (z_1 < List.length z_2) then bif (List.getD z_2 z_1 (Wrd.mk (0 : Int) (ByteArray.mk (Array.mk
  [])))).time == (List.getD z k (Wrd.mk (0 : Int) (ByteArray.mk (Array.mk [])))).time then some (Ex.normal, St.mk [(35, (vI (IntKind.wrap IntKind.i64 ((↑k : Int) + (1 :
  Int))))), (34, (vI (↑(List.length l) : Int))), (33, AV.sl (List.map eWrd l)), (12, .own 12), (11, .own 11), (3, (vI h)), (2, (vI r)), (1, (vI w)), (0, AV.sl (List.map eWrd
  l))] [(12, Blk.mk false 9 1 (List.map eStr ls ++ [[(vS (List.getD z k (Wrd.mk (0 : Int) (ByteArray.mk (Array.mk [])))).text)]])), (11, Blk.mk false 32 6 (List.map eCap
  out))]) else Option.bind (idx (max (0 : Int) (IntKind.wrap IntKind.i64 ((↑(List.length (List.map eStr ls ++ [[(vS (List.getD z k (Wrd.mk (0 : Int) (ByteArray.mk (Array.mk
  [])))).text)]])) : Int) - r)))) fun (z_3 : Nat) => bif Nat.ble z_3 (List.length (List.map eStr ls ++ [[(vS (List.getD z k (Wrd.mk (0 : Int) (ByteArray.mk (Array.mk
  [])))).text)]])) && Nat.ble (List.length (List.map eStr ls ++ [[(vS (List.getD z k (Wrd.mk (0 : Int) (ByteArray.mk (Array.mk [])))).text)]])) (List.length (List.map eStr
  ls ++ [[(vS (List.getD z k (Wrd.mk (0 : Int) (ByteArray.mk (Array.mk [])))).text)]])) then Option.bind (unenc encClF [AV.sl (List.take (List.length (List.map eStr ls ++
  [[(vS (List.getD z k (Wrd.mk (0 : Int) (ByteArray.mk (Array.mk [])))).text)]]) - z_3) (List.drop ((0 : Nat) + z_3) (List.map eStr ls ++ [[(vS (List.getD z k (Wrd.mk (0 :
  Int) (ByteArray.mk (Array.mk [])))).text)]])))]) fun (z_4 : List ByteArray) => bif decide (List.length z_4 ≤ (1000 : Nat)) then bif decide (IntKind.wrap IntKind.i64 ((↑k :
  Int) + (1 : Int)) < (↑(List.length (List.map eWrd l)) : Int)) then Option.bind (idx (IntKind.wrap IntKind.i64 ((↑k : Int) + (1 : Int)))) fun (z_5 : Nat) => Option.bind
  (unenc (List.map eWrd) (List.map eWrd l)) fun (z_6 : List Wrd) => bif decide (z_5 < List.length z_6) then bif Nat.ble ((List.length (List.map eCap out) + (1 : Nat)) * (56
  : Nat)) (140737488355328 : Nat) && true then some (Ex.normal, St.mk [(35, (vI (IntKind.wrap IntKind.i64 ((↑k : Int) + (1 : Int))))), (34, (vI (↑(List.length l) : Int))),
  (33, AV.sl (List.map eWrd l)), (12, .own 12), (11, .own 11), (3, (vI h)), (2, (vI r)), (1, (vI w)), (0, AV.sl (List.map eWrd l))] [(12, Blk.mk false 9 1 (List.map eStr ls
  ++ [[(vS (List.getD z k (Wrd.mk (0 : Int) (ByteArray.mk (Array.mk [])))).text)]])), (11, Blk.mk false 32 6 (List.map eCap out ++ [[(vI (List.getD z k (Wrd.mk (0 : Int)
  (ByteArray.mk (Array.mk [])))).time), (vI (min (IntKind.wrap IntKind.i64 ((List.getD z k (Wrd.mk (0 : Int) (ByteArray.mk (Array.mk [])))).time + h)) (List.getD z_6 z_5
  (Wrd.mk (0 : Int) (ByteArray.mk (Array.mk [])))).time)), AV.sl (List.map eStr z_4), (vI (0 : Int)), (vB false), (vB false)]]))]) else none else none else bif Nat.ble
  ((List.length (List.map eCap out) + (1 : Nat)) * (56 : Nat)) (140737488355328 : Nat) && true then some (Ex.normal, St.mk [(35, (vI (IntKind.wrap IntKind.i64 ((↑k : Int) +
  (1 : Int))))), (34, (vI (↑(List.length l) : Int))), (33, AV.sl (List.map eWrd l)), (12, .own 12), (11, .own 11), (3, (vI h)), (2, (vI r)), (1, (vI w)), (0, AV.sl (List.map
  eWrd l))] [(12, Blk.mk false 9 1 (List.map eStr ls ++ [[(vS (List.getD z k (Wrd.mk (0 : Int) (ByteArray.mk (Array.mk [])))).text)]])), (11, Blk.mk false 32 6 (List.map
  eCap out ++ [[(vI (List.getD z k (Wrd.mk (0 : Int) (ByteArray.mk (Array.mk [])))).time), (vI (IntKind.wrap IntKind.i64 ((List.getD z k (Wrd.mk (0 : Int) (ByteArray.mk
  (Array.mk [])))).time + h))), AV.sl (List.map eStr z_4), (vI (0 : Int)), (vB false), (vB false)]]))]) else none else none else none else none else Option.bind (idx (max (0
  : Int) (IntKind.wrap IntKind.i64 ((↑(List.length (List.map eStr ls ++ [[(vS (List.getD z k (Wrd.mk (0 : Int) (ByteArray.mk (Array.mk [])))).text)]])) : Int) - r)))) fun
  (z_1 : Nat) => bif Nat.ble z_1 (List.length (List.map eStr ls ++ [[(vS (List.getD z k (Wrd.mk (0 : Int) (ByteArray.mk (Array.mk [])))).text)]])) && Nat.ble (List.length
  (List.map eStr ls ++ [[(vS (List.getD z k (Wrd.mk (0 : Int) (ByteArray.mk (Array.mk [])))).text)]])) (List.length (List.map eStr ls ++ [[(vS (List.getD z k (Wrd.mk (0 :
  Int) (ByteArray.mk (Array.mk [])))).text)]])) then Option.bind (unenc encClF [AV.sl (List.take (List.length (List.map eStr ls ++ [[(vS (List.getD z k (Wrd.mk (0 : Int)
  (ByteArray.mk (Array.mk [])))).text)]]) - z_1) (List.drop ((0 : Nat) + z_1) (List.map eStr ls ++ [[(vS (List.getD z k (Wrd.mk (0 : Int) (ByteArray.mk (Array.mk
  [])))).text)]])))]) fun (z_2 : List ByteArray) => bif decide (List.length z_2 ≤ (1000 : Nat)) then bif decide (IntKind.wrap IntKind.i64 ((↑k : Int) + (1 : Int)) <
  (↑(List.length (List.map eWrd l)) : Int)) then Option.bind (idx (IntKind.wrap IntKind.i64 ((↑k : Int) + (1 : Int)))) fun (z_3 : Nat) => Option.bind (unenc (List.map eWrd)
  (List.map eWrd l)) fun (z_4 : List Wrd) => bif decide (z_3 < List.length z_4) then bif Nat.ble ((List.length (List.map eCap out) + (1 : Nat)) * (56 : Nat))
  (140737488355328 : Nat) && true then some (Ex.normal, St.mk [(35, (vI (IntKind.wrap IntKind.i64 ((↑k : Int) + (1 : Int))))), (34, (vI (↑(List.length l) : Int))), (33,
  AV.sl (List.map eWrd l)), (12, .own 12), (11, .own 11), (3, (vI h)), (2, (vI r)), (1, (vI w)), (0, AV.sl (List.map eWrd l))] [(12, Blk.mk false 9 1 (List.map eStr ls ++
  [[(vS (List.getD z k (Wrd.mk (0 : Int) (ByteArray.mk (Array.mk [])))).text)]])), (11, Blk.mk false 32 6 (List.map eCap out ++ [[(vI (List.getD z k (Wrd.mk (0 : Int)
  (ByteArray.mk (Array.mk [])))).time), (vI (min (IntKind.wrap IntKind.i64 ((List.getD z k (Wrd.mk (0 : Int) (ByteArray.mk (Array.mk [])))).time + h)) (List.getD z_4 z_3
  (Wrd.mk (0 : Int) (ByteArray.mk (Array.mk [])))).time)), AV.sl (List.map eStr z_2), (vI (0 : Int)), (vB false), (vB false)]]))]) else none else none else bif Nat.ble
  ((List.length (List.map eCap out) + (1 : Nat)) * (56 : Nat)) (140737488355328 : Nat) && true then some (Ex.normal, St.mk [(35, (vI (IntKind.wrap IntKind.i64 ((↑k : Int) +
  (1 : Int))))), (34, (vI (↑(List.length l) : Int))), (33, AV.sl (List.map eWrd l)), (12, .own 12), (11, .own 11), (3, (vI h)), (2, (vI r)), (1, (vI w)), (0, AV.sl (List.map
  eWrd l))] [(12, Blk.mk false 9 1 (List.map eStr ls ++ [[(vS (List.getD z k (Wrd.mk (0 : Int) (ByteArray.mk (Array.mk [])))).text)]])), (11, Blk.mk false 32 6 (List.map
  eCap out ++ [[(vI (List.getD z k (Wrd.mk (0 : Int) (ByteArray.mk (Array.mk [])))).time), (vI (IntKind.wrap IntKind.i64 ((List.getD z k (Wrd.mk (0 : Int) (ByteArray.mk
  (Array.mk [])))).time + h))), AV.sl (List.map eStr z_2), (vI (0 : Int)), (vB false), (vB false)]]))]) else none else none else none else none else none else some (Ex.exit
  (0 : Nat), St.mk [(11, .own 11)] [(11, Blk.mk false 32 6 (List.map eCap out))]) := (execR_bind _ _ _).symm.trans (by kernel_rfl)

end M
end Go.Proofs.YtdmccifaggmmkaaDoor
