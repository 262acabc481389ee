/- What is proved here: how a text is broken into lines by the program: its loops (no statement of the seat). -/
import Derived.Test.YthcfbeckhgngiaaGreatDoorC6
namespace Go.Proofs.YthcfbeckhgngiaaGreatDoor
open Go Go.RowKit
set_option linter.unusedVariables false
set_option linter.unusedSimpArgs false

namespace M

def stBk1 (ws : List ByteArray) (w : Int) (r : Int) (best : List Way) (i : Int) : St := ⟨[(11, vI i), (10, .own 43), (9, vI ws.length), (8, .sl (ws.map eStr)), (2, vI r), (1, vI w)], [(43, ⟨false, 89, 3, best.map eWay⟩)]⟩

def stBk11 (a : (List ByteArray) × Int × Int × (List Way) × Int) : St := stBk1 a.1 a.2.1 a.2.2.1 a.2.2.2.1 a.2.2.2.2

theorem stBk1_inj (a a' : (List ByteArray) × Int × Int × (List Way) × Int) (h : stBk11 a = stBk11 a') : a = a' := by
  simp only [stBk11, stBk1] at h
  try simp [strs_inj, ints_inj, bools_inj, eL_eIs_inj, eCaps_inj, eCap_iff, eL_eCaps_inj, eMchs_inj, eMch_iff, eWrds_inj, eWrd_iff, eFnds_inj, eFnd_iff, eRatios_inj, eRatio_iff, eWays_inj, eWay_iff] at h
  grind

theorem unstBk1 (ws : List ByteArray) (w : Int) (r : Int) (best : List Way) (i : Int) : unenc stBk11 (St.mk [(11, (vI i)), (10, .own 43), (9, (vI (↑(List.length ws) : Int))), (8, AV.sl (List.map eStr ws)), (2, (vI r)), (1, (vI w))] [(43, Blk.mk false 89 3 (List.map eWay
  best))]) = some (ws, w, r, best, i) := unenc_of stBk1_inj (ws, w, r, best, i) rfl

def outBk1 (ws : List ByteArray) (w : Int) (r : Int) (best : List Way) (i : Int) : T (Ex × St) := .ret (.exit 1, ⟨[(10, .own 43), (9, vI ws.length), (8, .sl (ws.map eStr)), (2, vI r)], [(43, ⟨false, 89, 3, (F.brU w ws (i + 1).toNat best).map eWay⟩)]⟩)

noncomputable def prlBk1 (ws : List ByteArray) (w : Int) (r : Int) (best : List Way) (i : Int) : Bool := decide (ws.length ≤ 100000) && decide (-1 ≤ i) && decide (i < ws.length) && F.smL ws && decide (best.length = ws.length + 1)

noncomputable def lpBk1 : Nat × (St → T (Ex × St)) := (11, lpo [11, 10, 9, 8, 2, 1] [43] stBk11 (fun a => prlBk1 a.1 a.2.1 a.2.2.1 a.2.2.2.1 a.2.2.2.2) fun a => outBk1 a.1 a.2.1 a.2.2.1 a.2.2.2.1 a.2.2.2.2)

theorem idx_nat (n : Nat) : idx (n : Int) = some n := rfl

def stBk2 (ws : List ByteArray) (w : Int) (r : Int) (best : List Way) (i : Nat) (long : Int) (k : Nat) : St := ⟨[(13, vI k), (12, vI long), (11, vI i), (10, .own 43), (9, vI ws.length), (8, .sl (ws.map eStr)), (2, vI r), (1, vI w)], [(43, ⟨false, 89, 3, best.map eWay⟩)]⟩

def stBk21 (a : (List ByteArray) × Int × Int × (List Way) × Nat × Int × Nat) : St := stBk2 a.1 a.2.1 a.2.2.1 a.2.2.2.1 a.2.2.2.2.1 a.2.2.2.2.2.1 a.2.2.2.2.2.2

theorem stBk2_inj (a a' : (List ByteArray) × Int × Int × (List Way) × Nat × Int × Nat) (h : stBk21 a = stBk21 a') : a = a' := by
  simp only [stBk21, stBk2] at h
  try simp [strs_inj, ints_inj, bools_inj, eL_eIs_inj, eCaps_inj, eCap_iff, eL_eCaps_inj, eMchs_inj, eMch_iff, eWrds_inj, eWrd_iff, eFnds_inj, eFnd_iff, eRatios_inj, eRatio_iff, eWays_inj, eWay_iff] at h
  grind

theorem unstBk2 (ws : List ByteArray) (w : Int) (r : Int) (best : List Way) (i : Nat) (long : Int) (k : Nat) : unenc stBk21 (St.mk [(13, (vI (↑k : Int))), (12, (vI long)), (11, (vI (↑i : Int))), (10, .own 43), (9, (vI (↑(List.length ws) : Int))), (8, AV.sl (List.map eStr ws)), (2, (vI r)), (1,
  (vI w))] [(43, Blk.mk false 89 3 (List.map eWay best))]) = some (ws, w, r, best, i, long, k) := unenc_of stBk2_inj (ws, w, r, best, i, long, k) rfl

def outBk2 (ws : List ByteArray) (w : Int) (r : Int) (best : List Way) (i : Nat) (long : Int) (k : Nat) : T (Ex × St) := .ret (.exit 3, ⟨[(11, vI i), (10, .own 43), (9, vI ws.length), (8, .sl (ws.map eStr)), (2, vI r), (1, vI w)], [(43, ⟨false, 89, 3, (best.set i (F.brK w ((F.brP ws best).drop k) k long (best.getD i default))).map eWay⟩)]⟩)

noncomputable def prlBk2 (ws : List ByteArray) (w : Int) (r : Int) (best : List Way) (i : Nat) (long : Int) (k : Nat) : Bool := decide (ws.length ≤ 100000) && F.smL ws && decide (best.length = ws.length + 1) && decide (i < ws.length) && decide (i ≤ k) && decide (k ≤ ws.length)

noncomputable def lpBk2 : Nat × (St → T (Ex × St)) := (15, lpo [13, 12, 11, 10, 9, 8, 2, 1] [43] stBk21 (fun a => prlBk2 a.1 a.2.1 a.2.2.1 a.2.2.2.1 a.2.2.2.2.1 a.2.2.2.2.2.1 a.2.2.2.2.2.2) fun a => outBk2 a.1 a.2.1 a.2.2.1 a.2.2.2.1 a.2.2.2.2.1 a.2.2.2.2.2.1 a.2.2.2.2.2.2)

def stBk3 (ws : List ByteArray) (best : List Way) (i : Nat) (out : List ByteArray) : St := ⟨[(17, vI i), (16, .own 16), (10, .own 43), (9, vI ws.length), (8, .sl (ws.map eStr))], [(43, ⟨false, 89, 3, best.map eWay⟩), (16, ⟨false, 9, 1, out.map eStr⟩)]⟩

def stBk31 (a : (List ByteArray) × (List Way) × Nat × (List ByteArray)) : St := stBk3 a.1 a.2.1 a.2.2.1 a.2.2.2

theorem stBk3_inj (a a' : (List ByteArray) × (List Way) × Nat × (List ByteArray)) (h : stBk31 a = stBk31 a') : a = a' := by
  simp only [stBk31, stBk3] at h
  try simp [strs_inj, ints_inj, bools_inj, eL_eIs_inj, eCaps_inj, eCap_iff, eL_eCaps_inj, eMchs_inj, eMch_iff, eWrds_inj, eWrd_iff, eFnds_inj, eFnd_iff, eRatios_inj, eRatio_iff, eWays_inj, eWay_iff] at h
  grind

theorem unstBk3 (ws : List ByteArray) (best : List Way) (i : Nat) (out : List ByteArray) : unenc stBk31 (St.mk [(17, (vI (↑i : Int))), (16, .own 16), (10, .own 43), (9, (vI (↑(List.length ws) : Int))), (8, AV.sl (List.map eStr ws))] [(43, Blk.mk false 89 3 (List.map eWay
  best)), (16, Blk.mk false 9 1 (List.map eStr out))]) = some (ws, best, i, out) := unenc_of stBk3_inj (ws, best, i, out) rfl

theorem unstBk30 (ws : List ByteArray) (best : List Way)  : unenc stBk31 (St.mk [(17, (vI (0 : Int))), (16, .own 16), (10, .own 43), (9, (vI (↑(List.length ws) : Int))), (8, AV.sl (List.map eStr ws))] [(43, Blk.mk false 89 3 (List.map eWay
  best)), (16, Blk.mk false 9 1 [])]) = some (ws, best, 0, []) := unenc_of stBk3_inj (ws, best, 0, []) rfl

def outBk3 (ws : List ByteArray) (best : List Way) (i : Nat) (out : List ByteArray) : T (Ex × St) := .ret (.exit 5, ⟨[(16, .own 16)], [(43, ⟨false, 89, 3, best.map eWay⟩), (16, ⟨false, 9, 1, (out ++ F.brO ws best ws.length i).map eStr⟩)]⟩)

noncomputable def prlBk3 (ws : List ByteArray) (best : List Way) (i : Nat) (out : List ByteArray) : Bool := decide (ws.length ≤ 100000) && decide (F.sizes ws ≤ 2000000) && decide (best.length = ws.length + 1) && decide (i ≤ ws.length) && decide (out.length ≤ i) && F.waysB ws.length best && (decide (i = ws.length) || F.ne0 (best.getD i default).lines)

noncomputable def lpBk3 : Nat × (St → T (Ex × St)) := (28, lpo [17, 16, 10, 9, 8] [43, 16] stBk31 (fun a => prlBk3 a.1 a.2.1 a.2.2.1 a.2.2.2) fun a => outBk3 a.1 a.2.1 a.2.2.1 a.2.2.2)

noncomputable def enBk : Env := envH ty noG lks [oOut, oCle, oCnt, oSpl, oJoi, oRun] [] [] [lpBk1, lpBk2, lpBk3]

theorem enBk_ok : EnvOK Tryz.prog enBk := by
  refine envH_ok lks_ok ty_ok ?_ ?_
  · simp only [List.forall_mem_cons]
    exact ⟨okOut, okCle, okCnt, okSpl, okJoi, okRun, by simp⟩
  · simp

theorem evBk2L (ws : List ByteArray) (w : Int) (r : Int) (best : List Way) (i : Nat) (long : Int) (k : Nat) : ((exec enBk (loopN Tryz.f21 1) (stBk2 ws w r best i long k)).bind (lessX ([13, 12, 11, 10, 9, 8, 2, 1], [43]) ([11, 10, 9, 8, 2, 1], [43]) ([], []))).val =
  bif decide ((↑k : Int) < (↑(List.length ws) : Int)) then Option.bind (unenc (List.map eStr) (List.map eStr ws)) fun (z : List ByteArray) => bif decide (k < List.length z)
  then Option.bind (unenc encRun [(vS (List.getD z k (ByteArray.mk (Array.mk []))))]) fun (z : ByteArray) => bif decide (ByteArray.size z ≤ (4294967280 : Nat)) then bif
  decide (w < IntKind.wrap IntKind.i64 (long + IntKind.wrap IntKind.i64 ((1 : Int) + F.runes z))) then some (Ex.exit (3 : Nat), St.mk [(11, (vI (↑i : Int))), (10, .own 43),
  (9, (vI (↑(List.length ws) : Int))), (8, AV.sl (List.map eStr ws)), (2, (vI r)), (1, (vI w))] [(43, Blk.mk false 89 3 (List.map eWay best))]) else bif decide (IntKind.wrap
  IntKind.i64 ((↑k : Int) + (1 : Int)) < (↑(List.length ws) : Int)) then bif decide (IntKind.wrap IntKind.i64 ((↑k : Int) + (1 : Int)) < (↑(List.length ws) : Int)) then
  Option.bind (idx (IntKind.wrap IntKind.i64 ((↑k : Int) + (1 : Int)))) fun (z_1 : Nat) => bif decide (z_1 < List.length (Blk.mk false 89 3 (List.map eWay best)).rows) then
  bif decide (IntKind.wrap IntKind.i64 ((↑k : Int) + (1 : Int)) < (↑(List.length ws) : Int)) then Option.bind (unenc (List.map eWay) (List.map eWay best)) fun (z_2 : List
  Way) => bif decide (z_1 < List.length z_2) then bif bif decide (IntKind.wrap IntKind.i64 ((↑k : Int) + (1 : Int)) < (↑(List.length ws) : Int)) then (List.getD z_2 z_1
  (Way.mk (0 : Int) (0 : Int) (0 : Int))).lines == (0 : Int) else false then some (Ex.normal, St.mk [(13, (vI (IntKind.wrap IntKind.i64 ((↑k : Int) + (1 : Int))))), (12, (vI
  (IntKind.wrap IntKind.i64 (long + IntKind.wrap IntKind.i64 ((1 : Int) + F.runes z))))), (11, (vI (↑i : Int))), (10, .own 43), (9, (vI (↑(List.length ws) : Int))), (8,
  AV.sl (List.map eStr ws)), (2, (vI r)), (1, (vI w))] [(43, Blk.mk false 89 3 (List.map eWay best))]) else Option.bind (idx (IntKind.wrap IntKind.i64 ((↑k : Int) + (1 :
  Int)))) fun (z_3 : Nat) => bif decide (z_3 < List.length (Blk.mk false 89 3 (List.map eWay best)).rows) then Option.bind (unenc (List.map eWay) (List.map eWay best)) fun
  (z_4 : List Way) => bif decide (z_3 < List.length z_4) then Option.bind (idx (IntKind.wrap IntKind.i64 ((↑k : Int) + (1 : Int)))) fun (z_5 : Nat) => bif decide (z_5 <
  List.length (Blk.mk false 89 3 (List.map eWay best)).rows) then Option.bind (unenc (List.map eWay) (List.map eWay best)) fun (z_6 : List Way) => bif decide (z_5 <
  List.length z_6) then bif decide (i < List.length (Blk.mk false 89 3 (List.map eWay best)).rows) then Option.bind (unenc (List.map eWay) (List.map eWay best)) fun (z_7 :
  List Way) => bif decide (i < List.length z_7) then bif bif bif (List.getD z_7 i (Way.mk (0 : Int) (0 : Int) (0 : Int))).lines == (0 : Int) then true else decide
  (IntKind.wrap IntKind.i64 ((List.getD z_4 z_3 (Way.mk (0 : Int) (0 : Int) (0 : Int))).lines + (1 : Int)) < (List.getD z_7 i (Way.mk (0 : Int) (0 : Int) (0 : Int))).lines)
  then true else bif IntKind.wrap IntKind.i64 ((List.getD z_4 z_3 (Way.mk (0 : Int) (0 : Int) (0 : Int))).lines + (1 : Int)) == (List.getD z_7 i (Way.mk (0 : Int) (0 : Int)
  (0 : Int))).lines then decide (IntKind.wrap IntKind.i64 ((List.getD z_6 z_5 (Way.mk (0 : Int) (0 : Int) (0 : Int))).sum + IntKind.wrap IntKind.i64 (IntKind.wrap
  IntKind.i64 (w - IntKind.wrap IntKind.i64 (long + IntKind.wrap IntKind.i64 ((1 : Int) + F.runes z))) * IntKind.wrap IntKind.i64 (w - IntKind.wrap IntKind.i64 (long +
  IntKind.wrap IntKind.i64 ((1 : Int) + F.runes z))))) ≤ (List.getD z_7 i (Way.mk (0 : Int) (0 : Int) (0 : Int))).sum) else false then bif decide (i < List.length (Blk.mk
  false 89 3 (List.map eWay best)).rows) then Option.bind (unenc (List.map eWay) (List.map eWay best)) fun (z_8 : List Way) => bif decide (i < List.length z_8) then some
  (Ex.normal, St.mk [(13, (vI (IntKind.wrap IntKind.i64 ((↑k : Int) + (1 : Int))))), (12, (vI (IntKind.wrap IntKind.i64 (long + IntKind.wrap IntKind.i64 ((1 : Int) + F.runes
  z))))), (11, (vI (↑i : Int))), (10, .own 43), (9, (vI (↑(List.length ws) : Int))), (8, AV.sl (List.map eStr ws)), (2, (vI r)), (1, (vI w))] [(43, Blk.mk false 89 3
  (List.set (List.map eWay best) i [(vI (IntKind.wrap IntKind.i64 ((List.getD z_4 z_3 (Way.mk (0 : Int) (0 : Int) (0 : Int))).lines + (1 : Int)))), (vI (IntKind.wrap
  IntKind.i64 ((List.getD z_6 z_5 (Way.mk (0 : Int) (0 : Int) (0 : Int))).sum + IntKind.wrap IntKind.i64 (IntKind.wrap IntKind.i64 (w - IntKind.wrap IntKind.i64 (long +
  IntKind.wrap IntKind.i64 ((1 : Int) + F.runes z))) * IntKind.wrap IntKind.i64 (w - IntKind.wrap IntKind.i64 (long + IntKind.wrap IntKind.i64 ((1 : Int) + F.runes z))))))),
  (vI (IntKind.wrap IntKind.i64 ((↑k : Int) + (1 : Int))))]))]) else none else none else some (Ex.normal, St.mk [(13, (vI (IntKind.wrap IntKind.i64 ((↑k : Int) + (1 :
  Int))))), (12, (vI (IntKind.wrap IntKind.i64 (long + IntKind.wrap IntKind.i64 ((1 : Int) + F.runes z))))), (11, (vI (↑i : Int))), (10, .own 43), (9, (vI (↑(List.length ws)
  : Int))), (8, AV.sl (List.map eStr ws)), (2, (vI r)), (1, (vI w))] [(43, Blk.mk false 89 3 (List.map eWay best))]) else none else none else none else none else none else
  none else none else bif decide (IntKind.wrap IntKind.i64 ((↑k : Int) + (1 : Int)) < (↑(List.length ws) : Int)) then none else Option.bind (idx (IntKind.wrap IntKind.i64
  ((↑k : Int) + (1 : Int)))) fun (z_2 : Nat) => bif decide (z_2 < List.length (Blk.mk false 89 3 (List.map eWay best)).rows) then Option.bind (unenc (List.map eWay)
  (List.map eWay best)) fun (z_3 : List Way) => bif decide (z_2 < List.length z_3) then Option.bind (idx (IntKind.wrap IntKind.i64 ((↑k : Int) + (1 : Int)))) fun (z_4 : Nat)
  => bif decide (z_4 < List.length (Blk.mk false 89 3 (List.map eWay best)).rows) then Option.bind (unenc (List.map eWay) (List.map eWay best)) fun (z_5 : List Way) => bif
  decide (z_4 < List.length z_5) then bif decide (i < List.length (Blk.mk false 89 3 (List.map eWay best)).rows) then Option.bind (unenc (List.map eWay) (List.map eWay
  best)) fun (z_6 : List Way) => bif decide (i < List.length z_6) then bif bif bif (List.getD z_6 i (Way.mk (0 : Int) (0 : Int) (0 : Int))).lines == (0 : Int) then true else
  decide (IntKind.wrap IntKind.i64 ((List.getD z_3 z_2 (Way.mk (0 : Int) (0 : Int) (0 : Int))).lines + (1 : Int)) < (List.getD z_6 i (Way.mk (0 : Int) (0 : Int) (0 :
  Int))).lines) then true else bif IntKind.wrap IntKind.i64 ((List.getD z_3 z_2 (Way.mk (0 : Int) (0 : Int) (0 : Int))).lines + (1 : Int)) == (List.getD z_6 i (Way.mk (0 :
  Int) (0 : Int) (0 : Int))).lines then decide (IntKind.wrap IntKind.i64 ((List.getD z_5 z_4 (Way.mk (0 : Int) (0 : Int) (0 : Int))).sum + IntKind.wrap IntKind.i64
  (IntKind.wrap IntKind.i64 (w - IntKind.wrap IntKind.i64 (long + IntKind.wrap IntKind.i64 ((1 : Int) + F.runes z))) * IntKind.wrap IntKind.i64 (w - IntKind.wrap IntKind.i64
  (long + IntKind.wrap IntKind.i64 ((1 : Int) + F.runes z))))) ≤ (List.getD z_6 i (Way.mk (0 : Int) (0 : Int) (0 : Int))).sum) else false then bif decide (i < List.length
  (Blk.mk false 89 3 (List.map eWay best)).rows) then Option.bind (unenc (List.map eWay) (List.map eWay best)) fun (z_7 : List Way) => bif decide (i < List.length z_7) then
  some (Ex.normal, St.mk [(13, (vI (IntKind.wrap IntKind.i64 ((↑k : Int) + (1 : Int))))), (12, (vI (IntKind.wrap IntKind.i64 (long + IntKind.wrap IntKind.i64 ((1 : Int) +
  F.runes z))))), (11, (vI (↑i : Int))), (10, .own 43), (9, (vI (↑(List.length ws) : Int))), (8, AV.sl (List.map eStr ws)), (2, (vI r)), (1, (vI w))] [(43, Blk.mk false 89 3
  (List.set (List.map eWay best) i [(vI (IntKind.wrap IntKind.i64 ((List.getD z_3 z_2 (Way.mk (0 : Int) (0 : Int) (0 : Int))).lines + (1 : Int)))), (vI (IntKind.wrap
  IntKind.i64 ((List.getD z_5 z_4 (Way.mk (0 : Int) (0 : Int) (0 : Int))).sum + IntKind.wrap IntKind.i64 (IntKind.wrap IntKind.i64 (w - IntKind.wrap IntKind.i64 (long +
  IntKind.wrap IntKind.i64 ((1 : Int) + F.runes z))) * IntKind.wrap IntKind.i64 (w - IntKind.wrap IntKind.i64 (long + IntKind.wrap IntKind.i64 ((1 : Int) + F.runes z))))))),
  (vI (IntKind.wrap IntKind.i64 ((↑k : Int) + (1 : Int))))]))]) else none else none else some (Ex.normal, St.mk [(13, (vI (IntKind.wrap IntKind.i64 ((↑k : Int) + (1 :
  Int))))), (12, (vI (IntKind.wrap IntKind.i64 (long + IntKind.wrap IntKind.i64 ((1 : Int) + F.runes z))))), (11, (vI (↑i : Int))), (10, .own 43), (9, (vI (↑(List.length ws)
  : Int))), (8, AV.sl (List.map eStr ws)), (2, (vI r)), (1, (vI w))] [(43, Blk.mk false 89 3 (List.map eWay best))]) else none else none else none else none else none else
  none else none else bif decide (IntKind.wrap IntKind.i64 ((↑k : Int) + (1 : Int)) < (↑(List.length ws) : Int)) then none else bif decide (IntKind.wrap IntKind.i64 ((↑k :
  Int) + (1 : Int)) < (↑(List.length ws) : Int)) then none else bif decide (IntKind.wrap IntKind.i64 ((↑k : Int) + (1 : Int)) < (↑(List.length ws) : Int)) then none else
  Option.bind (idx (IntKind.wrap IntKind.i64 ((↑k : Int) + (1 : Int)))) fun (z_1 : Nat) => bif decide (z_1 < List.length (Blk.mk false 89 3 (List.map eWay best)).rows) then
  Option.bind (unenc (List.map eWay) (List.map eWay best)) fun (z_2 : List Way) => bif decide (z_1 < List.length z_2) then Option.bind (idx (IntKind.wrap IntKind.i64 ((↑k :
  Int) + (1 : Int)))) fun (z_3 : Nat) => bif decide (z_3 < List.length (Blk.mk false 89 3 (List.map eWay best)).rows) then Option.bind (unenc (List.map eWay) (List.map eWay
  best)) fun (z_4 : List Way) => bif decide (z_3 < List.length z_4) then bif decide (i < List.length (Blk.mk false 89 3 (List.map eWay best)).rows) then Option.bind (unenc
  (List.map eWay) (List.map eWay best)) fun (z_5 : List Way) => bif decide (i < List.length z_5) then bif bif bif (List.getD z_5 i (Way.mk (0 : Int) (0 : Int) (0 :
  Int))).lines == (0 : Int) then true else decide (IntKind.wrap IntKind.i64 ((List.getD z_2 z_1 (Way.mk (0 : Int) (0 : Int) (0 : Int))).lines + (1 : Int)) < (List.getD z_5 i
  (Way.mk (0 : Int) (0 : Int) (0 : Int))).lines) then true else bif IntKind.wrap IntKind.i64 ((List.getD z_2 z_1 (Way.mk (0 : Int) (0 : Int) (0 : Int))).lines + (1 : Int))
  == (List.getD z_5 i (Way.mk (0 : Int) (0 : Int) (0 : Int))).lines then decide (IntKind.wrap IntKind.i64 ((List.getD z_4 z_3 (Way.mk (0 : Int) (0 : Int) (0 : Int))).sum +
  IntKind.wrap IntKind.i64 (IntKind.wrap IntKind.i64 (w - IntKind.wrap IntKind.i64 (long + IntKind.wrap IntKind.i64 ((1 : Int) + F.runes z))) * IntKind.wrap IntKind.i64 (w -
  IntKind.wrap IntKind.i64 (long + IntKind.wrap IntKind.i64 ((1 : Int) + F.runes z))))) ≤ (List.getD z_5 i (Way.mk (0 : Int) (0 : Int) (0 : Int))).sum) else false then bif
  decide (i < List.length (Blk.mk false 89 3 (List.map eWay best)).rows) then Option.bind (unenc (List.map eWay) (List.map eWay best)) fun (z_6 : List Way) => bif decide (i
  < List.length z_6) then some (Ex.normal, St.mk [(13, (vI (IntKind.wrap IntKind.i64 ((↑k : Int) + (1 : Int))))), (12, (vI (IntKind.wrap IntKind.i64 (long + IntKind.wrap
  IntKind.i64 ((1 : Int) + F.runes z))))), (11, (vI (↑i : Int))), (10, .own 43), (9, (vI (↑(List.length ws) : Int))), (8, AV.sl (List.map eStr ws)), (2, (vI r)), (1, (vI
  w))] [(43, Blk.mk false 89 3 (List.set (List.map eWay best) i [(vI (IntKind.wrap IntKind.i64 ((List.getD z_2 z_1 (Way.mk (0 : Int) (0 : Int) (0 : Int))).lines + (1 :
  Int)))), (vI (IntKind.wrap IntKind.i64 ((List.getD z_4 z_3 (Way.mk (0 : Int) (0 : Int) (0 : Int))).sum + IntKind.wrap IntKind.i64 (IntKind.wrap IntKind.i64 (w -
  IntKind.wrap IntKind.i64 (long + IntKind.wrap IntKind.i64 ((1 : Int) + F.runes z))) * IntKind.wrap IntKind.i64 (w - IntKind.wrap IntKind.i64 (long + IntKind.wrap
  IntKind.i64 ((1 : Int) + F.runes z))))))), (vI (IntKind.wrap IntKind.i64 ((↑k : Int) + (1 : Int))))]))]) else none else none else some (Ex.normal, St.mk [(13, (vI
  (IntKind.wrap IntKind.i64 ((↑k : Int) + (1 : Int))))), (12, (vI (IntKind.wrap IntKind.i64 (long + IntKind.wrap IntKind.i64 ((1 : Int) + F.runes z))))), (11, (vI (↑i :
  Int))), (10, .own 43), (9, (vI (↑(List.length ws) : Int))), (8, AV.sl (List.map eStr ws)), (2, (vI r)), (1, (vI w))] [(43, Blk.mk false 89 3 (List.map eWay best))]) else
  none else none else none else none else none else none else bif decide (IntKind.wrap IntKind.i64 ((↑k : Int) + (1 : Int)) < (↑(List.length ws) : Int)) then none else bif
  decide (IntKind.wrap IntKind.i64 ((↑k : Int) + (1 : Int)) < (↑(List.length ws) : Int)) then none else bif decide (IntKind.wrap IntKind.i64 ((↑k : Int) + (1 : Int)) <
  (↑(List.length ws) : Int)) then none else bif decide (IntKind.wrap IntKind.i64 ((↑k : Int) + (1 : Int)) < (↑(List.length ws) : Int)) then none else Option.bind (idx
  (IntKind.wrap IntKind.i64 ((↑k : Int) + (1 : Int)))) fun (z_1 : Nat) => bif decide (z_1 < List.length (Blk.mk false 89 3 (List.map eWay best)).rows) then Option.bind
  (unenc (List.map eWay) (List.map eWay best)) fun (z_2 : List Way) => bif decide (z_1 < List.length z_2) then Option.bind (idx (IntKind.wrap IntKind.i64 ((↑k : Int) + (1 :
  Int)))) fun (z_3 : Nat) => bif decide (z_3 < List.length (Blk.mk false 89 3 (List.map eWay best)).rows) then Option.bind (unenc (List.map eWay) (List.map eWay best)) fun
  (z_4 : List Way) => bif decide (z_3 < List.length z_4) then bif decide (i < List.length (Blk.mk false 89 3 (List.map eWay best)).rows) then Option.bind (unenc (List.map
  eWay) (List.map eWay best)) fun (z_5 : List Way) => bif decide (i < List.length z_5) then bif bif bif (List.getD z_5 i (Way.mk (0 : Int) (0 : Int) (0 : Int))).lines == (0
  : Int) then true else decide (IntKind.wrap IntKind.i64 ((List.getD z_2 z_1 (Way.mk (0 : Int) (0 : Int) (0 : Int))).lines + (1 : Int)) < (List.getD z_5 i (Way.mk (0 : Int)
  (0 : Int) (0 : Int))).lines) then true else bif IntKind.wrap IntKind.i64 ((List.getD z_2 z_1 (Way.mk (0 : Int) (0 : Int) (0 : Int))).lines + (1 : Int)) == (List.getD z_5 i
  (Way.mk (0 : Int) (0 : Int) (0 : Int))).lines then decide (IntKind.wrap IntKind.i64 ((List.getD z_4 z_3 (Way.mk (0 : Int) (0 : Int) (0 : Int))).sum + IntKind.wrap
  IntKind.i64 (IntKind.wrap IntKind.i64 (w - IntKind.wrap IntKind.i64 (long + IntKind.wrap IntKind.i64 ((1 : Int) + F.runes z))) * IntKind.wrap IntKind.i64 (w - IntKind.wrap
  IntKind.i64 (long + IntKind.wrap IntKind.i64 ((1 : Int) + F.runes z))))) ≤ (List.getD z_5 i (Way.mk (0 : Int) (0 : Int) (0 : Int))).sum) else false then bif decide (i <
  List.length (Blk.mk false 89 3 (List.map eWay best)).rows) then Option.bind (unenc (List.map eWay) (List.map eWay best)) fun (z_6 : List Way) => bif decide (i <
  List.length z_6) then some (Ex.normal, St.mk [(13, (vI (IntKind.wrap IntKind.i64 ((↑k : Int) + (1 : Int))))), (12, (vI (IntKind.wrap IntKind.i64 (long + IntKind.wrap
  IntKind.i64 ((1 : Int) + F.runes z))))), (11, (vI (↑i : Int))), (10, .own 43), (9, (vI (↑(List.length ws) : Int))), (8, AV.sl (List.map eStr ws)), (2, (vI r)), (1, (vI
  w))] [(43, Blk.mk false 89 3 (List.set (List.map eWay best) i [(vI (IntKind.wrap IntKind.i64 ((List.getD z_2 z_1 (Way.mk (0 : Int) (0 : Int) (0 : Int))).lines + (1 :
  Int)))), (vI (IntKind.wrap IntKind.i64 ((List.getD z_4 z_3 (Way.mk (0 : Int) (0 : Int) (0 : Int))).sum + IntKind.wrap IntKind.i64 (IntKind.wrap IntKind.i64 (w -
  IntKind.wrap IntKind.i64 (long + IntKind.wrap IntKind.i64 ((1 : Int) + F.runes z))) * IntKind.wrap IntKind.i64 (w - IntKind.wrap IntKind.i64 (long + IntKind.wrap
  IntKind.i64 ((1 : Int) + F.runes z))))))), (vI (IntKind.wrap IntKind.i64 ((↑k : Int) + (1 : Int))))]))]) else none else none else some (Ex.normal, St.mk [(13, (vI
  (IntKind.wrap IntKind.i64 ((↑k : Int) + (1 : Int))))), (12, (vI (IntKind.wrap IntKind.i64 (long + IntKind.wrap IntKind.i64 ((1 : Int) + F.runes z))))), (11, (vI (↑i :
  Int))), (10, .own 43), (9, (vI (↑(List.length ws) : Int))), (8, AV.sl (List.map eStr ws)), (2, (vI r)), (1, (vI w))] [(43, Blk.mk false 89 3 (List.map eWay best))]) else
  none else none else none else none else none else none else none else none else some (Ex.exit (3 : Nat), St.mk [(11, (vI (↑i : Int))), (10, .own 43), (9, (vI
  (↑(List.length ws) : Int))), (8, AV.sl (List.map eStr ws)), (2, (vI r)), (1, (vI w))] [(43, Blk.mk false 89 3 (List.map eWay best))]) := by kernel_rfl

theorem lpBk2_ok (ws : List ByteArray) (w : Int) (r : Int) (best : List Way) (i : Nat) (long : Int) (k : Nat) (hp : prlBk2 ws w r best i long k = true) : ∀ ex s', (outBk2 ws w r best i long k).val = some (ex, s') → LoopOK enBk (loopN Tryz.f21 1) (stBk2 ws w r best i long k) ex s' := by
  simp only [prlBk2, Bool.and_eq_true, decide_eq_true_eq] at hp
  obtain ⟨⟨⟨⟨⟨h1, h2⟩, h3⟩, h4⟩, h5⟩, h6⟩ := hp
  refine loop_gen (st := fun a : List Way × Int × Nat => stBk2 ws w r a.1 i a.2.1 a.2.2) (out := fun a => outBk2 ws w r a.1 i a.2.1 a.2.2) (I := fun a => a.1.length = ws.length + 1 ∧ i ≤ a.2.2 ∧ a.2.2 ≤ ws.length) (n := ([13, 12, 11, 10, 9, 8, 2, 1], [43])) (e := ([11, 10, 9, 8, 2, 1], [43])) (r := ([], [])) (fun a => ws.length - a.2.2) ?_ (best, long, k) ⟨h3, h5, h6⟩
  rintro ⟨best, long, k⟩ ⟨hb, hk1, hk2⟩
  simp only at hb hk1 hk2
  have hib : i < best.length := by omega
  by_cases hlt : k < ws.length
  · have hy : ws[k]? = some ws[k] := List.getElem?_eq_getElem hlt
    generalize ws[k] = y at hy
    obtain ⟨b, hbk, hd⟩ := F.brP_at hb hy
    have hlb := lt_at hbk
    have hsm : decide (y.size ≤ 4294967280) = true := F.smL_at h2 (List.mem_of_getElem? hy)
    have hnl : ((F.brP ws best).drop (k + 1)).isEmpty = decide (¬ k + 1 < ws.length) := by
      by_cases hh : k + 1 < ws.length
      · have : (F.brP ws best).drop (k + 1) ≠ [] := by
          intro e
          have := congrArg List.length e
          rw [List.length_drop, F.brP_len hb] at this
          simp at this; omega
        simp [hh, this]
      · have : (F.brP ws best).drop (k + 1) = [] := List.drop_eq_nil_of_le (by rw [F.brP_len hb]; omega)
        rw [this]; simp [hh]
    have hi : best[i]? = some (best.getD i default) := by simp [List.getD, List.getElem?_eq_getElem hib]
    generalize hcur : best.getD i default = cur at hi
    have e1 : idx (IntKind.i64.wrap ((k : Int) + 1)) = some (k + 1) := by rw [next_at hlt (by omega)]; rfl
    have e2 : decide (IntKind.i64.wrap ((k : Int) + 1) < (ws.length : Int)) = decide (k + 1 < ws.length) := by
      rw [next_at hlt (by omega)]; exact cast_gt _ _
    cases hw : F.lt w (F.brN long (F.runes y))
    · have hw' : decide (w < IntKind.i64.wrap (long + IntKind.i64.wrap (1 + F.runes y))) = false := hw
      right
      cases hz : (decide (k + 1 < ws.length) && (b.lines == 0))
      · have hz' : (!((F.brP ws best).drop (k + 1)).isEmpty && (b.lines == 0)) = false := by
          rw [hnl]
          by_cases hh : k + 1 < ws.length
          · rw [decide_eq_true hh] at hz; simp only [hh]; simpa using hz
          · simp [hh]
        refine ⟨(best.set i (F.wayB cur (F.brX w (F.brN long (F.runes y)) b k)), F.brN long (F.runes y), k + 1), ?_, rfl, ⟨by simp only [List.length_set]; exact hb, by simp only; omega, hlt⟩, by simp only; omega, ?_⟩
        · rw [evBk2L]
          simp only [unOut, unCle, unCnt, unSpl, unJoi, unRun, preOut1, preCle1, preCnt1, preSpl1, preJoi1, preRun1, unstBk1, unstBk2, unstBk3, unstBk30, prlBk1, prlBk2, prlBk3, outBk1, outBk2, outBk3, etaCap, etaMch, etaWrd, etaFnd, etaRatio, etaWay, Option.bind_some, List.length_map, unStrs, unInts, unBools, uneL_eIs, unCaps, uneL_eCaps, unMchs, unWrds, unFnds, unRatios, unWays, F.lt, F.le, cond_true, cond_false, Bool.and_true, Bool.true_and, cast_lt hlt, decide_eq_true hlt, getD_at hy, hsm, e1, e2, getD_at hbk, decide_eq_true hlb, decide_eq_true hib, getD_at hi, idx_nat]
          have hsame : best.set i cur = best := by rw [← hcur]; exact F.set_self hib
          simp only [hw', next_at hlt (by omega : ws.length ≤ 9223372036854775807), setWWays, F.wayB, F.brX, F.brN, F.lt, F.le]
          generalize decide (k + 1 < ws.length) = d at hz ⊢
          generalize (b.lines == 0) = z at hz ⊢
          generalize (cur.lines == 0) = c1
          generalize decide (IntKind.i64.wrap (b.lines + 1) < cur.lines) = c2
          generalize (IntKind.i64.wrap (b.lines + 1) == cur.lines) = c3
          generalize decide (_ ≤ cur.sum) = c4
          cases c1 <;> cases c2 <;> cases c3 <;> cases c4 <;> cases d <;> cases z <;> first | rfl | (cases hz; done) | (simp only [cond_true, cond_false, Bool.or_self, Bool.false_or, Bool.and_self, Bool.and_false, Bool.false_and, Bool.true_and, hsame]; rfl)
        · simp only [outBk2, hd, F.brK, hw, cond_false, hz', hcur]
          rw [F.brP_set (by omega), F.set_get hib, List.set_set]
      · have hz' : (!((F.brP ws best).drop (k + 1)).isEmpty && (b.lines == 0)) = true := by
          rw [hnl]
          simp only [Bool.and_eq_true, decide_eq_true_eq] at hz
          simp [hz.1, hz.2]
        have hz1 := (Bool.and_eq_true _ _ ▸ hz : _ ∧ _)
        refine ⟨(best, F.brN long (F.runes y), k + 1), ?_, rfl, ⟨hb, by simp only; omega, hlt⟩, by simp only; omega, ?_⟩
        · rw [evBk2L]
          simp only [unOut, unCle, unCnt, unSpl, unJoi, unRun, preOut1, preCle1, preCnt1, preSpl1, preJoi1, preRun1, unstBk1, unstBk2, unstBk3, unstBk30, prlBk1, prlBk2, prlBk3, outBk1, outBk2, outBk3, etaCap, etaMch, etaWrd, etaFnd, etaRatio, etaWay, Option.bind_some, List.length_map, unStrs, unInts, unBools, uneL_eIs, unCaps, uneL_eCaps, unMchs, unWrds, unFnds, unRatios, unWays, F.lt, F.le, cond_true, cond_false, Bool.and_true, Bool.true_and, cast_lt hlt, decide_eq_true hlt, getD_at hy, hsm, e1, e2, getD_at hbk, decide_eq_true hlb]
          rw [hw', hz1.1, hz1.2, next_at hlt (by omega)]
          rfl
        · simp only [outBk2, hd, F.brK, hw, cond_false, hz', cond_true]
    · left
      refine ⟨(.exit 3, ⟨[(11, vI i), (10, .own 43), (9, vI ws.length), (8, .sl (ws.map eStr)), (2, vI r), (1, vI w)], [(43, ⟨false, 89, 3, best.map eWay⟩)]⟩), ?_, ?_, by simp, rfl⟩
      · have hw' : decide (w < IntKind.i64.wrap (long + IntKind.i64.wrap (1 + F.runes y))) = true := hw
        rw [evBk2L]
        simp only [unOut, unCle, unCnt, unSpl, unJoi, unRun, preOut1, preCle1, preCnt1, preSpl1, preJoi1, preRun1, unstBk1, unstBk2, unstBk3, unstBk30, prlBk1, prlBk2, prlBk3, outBk1, outBk2, outBk3, etaCap, etaMch, etaWrd, etaFnd, etaRatio, etaWay, Option.bind_some, List.length_map, unStrs, unInts, unBools, uneL_eIs, unCaps, uneL_eCaps, unMchs, unWrds, unFnds, unRatios, unWays, F.lt, F.le, cond_true, cond_false, Bool.and_true, Bool.true_and, cast_lt hlt, decide_eq_true hlt, getD_at hy, hsm]
        rw [hw']
        rfl
      · simp only [outBk2, hd, F.brK, hw, cond_true]
        rw [F.set_self hib]
        rfl
  · have : k = ws.length := by omega
    subst this
    left
    refine ⟨(.exit 3, ⟨[(11, vI i), (10, .own 43), (9, vI ws.length), (8, .sl (ws.map eStr)), (2, vI r), (1, vI w)], [(43, ⟨false, 89, 3, best.map eWay⟩)]⟩), ?_, ?_, by simp, rfl⟩
    · rw [evBk2L]; simp
    · have : (F.brP ws best).drop ws.length = [] := List.drop_eq_nil_of_le (by rw [F.brP_len hb]; exact Nat.le_refl _)
      simp only [outBk2, this, F.brK]
      rw [F.set_self hib]
      rfl

theorem evBk1L (ws : List ByteArray) (w : Int) (r : Int) (best : List Way) (i : Int) : ((exec enBk (loopN Tryz.f21 0) (stBk1 ws w r best i)).bind (lessX ([11, 10, 9, 8, 2, 1], [43]) ([10, 9, 8, 2], [43]) ([], []))).val =
  bif decide ((0 : Int) ≤ i) then Option.bind (unenc stBk21 (St.mk [(13, (vI i)), (12, (vI (-1 : Int))), (11, (vI i)), (10, .own 43), (9, (vI (↑(List.length ws) : Int))),
  (8, AV.sl (List.map eStr ws)), (2, (vI r)), (1, (vI w))] [(43, Blk.mk false 89 3 (List.map eWay best))])) fun (z : List ByteArray × Int × Int × List Way × Nat × Int × Nat)
  => bif decide (List.length z.fst ≤ (100000 : Nat)) && F.smL z.fst && decide (List.length z.snd.snd.snd.fst = List.length z.fst + (1 : Nat)) && decide
  (z.snd.snd.snd.snd.fst < List.length z.fst) && decide (z.snd.snd.snd.snd.fst ≤ z.snd.snd.snd.snd.snd.snd) && decide (z.snd.snd.snd.snd.snd.snd ≤ List.length z.fst) && true
  then some (Ex.normal, St.mk [(11, (vI (IntKind.wrap IntKind.i64 ((↑z.snd.snd.snd.snd.fst : Int) - (1 : Int))))), (10, .own 43), (9, (vI (↑(List.length z.fst) : Int))), (8,
  AV.sl (List.map eStr z.fst)), (2, (vI z.snd.snd.fst)), (1, (vI z.snd.fst))] [(43, Blk.mk false 89 3 (List.map eWay (List.set z.snd.snd.snd.fst z.snd.snd.snd.snd.fst (F.brK
  z.snd.fst (List.drop z.snd.snd.snd.snd.snd.snd (F.brP z.fst z.snd.snd.snd.fst)) z.snd.snd.snd.snd.snd.snd z.snd.snd.snd.snd.snd.fst (List.getD z.snd.snd.snd.fst
  z.snd.snd.snd.snd.fst (Way.mk (0 : Int) (0 : Int) (0 : Int)))))))]) else none else some (Ex.exit (1 : Nat), St.mk [(10, .own 43), (9, (vI (↑(List.length ws) : Int))), (8,
  AV.sl (List.map eStr ws)), (2, (vI r))] [(43, Blk.mk false 89 3 (List.map eWay best))]) := by kernel_rfl

theorem lpBk1_ok (ws : List ByteArray) (w : Int) (r : Int) (best : List Way) (i : Int) (hp : prlBk1 ws w r best i = true) : ∀ ex s', (outBk1 ws w r best i).val = some (ex, s') → LoopOK enBk (loopN Tryz.f21 0) (stBk1 ws w r best i) ex s' := by
  simp only [prlBk1, Bool.and_eq_true, decide_eq_true_eq] at hp
  obtain ⟨⟨⟨⟨h1, h2⟩, h3⟩, h4⟩, h5⟩ := hp
  refine loop_gen (st := fun a : List Way × Int => stBk1 ws w r a.1 a.2) (out := fun a => outBk1 ws w r a.1 a.2) (I := fun a => a.1.length = ws.length + 1 ∧ -1 ≤ a.2 ∧ a.2 < ws.length) (n := ([11, 10, 9, 8, 2, 1], [43])) (e := ([10, 9, 8, 2], [43])) (r := ([], [])) (fun a => (a.2 + 1).toNat) ?_ (best, i) ⟨h5, h2, h3⟩
  rintro ⟨best, i⟩ ⟨hb, hi1, hi2⟩
  simp only at hb hi1 hi2
  by_cases hi : 0 ≤ i
  · obtain ⟨j, rfl⟩ := Int.eq_ofNat_of_zero_le hi
    right
    refine ⟨(best.set j (F.brK w ((F.brP ws best).drop j) j (-1) (best.getD j default)), (j : Int) - 1), ?_, rfl, ⟨by simp only [List.length_set]; exact hb, by simp only; omega, by simp only; omega⟩, by simp only; omega, ?_⟩
    · have d1 : decide ((0 : Int) ≤ (j : Int)) = true := decide_eq_true hi
      have d2 : decide (ws.length ≤ 100000) = true := decide_eq_true h1
      have d3 : decide (best.length = ws.length + 1) = true := decide_eq_true hb
      have d4 : decide (j < ws.length) = true := decide_eq_true (by omega)
      have d5 : decide (j ≤ j) = true := decide_eq_true (Nat.le_refl _)
      have d6 : decide (j ≤ ws.length) = true := decide_eq_true (by omega)
      have d7 : IntKind.i64.wrap ((j : Int) - 1) = (j : Int) - 1 := wrap_id (by omega) (by omega)
      rw [evBk1L]
      simp only [unOut, unCle, unCnt, unSpl, unJoi, unRun, preOut1, preCle1, preCnt1, preSpl1, preJoi1, preRun1, unstBk1, unstBk2, unstBk3, unstBk30, prlBk1, prlBk2, prlBk3, outBk1, outBk2, outBk3, etaCap, etaMch, etaWrd, etaFnd, etaRatio, etaWay, Option.bind_some, List.length_map, unStrs, unInts, unBools, uneL_eIs, unCaps, uneL_eCaps, unMchs, unWrds, unFnds, unRatios, unWays, F.lt, F.le, cond_true, cond_false, Bool.and_true, Bool.true_and, d1, d2, d3, d4, d5, d6, d7, h4, Bool.and_self]
      rfl
    · simp only [outBk1]
      rw [show ((j : Int) - 1 + 1).toNat = j by omega, show ((j : Int) + 1).toNat = j + 1 by omega]
      rfl
  · have : i = -1 := by omega
    subst this
    left
    refine ⟨(.exit 1, ⟨[(10, .own 43), (9, vI ws.length), (8, .sl (ws.map eStr)), (2, vI r)], [(43, ⟨false, 89, 3, best.map eWay⟩)]⟩), ?_, ?_, by simp, rfl⟩
    · rw [evBk1L]
      rfl
    · rfl

theorem evBk3L (ws : List ByteArray) (best : List Way) (i : Nat) (out : List ByteArray) : ((exec enBk (loopN Tryz.f21 2) (stBk3 ws best i out)).bind (lessX ([17, 16, 10, 9, 8], [43, 16]) ([16], [43, 16]) ([], []))).val =
  bif decide ((↑i : Int) < (↑(List.length ws) : Int)) then bif decide (i < List.length (Blk.mk false 89 3 (List.map eWay best)).rows) then Option.bind (unenc (List.map eWay)
  (List.map eWay best)) fun (z : List Way) => bif decide (i < List.length z) then Option.bind (idx (List.getD z i (Way.mk (0 : Int) (0 : Int) (0 : Int))).next) fun (z : Nat)
  => bif Nat.ble i z && Nat.ble z (List.length (List.map eStr ws)) && List.all (List.map eStr ws) fun (r : Row) => Nat.beq (List.length r) (1 : Nat) then Option.bind (unenc
  encJoi [AV.sl (List.drop i (List.take z (List.map eStr ws))), (vS (ByteArray.mk (Array.mk [(32 : UInt8)])))]) fun (z : List ByteArray × ByteArray) => bif decide
  (ByteArray.size (F.join z.fst z.snd) ≤ (140737488355328 : Nat)) && decide (List.length z.fst ≤ (140737488355328 : Nat)) then bif Nat.ble ((List.length (List.map eStr out)
  + (1 : Nat)) * (16 : Nat)) (140737488355328 : Nat) && true then bif decide (i < List.length (Blk.mk false 89 3 (List.map eWay best)).rows) then Option.bind (unenc
  (List.map eWay) (List.map eWay best)) fun (z_1 : List Way) => bif decide (i < List.length z_1) then some (Ex.normal, St.mk [(17, (vI (List.getD z_1 i (Way.mk (0 : Int) (0
  : Int) (0 : Int))).next)), (16, .own 16), (10, .own 43), (9, (vI (↑(List.length ws) : Int))), (8, AV.sl (List.map eStr ws))] [(43, Blk.mk false 89 3 (List.map eWay best)),
  (16, Blk.mk false 9 1 (List.map eStr out ++ [[(vS (F.join z.fst z.snd))]]))]) else none else none else none else none else none else none else none else some (Ex.exit (5 :
  Nat), St.mk [(16, .own 16)] [(43, Blk.mk false 89 3 (List.map eWay best)), (16, Blk.mk false 9 1 (List.map eStr out))]) := by kernel_rfl

theorem lpBk3_ok (ws : List ByteArray) (best : List Way) (i : Nat) (out : List ByteArray) (hp : prlBk3 ws best i out = true) : ∀ ex s', (outBk3 ws best i out).val = some (ex, s') → LoopOK enBk (loopN Tryz.f21 2) (stBk3 ws best i out) ex s' := by
  simp only [prlBk3, Bool.and_eq_true, decide_eq_true_eq] at hp
  simp only [Bool.and_eq_true, Bool.or_eq_true, decide_eq_true_eq] at hp
  obtain ⟨⟨⟨⟨⟨⟨h1, h2⟩, h3⟩, h4⟩, h5⟩, h6⟩, h7⟩ := hp
  have hw := F.waysB_iff.1 h6
  refine loop_gen (st := fun a : Nat × List ByteArray => stBk3 ws best a.1 a.2) (out := fun a => outBk3 ws best a.1 a.2) (I := fun a => a.1 ≤ ws.length ∧ a.2.length ≤ a.1 ∧ (a.1 = ws.length ∨ F.ne0 (best.getD a.1 default).lines = true)) (n := ([17, 16, 10, 9, 8], [43, 16])) (e := ([16], [43, 16])) (r := ([], [])) (fun a => ws.length - a.1) ?_ (i, out) ⟨h4, h5, h7⟩
  rintro ⟨i, out⟩ ⟨h4, h5, h7⟩
  simp only at h4 h5 h7
  by_cases hlt : i < ws.length
  · have hz := F.ne0_iff.1 (h7.resolve_left (by omega))
    obtain ⟨k, hk, k1, k2, k3⟩ := F.way_at hw hlt hz
    have hib : i < best.length := by omega
    have hd : (Way.mk 0 0 0) = (default : Way) := rfl
    have hs := F.join_le ((ws.take k).drop i)
    have hs2 := F.sum_sub ws k i
    right
    refine ⟨(k, out ++ [F.join ((ws.take k).drop i) F.sp]), ?_, rfl, ⟨k2, by simp; omega, k3.imp id F.ne0_iff.2⟩, by simp only; omega, ?_⟩
    · have e2 : (List.all (ws.map eStr) fun (r : Row) => Nat.beq r.length 1) = true := by simp [eStr]
      have e3 : List.drop i (List.take k (ws.map eStr)) = ((ws.take k).drop i).map eStr := by rw [List.map_drop, List.map_take]
      have d1 : decide (((F.join ((ws.take k).drop i) ⟨⟨[32]⟩⟩).size) ≤ 140737488355328) = true := decide_eq_true (by show (F.join _ F.sp).size ≤ _; omega)
      have d2 : decide (((ws.take k).drop i).length ≤ 140737488355328) = true := decide_eq_true (by simp; omega)
      have d3 : Nat.ble ((out.length + 1) * 16) 140737488355328 = true := ble_t (by omega)
      have d4 : Nat.ble i k = true := ble_t (by omega)
      have d5 : Nat.ble k ws.length = true := ble_t (by omega)
      rw [evBk3L]
      simp only [unOut, unCle, unCnt, unSpl, unJoi, unRun, preOut1, preCle1, preCnt1, preSpl1, preJoi1, preRun1, unstBk1, unstBk2, unstBk3, unstBk30, prlBk1, prlBk2, prlBk3, outBk1, outBk2, outBk3, etaCap, etaMch, etaWrd, etaFnd, etaRatio, etaWay, Option.bind_some, List.length_map, unStrs, unInts, unBools, uneL_eIs, unCaps, uneL_eCaps, unMchs, unWrds, unFnds, unRatios, unWays, F.lt, F.le, cond_true, cond_false, Bool.and_true, Bool.true_and, cast_lt hlt, decide_eq_true hib, hd, hk, idx_nat, e2, e3, d1, d2, d3, d4, d5]
      simp only [F.sp, stBk3, List.map_append]
      rfl
    · simp only [outBk3, F.brO_step hw hlt hz hk, List.append_assoc, List.singleton_append]
  · have : i = ws.length := by omega
    subst this
    left
    refine ⟨(.exit 5, ⟨[(16, .own 16)], [(43, ⟨false, 89, 3, best.map eWay⟩), (16, ⟨false, 9, 1, out.map eStr⟩)]⟩), ?_, ?_, by simp, rfl⟩
    · rw [evBk3L]; simp
    · simp only [outBk3, F.brO_end, List.append_nil]
      rfl

end M
end Go.Proofs.YthcfbeckhgngiaaGreatDoor
