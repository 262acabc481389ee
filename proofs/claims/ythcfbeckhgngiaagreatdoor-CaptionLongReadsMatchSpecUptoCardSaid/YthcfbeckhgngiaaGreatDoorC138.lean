/- What is proved here: ReadLong of the reference (no statement of the seat). -/
import Derived.Test.YthcfbeckhgngiaaGreatDoorC137
namespace Go.Proofs.YthcfbeckhgngiaaGreatDoor
open Go Go.RowKit
set_option linter.unusedVariables false
set_option linter.unusedSimpArgs false

namespace M

def oCr (ls : List ByteArray) : AV := match ls with
  | [] => .e0
  | _ :: _ => .own 110

def oBr (ls : List ByteArray) (h : Heap) : Heap := match ls with
  | [] => h
  | _ :: _ => (110, ⟨false, 9, 1, ls.map eStr⟩) :: h

def stRli (L : List ByteArray) (out : List Cap) (fr : Int) (tt : Int) (ro : Int) (be : Bool) (af : Bool) (first : Nat) (a : Nat) : St := ⟨[(11, vI first), (8, .ptr 8 0 0), (7, vI a), (6, .own 6), (5, .sl (L.map eStr))], [(8, ⟨true, 0, 0, [[vI fr, vI tt, .e0, vI ro, vB be, vB af]]⟩), (6, ⟨false, 41, 6, out.map eCap⟩)]⟩

def stRli1 (a : (List ByteArray) × (List Cap) × Int × Int × Int × Bool × Bool × Nat × Nat) : St := stRli a.1 a.2.1 a.2.2.1 a.2.2.2.1 a.2.2.2.2.1 a.2.2.2.2.2.1 a.2.2.2.2.2.2.1 a.2.2.2.2.2.2.2.1 a.2.2.2.2.2.2.2.2

theorem stRli_inj (a a' : (List ByteArray) × (List Cap) × Int × Int × Int × Bool × Bool × Nat × Nat) (h : stRli1 a = stRli1 a') : a = a' := by
  simp only [stRli1, stRli] at h
  try simp [strs_inj, ints_inj, bools_inj, eL_eIs_inj, eCaps_inj, eCap_iff, eL_eCaps_inj, eMchs_inj, eMch_iff, eWrds_inj, eWrd_iff, eFnds_inj, eFnd_iff, eRatios_inj, eRatio_iff, eWays_inj, eWay_iff] at h
  grind

theorem unstRli (L : List ByteArray) (out : List Cap) (fr : Int) (tt : Int) (ro : Int) (be : Bool) (af : Bool) (first : Nat) (a : Nat) : unenc stRli1 (St.mk [(11, (vI (↑first : Int))), (8, .ptr 8 0 0), (7, (vI (↑a : Int))), (6, .own 6), (5, AV.sl (List.map eStr L))] [(8, Blk.mk true 0 0 [[(vI fr), (vI tt), AV.e0, (vI
  ro), (vB be), (vB af)]]), (6, Blk.mk false 41 6 (List.map eCap out))]) = some (L, out, fr, tt, ro, be, af, first, a) := unenc_of stRli_inj (L, out, fr, tt, ro, be, af, first, a) rfl

def outRli (L : List ByteArray) (out : List Cap) (fr : Int) (tt : Int) (ro : Int) (be : Bool) (af : Bool) (first : Nat) (a : Nat) : T (Ex × St) := .ifB (F.scanP (L.drop a) [] a).1
      (.ifB (F.isEp (F.scanP (L.drop a) [] a).2.1)
        (.ret (.exit 2, ⟨[(11, vI first), (8, .ptr 8 0 0), (7, vI (F.scanP (L.drop a) [] a).2.2), (6, .own 6), (5, .sl (L.map eStr))], [(8, ⟨true, 0, 0, [[vI fr, vI tt, .e0, vI ro, vB be, vB af]]⟩), (6, ⟨false, 41, 6, out.map eCap⟩)]⟩))
        (.ret (.exit 2, ⟨[(11, vI first), (8, .ptr 8 0 0), (7, vI (F.scanP (L.drop a) [] a).2.2), (6, .own 6), (5, .sl (L.map eStr))], [(110, ⟨false, 9, 1, (F.scanP (L.drop a) [] a).2.1.map eStr⟩), (8, ⟨true, 0, 0, [[vI fr, vI tt, .own 110, vI ro, vB be, vB af]]⟩), (6, ⟨false, 41, 6, out.map eCap⟩)]⟩)))
      (.ret (.ret, ⟨[(4, vI 10), (3, vI (F.scanP (L.drop a) [] a).2.2), (2, .own 2)], [(2, ⟨false, 41, 6, []⟩)]⟩))

noncomputable def prlRli (L : List ByteArray) (out : List Cap) (fr : Int) (tt : Int) (ro : Int) (be : Bool) (af : Bool) (first : Nat) (a : Nat) : Bool := F.linesOk L && decide (a ≤ 200001)

noncomputable def lpRli : Nat × (St → T (Ex × St)) := (19, lpo [11, 8, 7, 6, 5] [8, 6] stRli1 (fun a => prlRli a.1 a.2.1 a.2.2.1 a.2.2.2.1 a.2.2.2.2.1 a.2.2.2.2.2.1 a.2.2.2.2.2.2.1 a.2.2.2.2.2.2.2.1 a.2.2.2.2.2.2.2.2) fun a => outRli a.1 a.2.1 a.2.2.1 a.2.2.2.1 a.2.2.2.2.1 a.2.2.2.2.2.1 a.2.2.2.2.2.2.1 a.2.2.2.2.2.2.2.1 a.2.2.2.2.2.2.2.2)

def outRx (L : List ByteArray) (out : List Cap) (fr : Int) (tt : Int) (ro : Int) (be : Bool) (af : Bool) (first : Nat) (ls : List ByteArray) (a : Nat) : T (Ex × St) := .ifB (F.scanP (L.drop a) ls a).1
      (.ifB (F.isEp (F.scanP (L.drop a) ls a).2.1)
        (.ret (.exit 2, ⟨[(11, vI first), (8, .ptr 8 0 0), (7, vI (F.scanP (L.drop a) ls a).2.2), (6, .own 6), (5, .sl (L.map eStr))], [(8, ⟨true, 0, 0, [[vI fr, vI tt, .e0, vI ro, vB be, vB af]]⟩), (6, ⟨false, 41, 6, out.map eCap⟩)]⟩))
        (.ret (.exit 2, ⟨[(11, vI first), (8, .ptr 8 0 0), (7, vI (F.scanP (L.drop a) ls a).2.2), (6, .own 6), (5, .sl (L.map eStr))], [(110, ⟨false, 9, 1, (F.scanP (L.drop a) ls a).2.1.map eStr⟩), (8, ⟨true, 0, 0, [[vI fr, vI tt, .own 110, vI ro, vB be, vB af]]⟩), (6, ⟨false, 41, 6, out.map eCap⟩)]⟩)))
      (.ret (.ret, ⟨[(4, vI 10), (3, vI (F.scanP (L.drop a) ls a).2.2), (2, .own 2)], [(2, ⟨false, 41, 6, []⟩)]⟩))

def stRx (L : List ByteArray) (out : List Cap) (fr : Int) (tt : Int) (ro : Int) (be : Bool) (af : Bool) (first : Nat) (ls : List ByteArray) (a : Nat) : St := ⟨[(11, vI first), (8, .ptr 8 0 0), (7, vI a), (6, .own 6), (5, .sl (L.map eStr))], oBr ls [(8, ⟨true, 0, 0, [[vI fr, vI tt, oCr ls, vI ro, vB be, vB af]]⟩), (6, ⟨false, 41, 6, out.map eCap⟩)]⟩

def stRs (L : List ByteArray) (out : List Cap) (fr : Int) (tt : Int) (ro : Int) (be : Bool) (af : Bool) (first : Nat) (ls : List ByteArray) (a : Nat) : St := ⟨[(11, vI first), (8, .ptr 8 0 0), (7, vI a), (6, .own 6), (5, .sl (L.map eStr))], [(110, ⟨false, 9, 1, ls.map eStr⟩), (8, ⟨true, 0, 0, [[vI fr, vI tt, .own 110, vI ro, vB be, vB af]]⟩), (6, ⟨false, 41, 6, out.map eCap⟩)]⟩

theorem stRx_snoc (L : List ByteArray) (out : List Cap) (fr : Int) (tt : Int) (ro : Int) (be : Bool) (af : Bool) (first : Nat) (ls : List ByteArray) (y : ByteArray) (a : Nat) : stRx L out fr tt ro be af first (ls ++ [y]) a = stRs L out fr tt ro be af first (ls ++ [y]) a := by
  cases ls <;> rfl

def stRlg (L : List ByteArray) (out : List Cap) (a : Nat) : St := ⟨[(7, vI a), (6, .own 6), (5, .sl (L.map eStr))], [(6, ⟨false, 41, 6, out.map eCap⟩)]⟩

def stRlg1 (a : (List ByteArray) × (List Cap) × Nat) : St := stRlg a.1 a.2.1 a.2.2

theorem stRlg_inj (a a' : (List ByteArray) × (List Cap) × Nat) (h : stRlg1 a = stRlg1 a') : a = a' := by
  simp only [stRlg1, stRlg] at h
  try simp [strs_inj, ints_inj, bools_inj, eL_eIs_inj, eCaps_inj, eCap_iff, eL_eCaps_inj, eMchs_inj, eMch_iff, eWrds_inj, eWrd_iff, eFnds_inj, eFnd_iff, eRatios_inj, eRatio_iff, eWays_inj, eWay_iff] at h
  grind

theorem unstRlg (L : List ByteArray) (out : List Cap) (a : Nat) : unenc stRlg1 (St.mk [(7, (vI (↑a : Int))), (6, .own 6), (5, AV.sl (List.map eStr L))] [(6, Blk.mk false 41 6 (List.map eCap out))]) = some (L, out, a) := unenc_of stRlg_inj (L, out, a) rfl

theorem unstRlg0 (L : List ByteArray) (a : Nat)  : unenc stRlg1 (St.mk [(7, (vI (↑a : Int))), (6, .own 6), (5, AV.sl (List.map eStr L))] [(6, Blk.mk false 41 6 [])]) = some (L, [], a) := unenc_of stRlg_inj (L, [], a) rfl

def outRlg (L : List ByteArray) (out : List Cap) (a : Nat) : T (Ex × St) := .ifB (F.lgL L (L.length + 1 - a) out a).1
      (.ret (.exit 0, ⟨[(6, .own 6)], [(6, ⟨false, 41, 6, (F.lgL L (L.length + 1 - a) out a).2.1.map eCap⟩)]⟩))
      (.ret (.ret, ⟨[(4, vI 10), (3, vI (F.lgL L (L.length + 1 - a) out a).2.2), (2, .own 2)], [(2, ⟨false, 41, 6, []⟩)]⟩))

noncomputable def prlRlg (L : List ByteArray) (out : List Cap) (a : Nat) : Bool := F.linesOk L && decide (a ≤ 200001) && decide (out.length ≤ a)

noncomputable def lpRlg : Nat × (St → T (Ex × St)) := (10, lpo [7, 6, 5] [6] stRlg1 (fun a => prlRlg a.1 a.2.1 a.2.2) fun a => outRlg a.1 a.2.1 a.2.2)

noncomputable def enRLg : Env := envH ty noG lks [oRSp, oEmy, oRpl, oRhC] [oRRh, oRMk] [] [lpRlg, lpRli]

theorem enRLg_ok : EnvOK Tryz.prog enRLg := by
  refine envH_ok lks_ok ty_ok ?_ ?_
  · simp only [List.forall_mem_cons]
    exact ⟨okRSp, okEmy, okRpl, okRhC, by simp⟩
  · simp only [List.forall_mem_cons]
    exact ⟨okRRh, okRMk, by simp⟩

theorem evRliN (L : List ByteArray) (out : List Cap) (fr : Int) (tt : Int) (ro : Int) (be : Bool) (af : Bool) (first : Nat) (a : Nat) : ((exec enRLg (loopN Tryz.f6 1) (stRli L out fr tt ro be af first a)).bind (lessX ([11, 8, 7, 6, 5], [110, 8, 6]) ([11, 8, 7, 6, 5], [110, 8, 6]) ([4, 3, 2], [2]))).val =
  bif decide ((↑a : Int) < (↑(List.length (List.map eStr L)) : Int)) then Option.bind (unenc (List.map eStr) (List.map eStr L)) fun (z : List ByteArray) => bif decide (a <
  List.length z) then bif !ByteArray.toList (List.getD z a (ByteArray.mk (Array.mk []))) == ByteArray.toList (ByteArray.mk (Array.mk [])) then Option.bind (unenc (List.map
  eStr) (List.map eStr L)) fun (z : List ByteArray) => bif decide (a < List.length z) then Option.bind (unenc encRpl [(vS (List.getD z a (ByteArray.mk (Array.mk []))))]) fun
  (z : ByteArray) => bif F.small z then bif !(F.plG z && F.line (F.plV z)) then some (Ex.ret, St.mk [(4, (vI (10 : Int))), (3, (vI (IntKind.wrap IntKind.i64 ((↑a : Int) + (1
  : Int))))), (2, .own 2)] [(2, Blk.mk false 41 6 [])]) else some (Ex.normal, St.mk [(11, (vI (↑first : Int))), (8, .ptr 8 0 0), (7, (vI (IntKind.wrap IntKind.i64 ((↑a :
  Int) + (1 : Int))))), (6, .own 6), (5, AV.sl (List.map eStr L))] [(110, Blk.mk false 9 1 [[(vS (F.plV z))]]), (8, Blk.mk true 0 0 [[(vI fr), (vI tt), .own 110, (vI ro),
  (vB be), (vB af)]]), (6, Blk.mk false 41 6 (List.map eCap out))]) else none else none else some (Ex.exit (2 : Nat), St.mk [(11, (vI (↑first : Int))), (8, .ptr 8 0 0), (7,
  (vI (↑a : Int))), (6, .own 6), (5, AV.sl (List.map eStr L))] [(8, Blk.mk true 0 0 [[(vI fr), (vI tt), AV.e0, (vI ro), (vB be), (vB af)]]), (6, Blk.mk false 41 6 (List.map
  eCap out))]) else none else some (Ex.exit (2 : Nat), St.mk [(11, (vI (↑first : Int))), (8, .ptr 8 0 0), (7, (vI (↑a : Int))), (6, .own 6), (5, AV.sl (List.map eStr L))]
  [(8, Blk.mk true 0 0 [[(vI fr), (vI tt), AV.e0, (vI ro), (vB be), (vB af)]]), (6, Blk.mk false 41 6 (List.map eCap out))]) := (execR_bind _ _ _).symm.trans (by kernel_rfl)

theorem evRliS (L : List ByteArray) (out : List Cap) (fr : Int) (tt : Int) (ro : Int) (be : Bool) (af : Bool) (first : Nat) (ls : List ByteArray) (a : Nat) : ((exec enRLg (loopN Tryz.f6 1) (stRs L out fr tt ro be af first ls a)).bind (lessX ([11, 8, 7, 6, 5], [110, 8, 6]) ([11, 8, 7, 6, 5], [110, 8, 6]) ([4, 3, 2], [2]))).val =
  bif decide ((↑a : Int) < (↑(List.length (List.map eStr L)) : Int)) then Option.bind (unenc (List.map eStr) (List.map eStr L)) fun (z : List ByteArray) => bif decide (a <
  List.length z) then bif !ByteArray.toList (List.getD z a (ByteArray.mk (Array.mk []))) == ByteArray.toList (ByteArray.mk (Array.mk [])) then Option.bind (unenc (List.map
  eStr) (List.map eStr L)) fun (z : List ByteArray) => bif decide (a < List.length z) then Option.bind (unenc encRpl [(vS (List.getD z a (ByteArray.mk (Array.mk []))))]) fun
  (z : ByteArray) => bif F.small z then bif !(F.plG z && F.line (F.plV z)) then some (Ex.ret, St.mk [(4, (vI (10 : Int))), (3, (vI (IntKind.wrap IntKind.i64 ((↑a : Int) + (1
  : Int))))), (2, .own 2)] [(2, Blk.mk false 41 6 [])]) else bif Nat.ble ((List.length (List.map eStr ls) + (1 : Nat)) * (16 : Nat)) (140737488355328 : Nat) && true then
  some (Ex.normal, St.mk [(11, (vI (↑first : Int))), (8, .ptr 8 0 0), (7, (vI (IntKind.wrap IntKind.i64 ((↑a : Int) + (1 : Int))))), (6, .own 6), (5, AV.sl (List.map eStr
  L))] [(110, Blk.mk false 9 1 (List.map eStr ls ++ [[(vS (F.plV z))]])), (8, Blk.mk true 0 0 [[(vI fr), (vI tt), .own 110, (vI ro), (vB be), (vB af)]]), (6, Blk.mk false 41
  6 (List.map eCap out))]) else none else none else none else some (Ex.exit (2 : Nat), St.mk [(11, (vI (↑first : Int))), (8, .ptr 8 0 0), (7, (vI (↑a : Int))), (6, .own 6),
  (5, AV.sl (List.map eStr L))] [(110, Blk.mk false 9 1 (List.map eStr ls)), (8, Blk.mk true 0 0 [[(vI fr), (vI tt), .own 110, (vI ro), (vB be), (vB af)]]), (6, Blk.mk false
  41 6 (List.map eCap out))]) else none else some (Ex.exit (2 : Nat), St.mk [(11, (vI (↑first : Int))), (8, .ptr 8 0 0), (7, (vI (↑a : Int))), (6, .own 6), (5, AV.sl
  (List.map eStr L))] [(110, Blk.mk false 9 1 (List.map eStr ls)), (8, Blk.mk true 0 0 [[(vI fr), (vI tt), .own 110, (vI ro), (vB be), (vB af)]]), (6, Blk.mk false 41 6
  (List.map eCap out))]) := (execR_bind _ _ _).symm.trans (by kernel_rfl)

theorem lpRli_ok (L : List ByteArray) (out : List Cap) (fr : Int) (tt : Int) (ro : Int) (be : Bool) (af : Bool) (first : Nat) (a : Nat) (hp : prlRli L out fr tt ro be af first a = true) : ∀ ex s', (outRli L out fr tt ro be af first a).val = some (ex, s') → LoopOK enRLg (loopN Tryz.f6 1) (stRli L out fr tt ro be af first a) ex s' := by
  simp only [prlRli, Bool.and_eq_true, decide_eq_true_eq] at hp
  obtain ⟨h1, h2⟩ := hp
  have hL : L.length ≤ 200001 ∧ L.all F.small = true := by simpa [F.linesOk] using h1
  refine loop_gen (st := fun b : List ByteArray × Nat => stRx L out fr tt ro be af first b.1 b.2) (out := fun b => outRx L out fr tt ro be af first b.1 b.2) (I := fun b => b.2 ≤ 200001 ∧ b.1.length ≤ b.2) (n := ([11, 8, 7, 6, 5], [110, 8, 6])) (e := ([11, 8, 7, 6, 5], [110, 8, 6])) (r := ([4, 3, 2], [2])) (fun b => L.length - b.2) ?_ ([], a) ⟨h2, Nat.zero_le _⟩
  rintro ⟨ls, a⟩ ⟨i1, i2⟩
  simp only at i1 i2
  have w1 : IntKind.i64.wrap ((a : Int) + 1) = ((a + 1 : Nat) : Int) := by rw [wrap_id (by omega) (by omega)]; rfl
  by_cases ha : a < L.length
  · have hy : L[a]? = some L[a] := List.getElem?_eq_getElem ha
    generalize L[a] = y at hy
    have hd := drop_q hy
    have hys : F.small y = true := List.all_eq_true.1 hL.2 y (List.mem_of_getElem? hy)
    have ey : (y.toList == (⟨⟨[]⟩⟩ : ByteArray).toList) = F.emp y := rfl
    have eok : (F.plG y && F.line (F.plV y)) = F.plOk y := rfl
    cases he : F.emp y
    case true =>
      left
      cases ls with
      | nil =>
        refine ⟨(.exit 2, stRli L out fr tt ro be af first a), ?_, ?_, by simp, rfl⟩
        · show ((exec enRLg (loopN Tryz.f6 1) (stRli L out fr tt ro be af first a)).bind _).val = _
          rw [evRliN]
          simp only [unRSp, unEmy, unRpl, unRhC, unRRh, unRMk, preRSp1, preEmy1, preRpl1, preRhC1, preRRh1, preRMk1, unstRlg, unstRli, unstRlg0, prlRlg, prlRli, outRlg, outRli, etaCap, etaMch, etaWrd, etaFnd, etaRatio, etaWay, Option.bind_some, List.length_map, unStrs, unInts, unBools, uneL_eIs, unCaps, uneL_eCaps, unMchs, unWrds, unFnds, unRatios, unWays, F.lt, F.le, cond_true, cond_false, Bool.and_true, Bool.true_and, cast_lt ha, decide_eq_true ha, getD_at hy, ey, he, Bool.not_true, Bool.not_false]
          rfl
        · simp only [outRx, hd, F.scanP, he, cond_true, F.isEp, List.isEmpty_nil]
          rfl
      | cons x r =>
        refine ⟨(.exit 2, stRs L out fr tt ro be af first (x :: r) a), ?_, ?_, by simp, rfl⟩
        · show ((exec enRLg (loopN Tryz.f6 1) (stRs L out fr tt ro be af first (x :: r) a)).bind _).val = _
          rw [evRliS]
          simp only [unRSp, unEmy, unRpl, unRhC, unRRh, unRMk, preRSp1, preEmy1, preRpl1, preRhC1, preRRh1, preRMk1, unstRlg, unstRli, unstRlg0, prlRlg, prlRli, outRlg, outRli, etaCap, etaMch, etaWrd, etaFnd, etaRatio, etaWay, Option.bind_some, List.length_map, unStrs, unInts, unBools, uneL_eIs, unCaps, uneL_eCaps, unMchs, unWrds, unFnds, unRatios, unWays, F.lt, F.le, cond_true, cond_false, Bool.and_true, Bool.true_and, cast_lt ha, decide_eq_true ha, getD_at hy, ey, he, Bool.not_true, Bool.not_false]
          rfl
        · simp only [outRx, hd, F.scanP, he, cond_true, F.isEp, List.isEmpty_cons]
          rfl
    cases hl : F.plOk y
    · left
      refine ⟨(.ret, ⟨[(4, vI 10), (3, vI (a + 1 : Nat)), (2, .own 2)], [(2, ⟨false, 41, 6, []⟩)]⟩), ?_, ?_, by simp, rfl⟩
      · cases ls with
        | nil =>
          show ((exec enRLg (loopN Tryz.f6 1) (stRli L out fr tt ro be af first a)).bind _).val = _
          rw [evRliN]
          simp only [unRSp, unEmy, unRpl, unRhC, unRRh, unRMk, preRSp1, preEmy1, preRpl1, preRhC1, preRRh1, preRMk1, unstRlg, unstRli, unstRlg0, prlRlg, prlRli, outRlg, outRli, etaCap, etaMch, etaWrd, etaFnd, etaRatio, etaWay, Option.bind_some, List.length_map, unStrs, unInts, unBools, uneL_eIs, unCaps, uneL_eCaps, unMchs, unWrds, unFnds, unRatios, unWays, F.lt, F.le, cond_true, cond_false, Bool.and_true, Bool.true_and, cast_lt ha, decide_eq_true ha, getD_at hy, ey, he, eok, hl, hys, w1, Bool.not_true, Bool.not_false]
          try rfl
        | cons x r =>
          show ((exec enRLg (loopN Tryz.f6 1) (stRs L out fr tt ro be af first (x :: r) a)).bind _).val = _
          rw [evRliS]
          simp only [unRSp, unEmy, unRpl, unRhC, unRRh, unRMk, preRSp1, preEmy1, preRpl1, preRhC1, preRRh1, preRMk1, unstRlg, unstRli, unstRlg0, prlRlg, prlRli, outRlg, outRli, etaCap, etaMch, etaWrd, etaFnd, etaRatio, etaWay, Option.bind_some, List.length_map, unStrs, unInts, unBools, uneL_eIs, unCaps, uneL_eCaps, unMchs, unWrds, unFnds, unRatios, unWays, F.lt, F.le, cond_true, cond_false, Bool.and_true, Bool.true_and, cast_lt ha, decide_eq_true ha, getD_at hy, ey, he, eok, hl, hys, w1, Bool.not_true, Bool.not_false]
          try rfl
      · simp only [outRx, hd, F.scanP, he, hl, cond_false]
        rfl
    · right
      refine ⟨(ls ++ [F.plV y], a + 1), ?_, by rw [stRx_snoc]; rfl, ⟨by simp only; omega, by simp; omega⟩, by simp only; omega, ?_⟩
      · cases ls with
        | nil =>
          show ((exec enRLg (loopN Tryz.f6 1) (stRli L out fr tt ro be af first a)).bind _).val = _
          rw [evRliN]
          simp only [unRSp, unEmy, unRpl, unRhC, unRRh, unRMk, preRSp1, preEmy1, preRpl1, preRhC1, preRRh1, preRMk1, unstRlg, unstRli, unstRlg0, prlRlg, prlRli, outRlg, outRli, etaCap, etaMch, etaWrd, etaFnd, etaRatio, etaWay, Option.bind_some, List.length_map, unStrs, unInts, unBools, uneL_eIs, unCaps, uneL_eCaps, unMchs, unWrds, unFnds, unRatios, unWays, F.lt, F.le, cond_true, cond_false, Bool.and_true, Bool.true_and, cast_lt ha, decide_eq_true ha, getD_at hy, ey, he, eok, hl, hys, w1, Bool.not_true, Bool.not_false]
          rfl
        | cons x r =>
          show ((exec enRLg (loopN Tryz.f6 1) (stRs L out fr tt ro be af first (x :: r) a)).bind _).val = some (_, stRx L out fr tt ro be af first (x :: r ++ [F.plV y]) (a + 1))
          rw [evRliS, stRx_snoc]
          simp only [unRSp, unEmy, unRpl, unRhC, unRRh, unRMk, preRSp1, preEmy1, preRpl1, preRhC1, preRRh1, preRMk1, unstRlg, unstRli, unstRlg0, prlRlg, prlRli, outRlg, outRli, etaCap, etaMch, etaWrd, etaFnd, etaRatio, etaWay, Option.bind_some, List.length_map, unStrs, unInts, unBools, uneL_eIs, unCaps, uneL_eCaps, unMchs, unWrds, unFnds, unRatios, unWays, F.lt, F.le, cond_true, cond_false, Bool.and_true, Bool.true_and, cast_lt ha, decide_eq_true ha, getD_at hy, ey, he, eok, hl, hys, w1, Bool.not_true, Bool.not_false]
          have em : (x :: r).map eStr ++ [[vS (F.plV y)]] = (x :: r ++ [F.plV y]).map eStr := by simp [eStr]
          have hlen : ((x :: r).length + 1) * 16 ≤ 140737488355328 := by omega
          rw [em, ble_t hlen]
          rfl
      · simp only [outRx, hd, F.scanP, he, hl, cond_false, cond_true]
  · have hd : L.drop a = [] := List.drop_eq_nil_of_le (by omega)
    left
    cases ls with
    | nil =>
      refine ⟨(.exit 2, stRli L out fr tt ro be af first a), ?_, ?_, by simp, rfl⟩
      · show ((exec enRLg (loopN Tryz.f6 1) (stRli L out fr tt ro be af first a)).bind _).val = _
        rw [evRliN]
        simp only [unRSp, unEmy, unRpl, unRhC, unRRh, unRMk, preRSp1, preEmy1, preRpl1, preRhC1, preRRh1, preRMk1, unstRlg, unstRli, unstRlg0, prlRlg, prlRli, outRlg, outRli, etaCap, etaMch, etaWrd, etaFnd, etaRatio, etaWay, Option.bind_some, List.length_map, unStrs, unInts, unBools, uneL_eIs, unCaps, uneL_eCaps, unMchs, unWrds, unFnds, unRatios, unWays, F.lt, F.le, cond_true, cond_false, Bool.and_true, Bool.true_and, decide_eq_false (show ¬ (a : Int) < (L.length : Int) by omega)]
        rfl
      · simp only [outRx, hd, F.scanP, F.isEp, List.isEmpty_nil]
        rfl
    | cons x r =>
      refine ⟨(.exit 2, stRs L out fr tt ro be af first (x :: r) a), ?_, ?_, by simp, rfl⟩
      · show ((exec enRLg (loopN Tryz.f6 1) (stRs L out fr tt ro be af first (x :: r) a)).bind _).val = _
        rw [evRliS]
        simp only [unRSp, unEmy, unRpl, unRhC, unRRh, unRMk, preRSp1, preEmy1, preRpl1, preRhC1, preRRh1, preRMk1, unstRlg, unstRli, unstRlg0, prlRlg, prlRli, outRlg, outRli, etaCap, etaMch, etaWrd, etaFnd, etaRatio, etaWay, Option.bind_some, List.length_map, unStrs, unInts, unBools, uneL_eIs, unCaps, uneL_eCaps, unMchs, unWrds, unFnds, unRatios, unWays, F.lt, F.le, cond_true, cond_false, Bool.and_true, Bool.true_and, decide_eq_false (show ¬ (a : Int) < (L.length : Int) by omega)]
        rfl
      · simp only [outRx, hd, F.scanP, F.isEp, List.isEmpty_cons]
        rfl

theorem evRlgL (L : List ByteArray) (out : List Cap) (a : Nat) : ((exec enRLg (loopN Tryz.f6 0) (stRlg L out a)).bind (lessX ([7, 6, 5], [6]) ([6], [6]) ([4, 3, 2], [2]))).val =
  bif decide ((↑a : Int) < (↑(List.length (List.map eStr L)) : Int)) then Option.bind (unenc (List.map eStr) (List.map eStr L)) fun (z : List ByteArray) => bif decide (a <
  List.length z) then Option.bind (unenc encRRh ([(vS (List.getD z a (ByteArray.mk (Array.mk [])))), (vS (ByteArray.mk (Array.mk [(46 : UInt8)])))], [])) fun (z : ByteArray
  × ByteArray) => bif F.small z.fst then bif (F.rtm z.fst z.snd).snd.snd.snd then Option.bind (unenc encRMk ([AV.agg [(vI (F.rtm z.fst z.snd).fst), (vI (F.rtm z.fst
  z.snd).snd.fst), AV.e0, (vI (0 : Int)), (vB false), (vB false)], (vS (F.rtm z.fst z.snd).snd.snd.fst)], [])) fun (z : ByteArray × Int × Int) => bif F.small z.fst then bif
  !F.mkOk z.fst then some (Ex.ret, St.mk [(4, (vI (10 : Int))), (3, (vI (IntKind.wrap IntKind.i64 ((↑a : Int) + (1 : Int))))), (2, .own 2)] [(2, Blk.mk false 41 6 [])]) else
  Option.bind (unenc stRli1 (St.mk [(11, (vI (IntKind.wrap IntKind.i64 ((↑a : Int) + (1 : Int))))), (8, .ptr 8 0 0), (7, (vI (IntKind.wrap IntKind.i64 ((↑a : Int) + (1 :
  Int))))), (6, .own 6), (5, AV.sl (List.map eStr L))] [(8, Blk.mk true 0 0 [[(vI z.snd.fst), (vI z.snd.snd), AV.e0, (vI (F.mkRow z.fst)), (vB (F.mkBef z.fst)), (vB (F.mkAft
  z.fst))]]), (6, Blk.mk false 41 6 (List.map eCap out))])) fun (z : List ByteArray × List Cap × Int × Int × Int × Bool × Bool × Nat × Nat) => bif F.linesOk z.fst && decide
  (z.snd.snd.snd.snd.snd.snd.snd.snd ≤ (200001 : Nat)) && true then bif (F.scanP (List.drop z.snd.snd.snd.snd.snd.snd.snd.snd z.fst) []
  z.snd.snd.snd.snd.snd.snd.snd.snd).fst then bif F.isEp (F.scanP (List.drop z.snd.snd.snd.snd.snd.snd.snd.snd z.fst) [] z.snd.snd.snd.snd.snd.snd.snd.snd).snd.fst then bif
  (↑(F.scanP (List.drop z.snd.snd.snd.snd.snd.snd.snd.snd z.fst) [] z.snd.snd.snd.snd.snd.snd.snd.snd).snd.snd : Int) == (↑z.snd.snd.snd.snd.snd.snd.snd.fst : Int) then some
  (Ex.ret, St.mk [(4, (vI (10 : Int))), (3, (vI (IntKind.wrap IntKind.i64 ((↑(F.scanP (List.drop z.snd.snd.snd.snd.snd.snd.snd.snd z.fst) []
  z.snd.snd.snd.snd.snd.snd.snd.snd).snd.snd : Int) + (1 : Int))))), (2, .own 2)] [(2, Blk.mk false 41 6 [])]) else bif Nat.ble ((List.length (List.map eCap z.snd.fst) + (1
  : Nat)) * (56 : Nat)) (140737488355328 : Nat) && true then Option.bind (unenc encEmy [AV.sl (List.map eStr z.fst), (vI (↑(F.scanP (List.drop
  z.snd.snd.snd.snd.snd.snd.snd.snd z.fst) [] z.snd.snd.snd.snd.snd.snd.snd.snd).snd.snd : Int))]) fun (z_1 : List ByteArray × Nat) => bif decide (List.length z_1.fst ≤
  (200001 : Nat)) && decide (z_1.snd ≤ (200001 : Nat)) then some (Ex.normal, St.mk [(7, (vI (↑(z_1.snd + F.lead (List.drop z_1.snd z_1.fst)) : Int))), (6, .own 6), (5, AV.sl
  (List.map eStr z.fst))] [(6, Blk.mk false 41 6 (List.map eCap z.snd.fst ++ [[(vI z.snd.snd.fst), (vI z.snd.snd.snd.fst), AV.sl [], (vI z.snd.snd.snd.snd.fst), (vB
  z.snd.snd.snd.snd.snd.fst), (vB z.snd.snd.snd.snd.snd.snd.fst)]]))]) else none else none else bif (↑(F.scanP (List.drop z.snd.snd.snd.snd.snd.snd.snd.snd z.fst) []
  z.snd.snd.snd.snd.snd.snd.snd.snd).snd.snd : Int) == (↑z.snd.snd.snd.snd.snd.snd.snd.fst : Int) then some (Ex.ret, St.mk [(4, (vI (10 : Int))), (3, (vI (IntKind.wrap
  IntKind.i64 ((↑(F.scanP (List.drop z.snd.snd.snd.snd.snd.snd.snd.snd z.fst) [] z.snd.snd.snd.snd.snd.snd.snd.snd).snd.snd : Int) + (1 : Int))))), (2, .own 2)] [(2, Blk.mk
  false 41 6 [])]) else bif Nat.ble ((List.length (List.map eCap z.snd.fst) + (1 : Nat)) * (56 : Nat)) (140737488355328 : Nat) && true then Option.bind (unenc encEmy [AV.sl
  (List.map eStr z.fst), (vI (↑(F.scanP (List.drop z.snd.snd.snd.snd.snd.snd.snd.snd z.fst) [] z.snd.snd.snd.snd.snd.snd.snd.snd).snd.snd : Int))]) fun (z_1 : List ByteArray
  × Nat) => bif decide (List.length z_1.fst ≤ (200001 : Nat)) && decide (z_1.snd ≤ (200001 : Nat)) then some (Ex.normal, St.mk [(7, (vI (↑(z_1.snd + F.lead (List.drop
  z_1.snd z_1.fst)) : Int))), (6, .own 6), (5, AV.sl (List.map eStr z.fst))] [(6, Blk.mk false 41 6 (List.map eCap z.snd.fst ++ [[(vI z.snd.snd.fst), (vI z.snd.snd.snd.fst),
  AV.sl (List.map eStr (F.scanP (List.drop z.snd.snd.snd.snd.snd.snd.snd.snd z.fst) [] z.snd.snd.snd.snd.snd.snd.snd.snd).snd.fst), (vI z.snd.snd.snd.snd.fst), (vB
  z.snd.snd.snd.snd.snd.fst), (vB z.snd.snd.snd.snd.snd.snd.fst)]]))]) else none else none else some (Ex.ret, St.mk [(4, (vI (10 : Int))), (3, (vI (↑(F.scanP (List.drop
  z.snd.snd.snd.snd.snd.snd.snd.snd z.fst) [] z.snd.snd.snd.snd.snd.snd.snd.snd).snd.snd : Int))), (2, .own 2)] [(2, Blk.mk false 41 6 [])]) else none else none else bif
  !(F.rtm z.fst z.snd).snd.snd.snd then some (Ex.ret, St.mk [(4, (vI (10 : Int))), (3, (vI (IntKind.wrap IntKind.i64 ((↑a : Int) + (1 : Int))))), (2, .own 2)] [(2, Blk.mk
  false 41 6 [])]) else Option.bind (unenc stRli1 (St.mk [(11, (vI (IntKind.wrap IntKind.i64 ((↑a : Int) + (1 : Int))))), (8, .ptr 8 0 0), (7, (vI (IntKind.wrap IntKind.i64
  ((↑a : Int) + (1 : Int))))), (6, .own 6), (5, AV.sl (List.map eStr L))] [(8, Blk.mk true 0 0 [[(vI (F.rtm z.fst z.snd).fst), (vI (F.rtm z.fst z.snd).snd.fst), AV.e0, (vI
  (0 : Int)), (vB false), (vB false)]]), (6, Blk.mk false 41 6 (List.map eCap out))])) fun (z : List ByteArray × List Cap × Int × Int × Int × Bool × Bool × Nat × Nat) => bif
  F.linesOk z.fst && decide (z.snd.snd.snd.snd.snd.snd.snd.snd ≤ (200001 : Nat)) && true then bif (F.scanP (List.drop z.snd.snd.snd.snd.snd.snd.snd.snd z.fst) []
  z.snd.snd.snd.snd.snd.snd.snd.snd).fst then bif F.isEp (F.scanP (List.drop z.snd.snd.snd.snd.snd.snd.snd.snd z.fst) [] z.snd.snd.snd.snd.snd.snd.snd.snd).snd.fst then bif
  (↑(F.scanP (List.drop z.snd.snd.snd.snd.snd.snd.snd.snd z.fst) [] z.snd.snd.snd.snd.snd.snd.snd.snd).snd.snd : Int) == (↑z.snd.snd.snd.snd.snd.snd.snd.fst : Int) then some
  (Ex.ret, St.mk [(4, (vI (10 : Int))), (3, (vI (IntKind.wrap IntKind.i64 ((↑(F.scanP (List.drop z.snd.snd.snd.snd.snd.snd.snd.snd z.fst) []
  z.snd.snd.snd.snd.snd.snd.snd.snd).snd.snd : Int) + (1 : Int))))), (2, .own 2)] [(2, Blk.mk false 41 6 [])]) else bif Nat.ble ((List.length (List.map eCap z.snd.fst) + (1
  : Nat)) * (56 : Nat)) (140737488355328 : Nat) && true then Option.bind (unenc encEmy [AV.sl (List.map eStr z.fst), (vI (↑(F.scanP (List.drop
  z.snd.snd.snd.snd.snd.snd.snd.snd z.fst) [] z.snd.snd.snd.snd.snd.snd.snd.snd).snd.snd : Int))]) fun (z_1 : List ByteArray × Nat) => bif decide (List.length z_1.fst ≤
  (200001 : Nat)) && decide (z_1.snd ≤ (200001 : Nat)) then some (Ex.normal, St.mk [(7, (vI (↑(z_1.snd + F.lead (List.drop z_1.snd z_1.fst)) : Int))), (6, .own 6), (5, AV.sl
  (List.map eStr z.fst))] [(6, Blk.mk false 41 6 (List.map eCap z.snd.fst ++ [[(vI z.snd.snd.fst), (vI z.snd.snd.snd.fst), AV.sl [], (vI z.snd.snd.snd.snd.fst), (vB
  z.snd.snd.snd.snd.snd.fst), (vB z.snd.snd.snd.snd.snd.snd.fst)]]))]) else none else none else bif (↑(F.scanP (List.drop z.snd.snd.snd.snd.snd.snd.snd.snd z.fst) []
  z.snd.snd.snd.snd.snd.snd.snd.snd).snd.snd : Int) == (↑z.snd.snd.snd.snd.snd.snd.snd.fst : Int) then some (Ex.ret, St.mk [(4, (vI (10 : Int))), (3, (vI (IntKind.wrap
  IntKind.i64 ((↑(F.scanP (List.drop z.snd.snd.snd.snd.snd.snd.snd.snd z.fst) [] z.snd.snd.snd.snd.snd.snd.snd.snd).snd.snd : Int) + (1 : Int))))), (2, .own 2)] [(2, Blk.mk
  false 41 6 [])]) else bif Nat.ble ((List.length (List.map eCap z.snd.fst) + (1 : Nat)) * (56 : Nat)) (140737488355328 : Nat) && true then Option.bind (unenc encEmy [AV.sl
  (List.map eStr z.fst), (vI (↑(F.scanP (List.drop z.snd.snd.snd.snd.snd.snd.snd.snd z.fst) [] z.snd.snd.snd.snd.snd.snd.snd.snd).snd.snd : Int))]) fun (z_1 : List ByteArray
  × Nat) => bif decide (List.length z_1.fst ≤ (200001 : Nat)) && decide (z_1.snd ≤ (200001 : Nat)) then some (Ex.normal, St.mk [(7, (vI (↑(z_1.snd + F.lead (List.drop
  z_1.snd z_1.fst)) : Int))), (6, .own 6), (5, AV.sl (List.map eStr z.fst))] [(6, Blk.mk false 41 6 (List.map eCap z.snd.fst ++ [[(vI z.snd.snd.fst), (vI z.snd.snd.snd.fst),
  AV.sl (List.map eStr (F.scanP (List.drop z.snd.snd.snd.snd.snd.snd.snd.snd z.fst) [] z.snd.snd.snd.snd.snd.snd.snd.snd).snd.fst), (vI z.snd.snd.snd.snd.fst), (vB
  z.snd.snd.snd.snd.snd.fst), (vB z.snd.snd.snd.snd.snd.snd.fst)]]))]) else none else none else some (Ex.ret, St.mk [(4, (vI (10 : Int))), (3, (vI (↑(F.scanP (List.drop
  z.snd.snd.snd.snd.snd.snd.snd.snd z.fst) [] z.snd.snd.snd.snd.snd.snd.snd.snd).snd.snd : Int))), (2, .own 2)] [(2, Blk.mk false 41 6 [])]) else none else none else none
  else some (Ex.exit (0 : Nat), St.mk [(6, .own 6)] [(6, Blk.mk false 41 6 (List.map eCap out))]) := (execR_bind _ _ _).symm.trans (by kernel_rfl)

theorem lpRlg_ok (L : List ByteArray) (out : List Cap) (a : Nat) (hp : prlRlg L out a = true) : ∀ ex s', (outRlg L out a).val = some (ex, s') → LoopOK enRLg (loopN Tryz.f6 0) (stRlg L out a) ex s' := by
  simp only [prlRlg, Bool.and_eq_true, decide_eq_true_eq] at hp
  obtain ⟨⟨h1, h2⟩, h3⟩ := hp
  have hL : L.length ≤ 200001 ∧ L.all F.small = true := by simpa [F.linesOk] using h1
  refine loop_gen (st := fun b : List Cap × Nat => stRlg L b.1 b.2) (out := fun b => outRlg L b.1 b.2) (I := fun b => b.2 ≤ 200001 ∧ b.1.length ≤ b.2) (n := ([7, 6, 5], [6])) (e := ([6], [6])) (r := ([4, 3, 2], [2])) (fun b => L.length + 1 - b.2) ?_ (out, a) ⟨h2, h3⟩
  rintro ⟨out, a⟩ ⟨i1, i2⟩
  simp only at i1 i2
  have w1 : IntKind.i64.wrap ((a : Int) + 1) = ((a + 1 : Nat) : Int) := by rw [wrap_id (by omega) (by omega)]; rfl
  have ec : (⟨⟨[46]⟩⟩ : ByteArray) = F.dot := rfl
  cases ht : F.tkB L a
  · left
    have ha : ¬ a < L.length := by simpa [F.tkB] using ht
    refine ⟨(.exit 0, ⟨[(6, .own 6)], [(6, ⟨false, 41, 6, out.map eCap⟩)]⟩), ?_, ?_, by simp, rfl⟩
    · rw [evRlgL]
      simp only [unRSp, unEmy, unRpl, unRhC, unRRh, unRMk, preRSp1, preEmy1, preRpl1, preRhC1, preRRh1, preRMk1, unstRlg, unstRli, unstRlg0, prlRlg, prlRli, outRlg, outRli, etaCap, etaMch, etaWrd, etaFnd, etaRatio, etaWay, Option.bind_some, List.length_map, unStrs, unInts, unBools, uneL_eIs, unCaps, uneL_eCaps, unMchs, unWrds, unFnds, unRatios, unWays, F.lt, F.le, cond_true, cond_false, Bool.and_true, Bool.true_and, decide_eq_false (show ¬ (a : Int) < (L.length : Int) by omega)]
      try rfl
    · have : F.lgL L (L.length + 1 - a) out a = (true, out, a) := by
        cases L.length + 1 - a with
        | zero => rfl
        | succ f => rw [F.lgL, ht]; rfl
      simp only [outRlg, this]
      rfl
  have ha : a < L.length := by simpa [F.tkB] using ht
  obtain ⟨f, hf⟩ : ∃ f, L.length + 1 - a = f + 1 := ⟨L.length - a, by omega⟩
  have hy : L[a]? = some L[a] := List.getElem?_eq_getElem ha
  generalize L[a] = y at hy
  have hys : F.small y = true := List.all_eq_true.1 hL.2 y (List.mem_of_getElem? hy)
  have hS : F.tkS L a = y := by unfold F.tkS; rw [ht, cond_true]; exact getD_at hy
  have hok : F.lgOk (F.tkS L a) = F.lgmOk y := by rw [hS, F.lgmOk_eq]
  have failT : F.lgmOk y = false → (outRlg L out a).val = some (.ret, ⟨[(4, vI 10), (3, vI (a + 1 : Nat)), (2, .own 2)], [(2, ⟨false, 41, 6, []⟩)]⟩) := fun w => by
    rw [w] at hok
    simp only [outRlg, hf, F.lgL, ht, hok, cond_true, cond_false]
    rfl
  cases hg : (F.rtm y F.dot).2.2.2
  · left
    refine ⟨_, ?_, failT (by unfold F.lgmOk; rw [hg]; rfl), by simp, rfl⟩
    rw [evRlgL]
    simp only [unRSp, unEmy, unRpl, unRhC, unRRh, unRMk, preRSp1, preEmy1, preRpl1, preRhC1, preRRh1, preRMk1, unstRlg, unstRli, unstRlg0, prlRlg, prlRli, outRlg, outRli, etaCap, etaMch, etaWrd, etaFnd, etaRatio, etaWay, Option.bind_some, List.length_map, unStrs, unInts, unBools, uneL_eIs, unCaps, uneL_eCaps, unMchs, unWrds, unFnds, unRatios, unWays, F.lt, F.le, cond_true, cond_false, Bool.and_true, Bool.true_and, cast_lt ha, decide_eq_true ha, getD_at hy, hys, w1, ec, hg, Bool.not_true, Bool.not_false]
    try rfl
  have hrs : F.small (F.rtm y F.dot).2.2.1 = true := by
    obtain ⟨r1, r2⟩ := F.rt_eq (s := y) (p := F.dot) (q := 46) rfl (by decide)
    rw [← r2 hg]
    exact F.small_le (Nat.le_trans (F.rdT_size _ _) (Nat.le_trans (F.cutP_size _ _) (F.rdT_size _ _))) (of_decide_eq_true hys)
  cases hm : F.mkOk (F.rtm y F.dot).2.2.1
  · left
    refine ⟨_, ?_, failT (by unfold F.lgmOk; rw [hg, hm]; rfl), by simp, rfl⟩
    rw [evRlgL]
    simp only [unRSp, unEmy, unRpl, unRhC, unRRh, unRMk, preRSp1, preEmy1, preRpl1, preRhC1, preRRh1, preRMk1, unstRlg, unstRli, unstRlg0, prlRlg, prlRli, outRlg, outRli, etaCap, etaMch, etaWrd, etaFnd, etaRatio, etaWay, Option.bind_some, List.length_map, unStrs, unInts, unBools, uneL_eIs, unCaps, uneL_eCaps, unMchs, unWrds, unFnds, unRatios, unWays, F.lt, F.le, cond_true, cond_false, Bool.and_true, Bool.true_and, cast_lt ha, decide_eq_true ha, getD_at hy, hys, w1, ec, hg, Bool.not_true, Bool.not_false, hrs, hm]
    try rfl
  have hok : F.lgOk (F.tkS L a) = true := by rw [hok]; unfold F.lgmOk; rw [hg, hm]; rfl
  have w3 : decide (a + 1 ≤ 200001) = true := decide_eq_true (by omega)
  have sg := F.scanP_ge (L.drop (a + 1)) [] (a + 1)
  have sl := F.scanP_le (L.drop (a + 1)) [] (a + 1)
  have sn := F.scanP_len (L.drop (a + 1)) [] (a + 1)
  rw [List.length_drop] at sl
  obtain ⟨q1, q2, q3⟩ := F.bdP_first (L.drop (a + 1)) (a + 1)
  have w4 : IntKind.i64.wrap (((F.scanP (L.drop (a + 1)) [] (a + 1)).2.2 : Int) + 1) = (((F.scanP (L.drop (a + 1)) [] (a + 1)).2.2 + 1 : Nat) : Int) := by rw [wrap_id (by omega) (by omega)]; rfl
  cases hs : (F.scanP (L.drop (a + 1)) [] (a + 1)).1
  · left
    obtain ⟨r1, r2⟩ := q3 hs
    refine ⟨(.ret, ⟨[(4, vI 10), (3, vI (F.scanP (L.drop (a + 1)) [] (a + 1)).2.2), (2, .own 2)], [(2, ⟨false, 41, 6, []⟩)]⟩), ?_, ?_, by simp, rfl⟩
    · rw [evRlgL]
      simp only [unRSp, unEmy, unRpl, unRhC, unRRh, unRMk, preRSp1, preEmy1, preRpl1, preRhC1, preRRh1, preRMk1, unstRlg, unstRli, unstRlg0, prlRlg, prlRli, outRlg, outRli, etaCap, etaMch, etaWrd, etaFnd, etaRatio, etaWay, Option.bind_some, List.length_map, unStrs, unInts, unBools, uneL_eIs, unCaps, uneL_eCaps, unMchs, unWrds, unFnds, unRatios, unWays, F.lt, F.le, cond_true, cond_false, Bool.and_true, Bool.true_and, cast_lt ha, decide_eq_true ha, getD_at hy, hys, w1, ec, hg, Bool.not_true, Bool.not_false, hrs, hm, h1, w3, hs, Bool.and_self]
      try rfl
    · simp only [outRlg, hf, F.lgL, ht, hok, r1, r2, cond_true, cond_false]
      rfl
  have sn := sn hs
  cases hq : F.isEp (F.scanP (L.drop (a + 1)) [] (a + 1)).2.1
  case true =>
    left
    have hq' : (F.scanP (L.drop (a + 1)) [] (a + 1)).2.1 = [] := by simpa [F.isEp] using hq
    obtain ⟨r1, r2⟩ := q2 hs hq'
    have e2 : (F.scanP (L.drop (a + 1)) [] (a + 1)).2.2 = a + 1 := by rw [hq'] at sn; simp only [List.length_nil] at sn; omega
    have eq1 : (((F.scanP (L.drop (a + 1)) [] (a + 1)).2.2 : Int) == ((a + 1 : Nat) : Int)) = true := by rw [e2]; simp
    refine ⟨(.ret, ⟨[(4, vI 10), (3, vI ((F.scanP (L.drop (a + 1)) [] (a + 1)).2.2 + 1 : Nat)), (2, .own 2)], [(2, ⟨false, 41, 6, []⟩)]⟩), ?_, ?_, by simp, rfl⟩
    · rw [evRlgL]
      simp only [unRSp, unEmy, unRpl, unRhC, unRRh, unRMk, preRSp1, preEmy1, preRpl1, preRhC1, preRRh1, preRMk1, unstRlg, unstRli, unstRlg0, prlRlg, prlRli, outRlg, outRli, etaCap, etaMch, etaWrd, etaFnd, etaRatio, etaWay, Option.bind_some, List.length_map, unStrs, unInts, unBools, uneL_eIs, unCaps, uneL_eCaps, unMchs, unWrds, unFnds, unRatios, unWays, F.lt, F.le, cond_true, cond_false, Bool.and_true, Bool.true_and, cast_lt ha, decide_eq_true ha, getD_at hy, hys, w1, ec, hg, Bool.not_true, Bool.not_false, hrs, hm, h1, w3, hs, hq, eq1, w4, Bool.and_self]
      try rfl
    · simp only [outRlg, hf, F.lgL, ht, hok, r1, r2, cond_true, cond_false]
      rfl
  case false =>
    right
    have hq' : (F.scanP (L.drop (a + 1)) [] (a + 1)).2.1 ≠ [] := by intro e; rw [e] at hq; cases hq
    have r1 := q1 hs hq'
    have e2 : (F.scanP (L.drop (a + 1)) [] (a + 1)).2.2 ≠ a + 1 := by
      intro e
      have : (F.scanP (L.drop (a + 1)) [] (a + 1)).2.1.length = 0 := by simp only [List.length_nil] at sn; omega
      exact hq' (List.length_eq_zero_iff.1 this)
    have eq1 : (((F.scanP (L.drop (a + 1)) [] (a + 1)).2.2 : Int) == ((a + 1 : Nat) : Int)) = false := by rw [beq_eq_false_iff_ne]; omega
    have b3 := F.lead_le (L.drop (F.scanP (L.drop (a + 1)) [] (a + 1)).2.2)
    rw [List.length_drop] at b3
    have hc := F.lgm_cap hg (F.scanP (L.drop (a + 1)) [] (a + 1)).2.1
    refine ⟨(out ++ [F.lgCap y (F.scanP (L.drop (a + 1)) [] (a + 1)).2.1], (F.scanP (L.drop (a + 1)) [] (a + 1)).2.2 + F.lead (L.drop (F.scanP (L.drop (a + 1)) [] (a + 1)).2.2)), ?_, rfl, ⟨by simp only; omega, by simp; omega⟩, by simp only; omega, ?_⟩
    · rw [evRlgL]
      simp only [unRSp, unEmy, unRpl, unRhC, unRRh, unRMk, preRSp1, preEmy1, preRpl1, preRhC1, preRRh1, preRMk1, unstRlg, unstRli, unstRlg0, prlRlg, prlRli, outRlg, outRli, etaCap, etaMch, etaWrd, etaFnd, etaRatio, etaWay, Option.bind_some, List.length_map, unStrs, unInts, unBools, uneL_eIs, unCaps, uneL_eCaps, unMchs, unWrds, unFnds, unRatios, unWays, F.lt, F.le, cond_true, cond_false, Bool.and_true, Bool.true_and, cast_lt ha, decide_eq_true ha, getD_at hy, hys, w1, ec, hg, Bool.not_true, Bool.not_false, hrs, hm, h1, w3, hs, hq, eq1, w4, Bool.and_self]
      have em : out.map eCap ++ [[vI (F.rtm y F.dot).1, vI (F.rtm y F.dot).2.1, .sl ((F.scanP (L.drop (a + 1)) [] (a + 1)).2.1.map eStr), vI (F.mkRow (F.rtm y F.dot).2.2.1), vB (F.mkBef (F.rtm y F.dot).2.2.1), vB (F.mkAft (F.rtm y F.dot).2.2.1)]] = (out ++ [F.lgCap y (F.scanP (L.drop (a + 1)) [] (a + 1)).2.1]).map eCap := by
        rw [List.map_append, hc]; simp only [List.map_cons, List.map_nil, eCap]
      rw [em, ble_t (show (out.length + 1) * 56 ≤ 140737488355328 by omega), decide_eq_true hL.1, decide_eq_true (show (F.scanP (L.drop (a + 1)) [] (a + 1)).2.2 ≤ 200001 by omega)]
      rfl
    · have key := F.lgL_fuel L (L.length + 1 - ((F.scanP (L.drop (a + 1)) [] (a + 1)).2.2 + F.lead (L.drop (F.scanP (L.drop (a + 1)) [] (a + 1)).2.2))) f (out ++ [F.lgCap y (F.scanP (L.drop (a + 1)) [] (a + 1)).2.1]) ((F.scanP (L.drop (a + 1)) [] (a + 1)).2.2 + F.lead (L.drop (F.scanP (L.drop (a + 1)) [] (a + 1)).2.2)) (by omega) (by omega)
      rw [hS] at hok
      simp only [outRlg, hf, F.lgL, ht, hok, hS, r1, cond_true, cond_false, key]

theorem evRLg (s : ByteArray) : (runF enRLg false Tryz.f6 [vS s]).val =
  bif decide ((200000 : Int) < (↑(ByteArray.size s) : Int)) then some (AV.tup [AV.sl [], (vI (0 : Int)), (vI (2 : Int))], []) else Option.bind (unenc encRSp [(vS s)]) fun (z
  : ByteArray) => bif F.small z then bif !(↑(List.length (List.map eStr (F.lns z))) : Int) == (0 : Int) then Option.bind (unenc (List.map eStr) (List.map eStr (F.lns z)))
  fun (z_1 : List ByteArray) => bif decide ((0 : Nat) < List.length z_1) then bif !!ByteArray.toList (List.getD z_1 (0 : Nat) (ByteArray.mk (Array.mk []))) ==
  ByteArray.toList (ByteArray.mk (Array.mk [(87 : UInt8), (69 : UInt8), (66 : UInt8), (86 : UInt8), (84 : UInt8), (84 : UInt8)])) && decide ((1 : Int) < (↑(List.length
  (List.map eStr (F.lns z))) : Int)) then Option.bind (unenc (List.map eStr) (List.map eStr (F.lns z))) fun (z_2 : List ByteArray) => bif decide ((1 : Nat) < List.length
  z_2) then bif bif !ByteArray.toList (List.getD z_1 (0 : Nat) (ByteArray.mk (Array.mk []))) == ByteArray.toList (ByteArray.mk (Array.mk [(87 : UInt8), (69 : UInt8), (66 :
  UInt8), (86 : UInt8), (84 : UInt8), (84 : UInt8)])) then true else !ByteArray.toList (List.getD z_2 (1 : Nat) (ByteArray.mk (Array.mk []))) == ByteArray.toList
  (ByteArray.mk (Array.mk [])) then bif decide ((0 : Int) < (↑(List.length (List.map eStr (F.lns z))) : Int)) then Option.bind (unenc (List.map eStr) (List.map eStr (F.lns
  z))) fun (z : List ByteArray) => bif decide ((0 : Nat) < List.length z) then bif ByteArray.toList (List.getD z (0 : Nat) (ByteArray.mk (Array.mk []))) == ByteArray.toList
  (ByteArray.mk (Array.mk [(87 : UInt8), (69 : UInt8), (66 : UInt8), (86 : UInt8), (84 : UInt8), (84 : UInt8)])) then some (AV.tup [AV.sl [], (vI (2 : Int)), (vI (10 :
  Int))], []) else some (AV.tup [AV.sl [], (vI (1 : Int)), (vI (10 : Int))], []) else none else some (AV.tup [AV.sl [], (vI (1 : Int)), (vI (10 : Int))], []) else
  Option.bind (unenc encEmy [AV.sl (List.map eStr (F.lns z)), (vI (1 : Int))]) fun (z_3 : List ByteArray × Nat) => bif decide (List.length z_3.fst ≤ (200001 : Nat)) &&
  decide (z_3.snd ≤ (200001 : Nat)) then Option.bind (unenc stRlg1 (St.mk [(7, (vI (↑(z_3.snd + F.lead (List.drop z_3.snd z_3.fst)) : Int))), (6, .own 6), (5, AV.sl
  (List.map eStr (F.lns z)))] [(6, Blk.mk false 41 6 [])])) fun (z : List ByteArray × List Cap × Nat) => bif F.linesOk z.fst && decide (z.snd.snd ≤ (200001 : Nat)) && decide
  (List.length z.snd.fst ≤ z.snd.snd) && true then bif (F.lgL z.fst (List.length z.fst + (1 : Nat) - z.snd.snd) z.snd.fst z.snd.snd).fst then Option.bind (unenc encRhC
  [AV.sl (List.map eCap (F.lgL z.fst (List.length z.fst + (1 : Nat) - z.snd.snd) z.snd.fst z.snd.snd).snd.fst)]) fun (z_4 : List Cap) => bif F.smC z_4 then bif F.chkC z_4 !=
  (0 : Int) then some (AV.tup [AV.sl [], (vI (0 : Int)), (vI (F.chkC z_4))], []) else some (AV.tup [AV.sl (List.map eCap (F.lgL z.fst (List.length z.fst + (1 : Nat) -
  z.snd.snd) z.snd.fst z.snd.snd).snd.fst), (vI (0 : Int)), (vI (0 : Int))], []) else none else some (AV.tup [AV.sl [], (vI (↑(F.lgL z.fst (List.length z.fst + (1 : Nat) -
  z.snd.snd) z.snd.fst z.snd.snd).snd.snd : Int)), (vI (10 : Int))], []) else none else none else none else bif !!ByteArray.toList (List.getD z_1 (0 : Nat) (ByteArray.mk
  (Array.mk []))) == ByteArray.toList (ByteArray.mk (Array.mk [(87 : UInt8), (69 : UInt8), (66 : UInt8), (86 : UInt8), (84 : UInt8), (84 : UInt8)])) && decide ((1 : Int) <
  (↑(List.length (List.map eStr (F.lns z))) : Int)) then none else bif !!ByteArray.toList (List.getD z_1 (0 : Nat) (ByteArray.mk (Array.mk []))) == ByteArray.toList
  (ByteArray.mk (Array.mk [(87 : UInt8), (69 : UInt8), (66 : UInt8), (86 : UInt8), (84 : UInt8), (84 : UInt8)])) && decide ((1 : Int) < (↑(List.length (List.map eStr (F.lns
  z))) : Int)) then none else bif bif !ByteArray.toList (List.getD z_1 (0 : Nat) (ByteArray.mk (Array.mk []))) == ByteArray.toList (ByteArray.mk (Array.mk [(87 : UInt8), (69
  : UInt8), (66 : UInt8), (86 : UInt8), (84 : UInt8), (84 : UInt8)])) then true else false then bif decide ((0 : Int) < (↑(List.length (List.map eStr (F.lns z))) : Int))
  then Option.bind (unenc (List.map eStr) (List.map eStr (F.lns z))) fun (z : List ByteArray) => bif decide ((0 : Nat) < List.length z) then bif ByteArray.toList (List.getD
  z (0 : Nat) (ByteArray.mk (Array.mk []))) == ByteArray.toList (ByteArray.mk (Array.mk [(87 : UInt8), (69 : UInt8), (66 : UInt8), (86 : UInt8), (84 : UInt8), (84 :
  UInt8)])) then some (AV.tup [AV.sl [], (vI (2 : Int)), (vI (10 : Int))], []) else some (AV.tup [AV.sl [], (vI (1 : Int)), (vI (10 : Int))], []) else none else some (AV.tup
  [AV.sl [], (vI (1 : Int)), (vI (10 : Int))], []) else Option.bind (unenc encEmy [AV.sl (List.map eStr (F.lns z)), (vI (1 : Int))]) fun (z_2 : List ByteArray × Nat) => bif
  decide (List.length z_2.fst ≤ (200001 : Nat)) && decide (z_2.snd ≤ (200001 : Nat)) then Option.bind (unenc stRlg1 (St.mk [(7, (vI (↑(z_2.snd + F.lead (List.drop z_2.snd
  z_2.fst)) : Int))), (6, .own 6), (5, AV.sl (List.map eStr (F.lns z)))] [(6, Blk.mk false 41 6 [])])) fun (z : List ByteArray × List Cap × Nat) => bif F.linesOk z.fst &&
  decide (z.snd.snd ≤ (200001 : Nat)) && decide (List.length z.snd.fst ≤ z.snd.snd) && true then bif (F.lgL z.fst (List.length z.fst + (1 : Nat) - z.snd.snd) z.snd.fst
  z.snd.snd).fst then Option.bind (unenc encRhC [AV.sl (List.map eCap (F.lgL z.fst (List.length z.fst + (1 : Nat) - z.snd.snd) z.snd.fst z.snd.snd).snd.fst)]) fun (z_3 :
  List Cap) => bif F.smC z_3 then bif F.chkC z_3 != (0 : Int) then some (AV.tup [AV.sl [], (vI (0 : Int)), (vI (F.chkC z_3))], []) else some (AV.tup [AV.sl (List.map eCap
  (F.lgL z.fst (List.length z.fst + (1 : Nat) - z.snd.snd) z.snd.fst z.snd.snd).snd.fst), (vI (0 : Int)), (vI (0 : Int))], []) else none else some (AV.tup [AV.sl [], (vI
  (↑(F.lgL z.fst (List.length z.fst + (1 : Nat) - z.snd.snd) z.snd.fst z.snd.snd).snd.snd : Int)), (vI (10 : Int))], []) else none else none else none else bif decide ((0 :
  Int) < (↑(List.length (List.map eStr (F.lns z))) : Int)) then Option.bind (unenc (List.map eStr) (List.map eStr (F.lns z))) fun (z : List ByteArray) => bif decide ((0 :
  Nat) < List.length z) then bif ByteArray.toList (List.getD z (0 : Nat) (ByteArray.mk (Array.mk []))) == ByteArray.toList (ByteArray.mk (Array.mk [(87 : UInt8), (69 :
  UInt8), (66 : UInt8), (86 : UInt8), (84 : UInt8), (84 : UInt8)])) then some (AV.tup [AV.sl [], (vI (2 : Int)), (vI (10 : Int))], []) else some (AV.tup [AV.sl [], (vI (1 :
  Int)), (vI (10 : Int))], []) else none else some (AV.tup [AV.sl [], (vI (1 : Int)), (vI (10 : Int))], []) else none := (runFR_val).symm.trans (by kernel_rfl)

def encRLg1 (s : ByteArray) : List AV := [vS s]

def encRLg (a : ByteArray) : List AV := encRLg1 a

theorem encRLg_inj (a a' : ByteArray) (h : encRLg a = encRLg a') : a = a' := by
  simp only [encRLg, encRLg1] at h
  try simp [strs_inj, ints_inj, bools_inj, eL_eIs_inj, eCaps_inj, eCap_iff, eL_eCaps_inj, eMchs_inj, eMch_iff, eWrds_inj, eWrd_iff, eFnds_inj, eFnd_iff, eRatios_inj, eRatio_iff, eWays_inj, eWay_iff] at h
  grind

theorem unRLg (s : ByteArray) : unenc encRLg ([(vS s)]) = some (s) := unenc_of encRLg_inj (s) rfl

def resRLg1 (s : ByteArray) : AV × Heap := (.tup [.sl ((F.rdLo s).1.map eCap), vI (F.rdLo s).2.1, vI (F.rdLo s).2.2], [])

def preRLg1 (s : ByteArray) : Bool := F.small s

noncomputable def oRLg : Orc := orc 6 false encRLg (fun a => preRLg1 a) fun a => resRLg1 a

theorem okRLg : OrcOK Tryz.prog noG oRLg := by
  refine mk_ok Tryz.f6 (keep := false) (by kernel_rfl) (by kernel_rfl) enRLg_ok mixed (two_loops (x0 := loopN Tryz.f6 0) (x1 := loopN Tryz.f6 1) (by kernel_rfl) (lpo_ok ?_) (lpo_ok ?_)) (by first | exact fun _ _ => ⟨rfl, rfl⟩ | (intro h; cases h)) ?_
  · rintro ⟨L, out, a⟩ hp
    exact lpRlg_ok L out a hp
  · rintro ⟨L, out, fr, tt, ro, be, af, first, a⟩ hp
    exact lpRli_ok L out fr tt ro be af first a hp
  rintro s hpre hok
  show (runF enRLg false _ (encRLg1 _)).val = some (resRLg1 _)
  unfold encRLg1 resRLg1
  rw [evRLg]
  simp only [preRLg1] at hpre
  have u1 : unenc encEmy [.sl ((F.lns s).map eStr), vI 1] = some (F.lns s, 1) := unEmy (F.lns s) 1
  have eW : (⟨⟨[87, 69, 66, 86, 84, 84]⟩⟩ : ByteArray) = F.webB := rfl
  have es : ∀ x y : ByteArray, (x.toList == y.toList) = F.seq x y := fun _ _ => rfl
  simp only [unRSp, unEmy, unRpl, unRhC, unRRh, unRMk, preRSp1, preEmy1, preRpl1, preRhC1, preRRh1, preRMk1, unstRlg, unstRli, unstRlg0, prlRlg, prlRli, outRlg, outRli, etaCap, etaMch, etaWrd, etaFnd, etaRatio, etaWay, Option.bind_some, List.length_map, unStrs, unInts, unBools, uneL_eIs, unCaps, uneL_eCaps, unMchs, unWrds, unFnds, unRatios, unWays, F.lt, F.le, cond_true, cond_false, Bool.and_true, Bool.true_and, hpre, F.rdLo, u1, eW, es, Nat.zero_le, decide_true, List.length_nil]
  clear u1
  by_cases hb : 200000 < s.size
  · rw [decide_eq_true (show (200000 : Int) < s.size by omega), decide_eq_true hb]
    rfl
  have hl := F.lns_okL (s := s) (by omega)
  have hL : (F.lns s).length ≤ 200001 ∧ (F.lns s).all F.small = true := by simpa [F.linesOk] using hl
  have hlen := F.lns_len s
  have b3 := F.lead_le ((F.lns s).drop 1)
  rw [List.length_drop] at b3
  have hsm := F.lgA_small (F.linesOk_smL hl)
  rw [decide_eq_false (show ¬ (200000 : Int) < s.size by omega), decide_eq_false hb]
  clear hlen
  generalize F.lns s = L at hl hL b3 hsm ⊢
  have d1 : decide (L.length ≤ 200001) = true := decide_eq_true hL.1
  have d2 : decide (1 ≤ 200001) = true := rfl
  have d3 : decide (1 + F.lead (L.drop 1) ≤ 200001) = true := decide_eq_true (by omega)
  have tl : ∀ q : Bool × List Cap × Nat, F.smC q.2.1 = true → (bif q.1 then bif F.smC q.2.1 then bif F.chkC q.2.1 != 0 then some (AV.tup [.sl [], vI 0, vI (F.chkC q.2.1)], ([] : Heap)) else some (AV.tup [.sl (q.2.1.map eCap), vI 0, vI 0], []) else none else some (AV.tup [.sl [], vI q.2.2, vI 10], [])) = some (AV.tup [.sl ((F.rdKL q).1.map eCap), vI (F.rdKL q).2.1, vI (F.rdKL q).2.2], []) := by
    rintro ⟨q1, q2, q3⟩ hq
    simp only at hq
    simp only [F.rdKL, hq, cond_true]
    cases q1
    · rfl
    · simp only [cond_true]
      cases F.chkC q2 != 0 <;> rfl
  simp only [hl, d1, d2, d3, Bool.and_self, cond_true, cond_false]
  cases L with
  | nil => rfl
  | cons x r =>
    have z1 : (((x :: r).length : Int) == 0) = false := by rw [beq_eq_false_iff_ne]; simp only [List.length_cons]; omega
    have z2 : decide (0 < (x :: r).length) = true := decide_eq_true (by simp)
    have z3 : decide ((0 : Int) < ((x :: r).length : Int)) = true := decide_eq_true (by simp only [List.length_cons]; omega)
    have g0 : (x :: r).getD 0 (⟨⟨[]⟩⟩ : ByteArray) = x := rfl
    have t0 : F.tkB (x :: r) 0 = true := z2
    have k1 : F.hd1 (x :: r) = F.seq x F.webB := by
      unfold F.hd1 F.tkS
      rw [t0]
      rfl
    cases hw : F.seq x F.webB
    · have la : F.lgA (x :: r) = (false, [], 1) := by unfold F.lgA; rw [k1, hw]; rfl
      simp only [z1, z2, z3, g0, hw, la, Bool.not_true, Bool.not_false, Bool.false_and, cond_true, cond_false]
      rfl
    · cases r with
      | nil =>
        have k2 : F.hd2 [x] = false := rfl
        have la : F.lgA [x] = F.lgL [x] ([x].length + 1 - (1 + F.lead ([x].drop 1))) [] (1 + F.lead ([x].drop 1)) := by unfold F.lgA; rw [k1, hw, k2]; rfl
        have z4 : decide ((1 : Int) < (([x].length : Nat) : Int)) = false := rfl
        rw [la] at hsm ⊢
        simp only [z1, z2, z3, z4, g0, hw, Bool.not_true, Bool.not_false, Bool.true_and, Bool.and_false, cond_true, cond_false]
        exact tl _ hsm
      | cons y r' =>
        have z4 : decide ((1 : Int) < ((x :: y :: r').length : Int)) = true := decide_eq_true (by simp only [List.length_cons]; omega)
        have z5 : decide (1 < (x :: y :: r').length) = true := decide_eq_true (by simp)
        have g1 : (x :: y :: r').getD 1 (⟨⟨[]⟩⟩ : ByteArray) = y := rfl
        have t1 : F.tkB (x :: y :: r') 1 = true := z5
        have ey : F.seq y (⟨⟨[]⟩⟩ : ByteArray) = F.emp y := rfl
        cases he : F.emp y
        · have k2 : F.hd2 (x :: y :: r') = true := by
            unfold F.hd2
            rw [t1, show (x :: y :: r').drop 1 = y :: r' from rfl, F.lead, he]
            rfl
          have la : F.lgA (x :: y :: r') = (false, [], 2) := by unfold F.lgA; rw [k1, hw, k2]; rfl
          simp only [z1, z2, z3, z4, z5, g0, g1, hw, ey, he, la, Bool.not_true, Bool.not_false, Bool.true_and, cond_true, cond_false]
          rfl
        · have k2 : F.hd2 (x :: y :: r') = false := by
            unfold F.hd2
            rw [show (x :: y :: r').drop 1 = y :: r' from rfl, F.lead, he]
            have : (((bif true then F.lead r' + 1 else 0 : Nat) : Int) == 0) = false := by rw [beq_eq_false_iff_ne]; simp only [cond_true]; omega
            rw [this]; rfl
          have la : F.lgA (x :: y :: r') = F.lgL (x :: y :: r') ((x :: y :: r').length + 1 - (1 + F.lead ((x :: y :: r').drop 1))) [] (1 + F.lead ((x :: y :: r').drop 1)) := by unfold F.lgA; rw [k1, hw, k2]; rfl
          rw [la] at hsm ⊢
          simp only [z1, z2, z3, z4, z5, g0, g1, hw, ey, he, Bool.not_true, Bool.not_false, Bool.true_and, cond_true, cond_false]
          exact tl _ hsm

end M
end Go.Proofs.YthcfbeckhgngiaaGreatDoor
