/- What is proved here: ReadShort of the reference (no statement of the seat). -/
import Derived.Test.YthcfbeckhgngiaaDoorC121
import Derived.Test.YthcfbeckhgngiaaDoorC9
namespace Go.Proofs.YthcfbeckhgngiaaDoor
open Go Go.RowKit
set_option linter.unusedVariables false
set_option linter.unusedSimpArgs false

namespace F

/-- Is a line one of times alone, by the reference's reading? -/
def rtmOk (s : ByteArray) : Bool := (rtm s comma).2.2.2 && emp (rtm s comma).2.2.1

theorem rtmOk_eq (s : ByteArray) : ((rtP s comma).2.2.2 && emp (rtP s comma).2.2.1) = rtmOk s := by
  obtain ⟨h1, h2⟩ := rt_eq (s := s) (p := comma) (q := 44) rfl (by decide)
  unfold rtmOk
  cases ho : (rtm s comma).2.2.2
  · rw [h1, ho]; rfl
  · rw [h2 ho]; rw [ho]

theorem rtm_cap {s : ByteArray} (h : (rtm s comma).2.2.2 = true) (ls : List ByteArray) : capOf s ls = ⟨(rtm s comma).1, (rtm s comma).2.1, ls, 0, false, false⟩ := by
  obtain ⟨h1, h2⟩ := rt_eq (s := s) (p := comma) (q := 44) rfl (by decide)
  unfold capOf
  rw [h2 h]

end F

namespace M

def stRi (L : List ByteArray) (out : List Cap) (fr : Int) (tt : Int) (first : Nat) (a : Nat) : St := ⟨[(11, vI first), (8, .ptr 8 0 0), (7, vI a), (6, .own 6), (5, .sl (L.map eStr))], [(8, ⟨true, 0, 0, [[vI fr, vI tt, .sl [], vI 0, vB false, vB false]]⟩), (6, ⟨false, 42, 6, out.map eCap⟩)]⟩

def stRi1 (a : (List ByteArray) × (List Cap) × Int × Int × Nat × Nat) : St := stRi a.1 a.2.1 a.2.2.1 a.2.2.2.1 a.2.2.2.2.1 a.2.2.2.2.2

theorem stRi_inj (a a' : (List ByteArray) × (List Cap) × Int × Int × Nat × Nat) (h : stRi1 a = stRi1 a') : a = a' := by
  simp only [stRi1, stRi] at h
  try simp [strs_inj, ints_inj, bools_inj, eL_eIs_inj, eCaps_inj, eCap_iff, eL_eCaps_inj, eMchs_inj, eMch_iff, eWrds_inj, eWrd_iff, eFnds_inj, eFnd_iff, eRatios_inj, eRatio_iff, eWays_inj, eWay_iff] at h
  grind

theorem unstRi (L : List ByteArray) (out : List Cap) (fr : Int) (tt : Int) (first : Nat) (a : Nat) : unenc stRi1 (St.mk [(11, (vI (↑first : Int))), (8, .ptr 8 0 0), (7, (vI (↑a : Int))), (6, .own 6), (5, AV.sl (List.map eStr L))] [(8, Blk.mk true 0 0 [[(vI fr), (vI tt), AV.sl [], (vI
  (0 : Int)), (vB false), (vB false)]]), (6, Blk.mk false 42 6 (List.map eCap out))]) = some (L, out, fr, tt, first, a) := unenc_of stRi_inj (L, out, fr, tt, first, a) rfl

def outRi (L : List ByteArray) (out : List Cap) (fr : Int) (tt : Int) (first : Nat) (a : Nat) : T (Ex × St) := .ifB (F.scan (L.drop a) a).1
      (.ret (.exit 2, ⟨[(11, vI first), (8, .ptr 8 0 0), (7, vI (F.scan (L.drop a) a).2), (6, .own 6), (5, .sl (L.map eStr))], [(8, ⟨true, 0, 0, [[vI fr, vI tt, .sl [], vI 0, vB false, vB false]]⟩), (6, ⟨false, 42, 6, out.map eCap⟩)]⟩))
      (.ret (.ret, ⟨[(4, vI 10), (3, vI (F.scan (L.drop a) a).2), (2, .own 2)], [(2, ⟨false, 42, 6, []⟩)]⟩))

noncomputable def prlRi (L : List ByteArray) (out : List Cap) (fr : Int) (tt : Int) (first : Nat) (a : Nat) : Bool := F.linesOk L && decide (a ≤ 200001)

noncomputable def lpRi : Nat × (St → T (Ex × St)) := (18, lpo [11, 8, 7, 6, 5] [8, 6] stRi1 (fun a => prlRi a.1 a.2.1 a.2.2.1 a.2.2.2.1 a.2.2.2.2.1 a.2.2.2.2.2) fun a => outRi a.1 a.2.1 a.2.2.1 a.2.2.2.1 a.2.2.2.2.1 a.2.2.2.2.2)

def stRr (L : List ByteArray) (out : List Cap) (a : Nat) : St := ⟨[(7, vI a), (6, .own 6), (5, .sl (L.map eStr))], [(6, ⟨false, 42, 6, out.map eCap⟩)]⟩

def stRr1 (a : (List ByteArray) × (List Cap) × Nat) : St := stRr a.1 a.2.1 a.2.2

theorem stRr_inj (a a' : (List ByteArray) × (List Cap) × Nat) (h : stRr1 a = stRr1 a') : a = a' := by
  simp only [stRr1, stRr] at h
  try simp [strs_inj, ints_inj, bools_inj, eL_eIs_inj, eCaps_inj, eCap_iff, eL_eCaps_inj, eMchs_inj, eMch_iff, eWrds_inj, eWrd_iff, eFnds_inj, eFnd_iff, eRatios_inj, eRatio_iff, eWays_inj, eWay_iff] at h
  grind

theorem unstRr (L : List ByteArray) (out : List Cap) (a : Nat) : unenc stRr1 (St.mk [(7, (vI (↑a : Int))), (6, .own 6), (5, AV.sl (List.map eStr L))] [(6, Blk.mk false 42 6 (List.map eCap out))]) = some (L, out, a) := unenc_of stRr_inj (L, out, a) rfl

theorem unstRr0 (L : List ByteArray) (a : Nat)  : unenc stRr1 (St.mk [(7, (vI (↑a : Int))), (6, .own 6), (5, AV.sl (List.map eStr L))] [(6, Blk.mk false 42 6 [])]) = some (L, [], a) := unenc_of stRr_inj (L, [], a) rfl

def outRr (L : List ByteArray) (out : List Cap) (a : Nat) : T (Ex × St) := .ifB (F.shL L (L.length + 1 - a) out a).1
      (.ret (.exit 0, ⟨[(6, .own 6)], [(6, ⟨false, 42, 6, (F.shL L (L.length + 1 - a) out a).2.1.map eCap⟩)]⟩))
      (.ret (.ret, ⟨[(4, vI 10), (3, vI (F.shL L (L.length + 1 - a) out a).2.2), (2, .own 2)], [(2, ⟨false, 42, 6, []⟩)]⟩))

noncomputable def prlRr (L : List ByteArray) (out : List Cap) (a : Nat) : Bool := F.linesOk L && decide (a ≤ 200001) && decide (out.length ≤ a)

noncomputable def lpRr : Nat × (St → T (Ex × St)) := (6, lpo [7, 6, 5] [6] stRr1 (fun a => prlRr a.1 a.2.1 a.2.2) fun a => outRr a.1 a.2.1 a.2.2)

noncomputable def enRr : Env := envH ty noG lks [oRSp, oEmy, oRNu, oRRt, oRLin, oCln, oRhC] [] [] [lpRr, lpRi]

theorem enRr_ok : EnvOK Tryd.prog enRr := by
  refine envH_ok lks_ok ty_ok ?_ ?_
  · simp only [List.forall_mem_cons]
    exact ⟨okRSp, okEmy, okRNu, okRRt, okRLin, okCln, okRhC, by simp⟩
  · simp

theorem evRiL (L : List ByteArray) (out : List Cap) (fr : Int) (tt : Int) (first : Nat) (a : Nat) : ((exec enRr (loopN Tryd.f6 1) (stRi L out fr tt first a)).bind (lessX ([11, 8, 7, 6, 5], [8, 6]) ([11, 8, 7, 6, 5], [8, 6]) ([4, 3, 2], [2]))).val =
  bif decide ((↑a : Int) < (↑(List.length (List.map eStr L)) : Int)) then Option.bind (unenc (List.map eStr) (List.map eStr L)) fun (z : List ByteArray) => bif decide (a <
  List.length z) then bif !ByteArray.toList (List.getD z a (ByteArray.mk (Array.mk []))) == ByteArray.toList (ByteArray.mk (Array.mk [])) then Option.bind (unenc (List.map
  eStr) (List.map eStr L)) fun (z : List ByteArray) => bif decide (a < List.length z) then Option.bind (unenc encRLin [(vS (List.getD z a (ByteArray.mk (Array.mk []))))])
  fun (z : ByteArray) => bif F.small z then bif !F.line z then some (Ex.ret, St.mk [(4, (vI (10 : Int))), (3, (vI (IntKind.wrap IntKind.i64 ((↑a : Int) + (1 : Int))))), (2,
  .own 2)] [(2, Blk.mk false 42 6 [])]) else some (Ex.normal, St.mk [(11, (vI (↑first : Int))), (8, .ptr 8 0 0), (7, (vI (IntKind.wrap IntKind.i64 ((↑a : Int) + (1 :
  Int))))), (6, .own 6), (5, AV.sl (List.map eStr L))] [(8, Blk.mk true 0 0 [[(vI fr), (vI tt), AV.sl [], (vI (0 : Int)), (vB false), (vB false)]]), (6, Blk.mk false 42 6
  (List.map eCap out))]) else none else none else some (Ex.exit (2 : Nat), St.mk [(11, (vI (↑first : Int))), (8, .ptr 8 0 0), (7, (vI (↑a : Int))), (6, .own 6), (5, AV.sl
  (List.map eStr L))] [(8, Blk.mk true 0 0 [[(vI fr), (vI tt), AV.sl [], (vI (0 : Int)), (vB false), (vB false)]]), (6, Blk.mk false 42 6 (List.map eCap out))]) else none
  else some (Ex.exit (2 : Nat), St.mk [(11, (vI (↑first : Int))), (8, .ptr 8 0 0), (7, (vI (↑a : Int))), (6, .own 6), (5, AV.sl (List.map eStr L))] [(8, Blk.mk true 0 0
  [[(vI fr), (vI tt), AV.sl [], (vI (0 : Int)), (vB false), (vB false)]]), (6, Blk.mk false 42 6 (List.map eCap out))]) := (execR_bind _ _ _).symm.trans (by kernel_rfl)

theorem lpRi_ok (L : List ByteArray) (out : List Cap) (fr : Int) (tt : Int) (first : Nat) (a : Nat) (hp : prlRi L out fr tt first a = true) : ∀ ex s', (outRi L out fr tt first a).val = some (ex, s') → LoopOK enRr (loopN Tryd.f6 1) (stRi L out fr tt first a) ex s' := by
  simp only [prlRi, Bool.and_eq_true, decide_eq_true_eq] at hp
  obtain ⟨h1, h2⟩ := hp
  have hL : L.length ≤ 200001 ∧ L.all F.small = true := by simpa [F.linesOk] using h1
  refine loop_gen (st := fun b : Nat => stRi L out fr tt first b) (out := fun b => outRi L out fr tt first b) (I := fun b => b ≤ 200001) (n := ([11, 8, 7, 6, 5], [8, 6])) (e := ([11, 8, 7, 6, 5], [8, 6])) (r := ([4, 3, 2], [2])) (fun b => L.length - b) ?_ a h2
  intro a i1
  have w1 : IntKind.i64.wrap ((a : Int) + 1) = ((a + 1 : Nat) : Int) := by rw [wrap_id (by omega) (by omega)]; rfl
  by_cases ha : a < L.length
  · have hy : L[a]? = some L[a] := List.getElem?_eq_getElem ha
    generalize L[a] = y at hy
    have hd := drop_q hy
    have ey : (y.toList == (⟨⟨[]⟩⟩ : ByteArray).toList) = F.emp y := rfl
    have hys : F.small y = true := List.all_eq_true.1 hL.2 y (List.mem_of_getElem? hy)
    cases he : F.emp y
    · cases hl : F.line y
      · left
        refine ⟨(.ret, ⟨[(4, vI 10), (3, vI (a + 1 : Nat)), (2, .own 2)], [(2, ⟨false, 42, 6, []⟩)]⟩), ?_, ?_, by simp, rfl⟩
        · rw [evRiL]
          simp only [unRSp, unEmy, unRNu, unRRt, unRLin, unCln, unRhC, preRSp1, preEmy1, preRNu1, preRRt1, preRLin1, preCln1, preRhC1, unstRr, unstRi, unstRr0, prlRr, prlRi, outRr, outRi, etaCap, etaMch, etaWrd, etaFnd, etaRatio, etaWay, Option.bind_some, List.length_map, unStrs, unInts, unBools, uneL_eIs, unCaps, uneL_eCaps, unMchs, unWrds, unFnds, unRatios, unWays, F.lt, F.le, cond_true, cond_false, Bool.and_true, Bool.true_and, cast_lt ha, decide_eq_true ha, getD_at hy, ey, he, hl, hys, w1, Bool.not_true, Bool.not_false]
          try rfl
        · simp only [outRi, hd, F.scan, he, hl, cond_false]
          rfl
      · right
        refine ⟨a + 1, ?_, rfl, by omega, by omega, ?_⟩
        · rw [evRiL]
          simp only [unRSp, unEmy, unRNu, unRRt, unRLin, unCln, unRhC, preRSp1, preEmy1, preRNu1, preRRt1, preRLin1, preCln1, preRhC1, unstRr, unstRi, unstRr0, prlRr, prlRi, outRr, outRi, etaCap, etaMch, etaWrd, etaFnd, etaRatio, etaWay, Option.bind_some, List.length_map, unStrs, unInts, unBools, uneL_eIs, unCaps, uneL_eCaps, unMchs, unWrds, unFnds, unRatios, unWays, F.lt, F.le, cond_true, cond_false, Bool.and_true, Bool.true_and, cast_lt ha, decide_eq_true ha, getD_at hy, ey, he, hl, hys, w1, Bool.not_true, Bool.not_false]
          try rfl
        · simp only [outRi, hd, F.scan, he, hl, cond_false, cond_true]
    · left
      refine ⟨(.exit 2, ⟨[(11, vI first), (8, .ptr 8 0 0), (7, vI a), (6, .own 6), (5, .sl (L.map eStr))], [(8, ⟨true, 0, 0, [[vI fr, vI tt, .sl [], vI 0, vB false, vB false]]⟩), (6, ⟨false, 42, 6, out.map eCap⟩)]⟩), ?_, ?_, by simp, rfl⟩
      · rw [evRiL]
        simp only [unRSp, unEmy, unRNu, unRRt, unRLin, unCln, unRhC, preRSp1, preEmy1, preRNu1, preRRt1, preRLin1, preCln1, preRhC1, unstRr, unstRi, unstRr0, prlRr, prlRi, outRr, outRi, etaCap, etaMch, etaWrd, etaFnd, etaRatio, etaWay, Option.bind_some, List.length_map, unStrs, unInts, unBools, uneL_eIs, unCaps, uneL_eCaps, unMchs, unWrds, unFnds, unRatios, unWays, F.lt, F.le, cond_true, cond_false, Bool.and_true, Bool.true_and, cast_lt ha, decide_eq_true ha, getD_at hy, ey, he, Bool.not_true, Bool.not_false]
        try rfl
      · simp only [outRi, hd, F.scan, he, cond_true]
        rfl
  · have hd : L.drop a = [] := List.drop_eq_nil_of_le (by omega)
    left
    refine ⟨(.exit 2, ⟨[(11, vI first), (8, .ptr 8 0 0), (7, vI a), (6, .own 6), (5, .sl (L.map eStr))], [(8, ⟨true, 0, 0, [[vI fr, vI tt, .sl [], vI 0, vB false, vB false]]⟩), (6, ⟨false, 42, 6, out.map eCap⟩)]⟩), ?_, ?_, by simp, rfl⟩
    · rw [evRiL]
      simp only [unRSp, unEmy, unRNu, unRRt, unRLin, unCln, unRhC, preRSp1, preEmy1, preRNu1, preRRt1, preRLin1, preCln1, preRhC1, unstRr, unstRi, unstRr0, prlRr, prlRi, outRr, outRi, etaCap, etaMch, etaWrd, etaFnd, etaRatio, etaWay, Option.bind_some, List.length_map, unStrs, unInts, unBools, uneL_eIs, unCaps, uneL_eCaps, unMchs, unWrds, unFnds, unRatios, unWays, F.lt, F.le, cond_true, cond_false, Bool.and_true, Bool.true_and, decide_eq_false (show ¬ (a : Int) < (L.length : Int) by omega)]
      try rfl
    · simp only [outRi, hd, F.scan]
      rfl

theorem evRrL (L : List ByteArray) (out : List Cap) (a : Nat) : ((exec enRr (loopN Tryd.f6 0) (stRr L out a)).bind (lessX ([7, 6, 5], [6]) ([6], [6]) ([4, 3, 2], [2]))).val =
  bif decide ((↑a : Int) < (↑(List.length (List.map eStr L)) : Int)) then Option.bind (unenc (List.map eStr) (List.map eStr L)) fun (z : List ByteArray) => bif decide (a <
  List.length z) then Option.bind (unenc encRNu [(vS (List.getD z a (ByteArray.mk (Array.mk []))))]) fun (z : ByteArray) => bif F.small z then bif !F.isNum z then some
  (Ex.ret, St.mk [(4, (vI (10 : Int))), (3, (vI (IntKind.wrap IntKind.i64 ((↑a : Int) + (1 : Int))))), (2, .own 2)] [(2, Blk.mk false 42 6 [])]) else bif IntKind.wrap
  IntKind.i64 ((↑a : Int) + (1 : Int)) == (↑(List.length (List.map eStr L)) : Int) then some (Ex.ret, St.mk [(4, (vI (10 : Int))), (3, (vI (IntKind.wrap IntKind.i64
  (IntKind.wrap IntKind.i64 ((↑a : Int) + (1 : Int)) + (1 : Int))))), (2, .own 2)] [(2, Blk.mk false 42 6 [])]) else Option.bind (idx (IntKind.wrap IntKind.i64 ((↑a : Int) +
  (1 : Int)))) fun (z : Nat) => Option.bind (unenc (List.map eStr) (List.map eStr L)) fun (z_1 : List ByteArray) => bif decide (z < List.length z_1) then Option.bind (unenc
  encRRt [(vS (List.getD z_1 z (ByteArray.mk (Array.mk [])))), (vS (ByteArray.mk (Array.mk [(44 : UInt8)])))]) fun (z : ByteArray × ByteArray) => bif F.small z.fst then bif
  bif !(F.rtm z.fst z.snd).snd.snd.snd then true else !ByteArray.toList (F.rtm z.fst z.snd).snd.snd.fst == ByteArray.toList (ByteArray.mk (Array.mk [])) then some (Ex.ret,
  St.mk [(4, (vI (10 : Int))), (3, (vI (IntKind.wrap IntKind.i64 (IntKind.wrap IntKind.i64 ((↑a : Int) + (1 : Int)) + (1 : Int))))), (2, .own 2)] [(2, Blk.mk false 42 6
  [])]) else Option.bind (unenc stRi1 (St.mk [(11, (vI (IntKind.wrap IntKind.i64 (IntKind.wrap IntKind.i64 ((↑a : Int) + (1 : Int)) + (1 : Int))))), (8, .ptr 8 0 0), (7, (vI
  (IntKind.wrap IntKind.i64 (IntKind.wrap IntKind.i64 ((↑a : Int) + (1 : Int)) + (1 : Int))))), (6, .own 6), (5, AV.sl (List.map eStr L))] [(8, Blk.mk true 0 0 [[(vI (F.rtm
  z.fst z.snd).fst), (vI (F.rtm z.fst z.snd).snd.fst), AV.sl [], (vI (0 : Int)), (vB false), (vB false)]]), (6, Blk.mk false 42 6 (List.map eCap out))])) fun (z : List
  ByteArray × List Cap × Int × Int × Nat × Nat) => bif F.linesOk z.fst && decide (z.snd.snd.snd.snd.snd ≤ (200001 : Nat)) && true then bif (F.scan (List.drop
  z.snd.snd.snd.snd.snd z.fst) z.snd.snd.snd.snd.snd).fst then bif (↑(F.scan (List.drop z.snd.snd.snd.snd.snd z.fst) z.snd.snd.snd.snd.snd).snd : Int) ==
  (↑z.snd.snd.snd.snd.fst : Int) then some (Ex.ret, St.mk [(4, (vI (10 : Int))), (3, (vI (IntKind.wrap IntKind.i64 ((↑(F.scan (List.drop z.snd.snd.snd.snd.snd z.fst)
  z.snd.snd.snd.snd.snd).snd : Int) + (1 : Int))))), (2, .own 2)] [(2, Blk.mk false 42 6 [])]) else bif Nat.ble z.snd.snd.snd.snd.fst (F.scan (List.drop
  z.snd.snd.snd.snd.snd z.fst) z.snd.snd.snd.snd.snd).snd && Nat.ble (F.scan (List.drop z.snd.snd.snd.snd.snd z.fst) z.snd.snd.snd.snd.snd).snd (List.length (List.map eStr
  z.fst)) && List.all (List.map eStr z.fst) fun (r : Row) => Nat.beq (List.length r) (1 : Nat) then Option.bind (unenc encCln [AV.sl (List.drop z.snd.snd.snd.snd.fst
  (List.take (F.scan (List.drop z.snd.snd.snd.snd.snd z.fst) z.snd.snd.snd.snd.snd).snd (List.map eStr z.fst)))]) fun (z_2 : List ByteArray) => bif decide (List.length z_2 *
  (16 : Nat) ≤ (140737488355328 : Nat)) then bif Nat.ble ((List.length (List.map eCap z.snd.fst) + (1 : Nat)) * (56 : Nat)) (140737488355328 : Nat) && true then Option.bind
  (unenc encEmy [AV.sl (List.map eStr z.fst), (vI (↑(F.scan (List.drop z.snd.snd.snd.snd.snd z.fst) z.snd.snd.snd.snd.snd).snd : Int))]) fun (z_3 : List ByteArray × Nat) =>
  bif decide (List.length z_3.fst ≤ (200001 : Nat)) && decide (z_3.snd ≤ (200001 : Nat)) then some (Ex.normal, St.mk [(7, (vI (↑(z_3.snd + F.lead (List.drop z_3.snd
  z_3.fst)) : Int))), (6, .own 6), (5, AV.sl (List.map eStr z.fst))] [(6, Blk.mk false 42 6 (List.map eCap z.snd.fst ++ [[(vI z.snd.snd.fst), (vI z.snd.snd.snd.fst), AV.sl
  (List.map eStr z_2), (vI (0 : Int)), (vB false), (vB false)]]))]) else none else none else none else none else some (Ex.ret, St.mk [(4, (vI (10 : Int))), (3, (vI (↑(F.scan
  (List.drop z.snd.snd.snd.snd.snd z.fst) z.snd.snd.snd.snd.snd).snd : Int))), (2, .own 2)] [(2, Blk.mk false 42 6 [])]) else none else none else none else none else none
  else some (Ex.exit (0 : Nat), St.mk [(6, .own 6)] [(6, Blk.mk false 42 6 (List.map eCap out))]) := (execR_bind _ _ _).symm.trans (by kernel_rfl)

theorem lpRr_ok (L : List ByteArray) (out : List Cap) (a : Nat) (hp : prlRr L out a = true) : ∀ ex s', (outRr L out a).val = some (ex, s') → LoopOK enRr (loopN Tryd.f6 0) (stRr L out a) ex s' := by
  simp only [prlRr, Bool.and_eq_true, decide_eq_true_eq] at hp
  obtain ⟨⟨h1, h2⟩, h3⟩ := hp
  have hL : L.length ≤ 200001 ∧ L.all F.small = true := by simpa [F.linesOk] using h1
  refine loop_gen (st := fun b : List Cap × Nat => stRr L b.1 b.2) (out := fun b => outRr L b.1 b.2) (I := fun b => b.2 ≤ 200001 ∧ b.1.length ≤ b.2) (n := ([7, 6, 5], [6])) (e := ([6], [6])) (r := ([4, 3, 2], [2])) (fun b => L.length + 1 - b.2) ?_ (out, a) ⟨h2, h3⟩
  rintro ⟨out, a⟩ ⟨i1, i2⟩
  simp only at i1 i2
  have w1 : IntKind.i64.wrap ((a : Int) + 1) = ((a + 1 : Nat) : Int) := by rw [wrap_id (by omega) (by omega)]; rfl
  have w2 : IntKind.i64.wrap (((a + 1 : Nat) : Int) + 1) = ((a + 1 + 1 : Nat) : Int) := by rw [wrap_id (by omega) (by omega)]; rfl
  have ec : (⟨⟨[44]⟩⟩ : ByteArray) = F.comma := rfl
  have ey : ∀ y : ByteArray, (y.toList == (⟨⟨[]⟩⟩ : ByteArray).toList) = F.emp y := fun _ => rfl
  cases ht : F.tkB L a
  · left
    have ha : ¬ a < L.length := by simpa [F.tkB] using ht
    refine ⟨(.exit 0, ⟨[(6, .own 6)], [(6, ⟨false, 42, 6, out.map eCap⟩)]⟩), ?_, ?_, by simp, rfl⟩
    · rw [evRrL]
      simp only [unRSp, unEmy, unRNu, unRRt, unRLin, unCln, unRhC, preRSp1, preEmy1, preRNu1, preRRt1, preRLin1, preCln1, preRhC1, unstRr, unstRi, unstRr0, prlRr, prlRi, outRr, outRi, etaCap, etaMch, etaWrd, etaFnd, etaRatio, etaWay, Option.bind_some, List.length_map, unStrs, unInts, unBools, uneL_eIs, unCaps, uneL_eCaps, unMchs, unWrds, unFnds, unRatios, unWays, F.lt, F.le, cond_true, cond_false, Bool.and_true, Bool.true_and, decide_eq_false (show ¬ (a : Int) < (L.length : Int) by omega)]
      try rfl
    · have : F.shL L (L.length + 1 - a) out a = (true, out, a) := by
        cases L.length + 1 - a with
        | zero => rfl
        | succ f => rw [F.shL, ht]; rfl
      simp only [outRr, this]
      rfl
  have ha : a < L.length := by simpa [F.tkB] using ht
  obtain ⟨f, hf⟩ : ∃ f, L.length + 1 - a = f + 1 := ⟨L.length - a, by omega⟩
  have hy : L[a]? = some L[a] := List.getElem?_eq_getElem ha
  generalize L[a] = y at hy
  have hys : F.small y = true := List.all_eq_true.1 hL.2 y (List.mem_of_getElem? hy)
  have hS : F.tkS L a = y := by unfold F.tkS; rw [ht, cond_true]; exact getD_at hy
  cases hn : F.isNum y
  · left
    refine ⟨(.ret, ⟨[(4, vI 10), (3, vI (a + 1 : Nat)), (2, .own 2)], [(2, ⟨false, 42, 6, []⟩)]⟩), ?_, ?_, by simp, rfl⟩
    · rw [evRrL]
      simp only [unRSp, unEmy, unRNu, unRRt, unRLin, unCln, unRhC, preRSp1, preEmy1, preRNu1, preRRt1, preRLin1, preCln1, preRhC1, unstRr, unstRi, unstRr0, prlRr, prlRi, outRr, outRi, etaCap, etaMch, etaWrd, etaFnd, etaRatio, etaWay, Option.bind_some, List.length_map, unStrs, unInts, unBools, uneL_eIs, unCaps, uneL_eCaps, unMchs, unWrds, unFnds, unRatios, unWays, F.lt, F.le, cond_true, cond_false, Bool.and_true, Bool.true_and, cast_lt ha, decide_eq_true ha, getD_at hy, hn, hys, w1, Bool.not_true, Bool.not_false]
      try rfl
    · simp only [outRr, hf, F.shL, ht, hS, hn, cond_true, cond_false]
      rfl
  have failT : F.tmOk L (a + 1) = false → (outRr L out a).val = some (.ret, ⟨[(4, vI 10), (3, vI (a + 1 + 1 : Nat)), (2, .own 2)], [(2, ⟨false, 42, 6, []⟩)]⟩) := fun w => by
    simp only [outRr, hf, F.shL, ht, hS, hn, w, cond_true, cond_false]
    rfl
  have e12 : (((a + 1 : Nat) : Int) == (L.length : Int)) = !F.tkB L (a + 1) := by
    unfold F.tkB
    by_cases h : a + 1 < L.length
    · rw [decide_eq_true h, beq_eq_false_iff_ne.2 (by omega)]; rfl
    · rw [decide_eq_false h, beq_iff_eq.2 (show ((a + 1 : Nat) : Int) = (L.length : Int) by omega)]; rfl
  cases hk : F.tkB L (a + 1)
  · left
    refine ⟨_, ?_, failT (by unfold F.tmOk; rw [hk]; rfl), by simp, rfl⟩
    rw [evRrL]
    simp only [unRSp, unEmy, unRNu, unRRt, unRLin, unCln, unRhC, preRSp1, preEmy1, preRNu1, preRRt1, preRLin1, preCln1, preRhC1, unstRr, unstRi, unstRr0, prlRr, prlRi, outRr, outRi, etaCap, etaMch, etaWrd, etaFnd, etaRatio, etaWay, Option.bind_some, List.length_map, unStrs, unInts, unBools, uneL_eIs, unCaps, uneL_eCaps, unMchs, unWrds, unFnds, unRatios, unWays, F.lt, F.le, cond_true, cond_false, Bool.and_true, Bool.true_and, cast_lt ha, decide_eq_true ha, getD_at hy, hn, hys, w1, w2, e12, hk, Bool.not_true, Bool.not_false]
    try rfl
  have ha1 : a + 1 < L.length := by simpa [F.tkB] using hk
  have hi1 : idx ((a + 1 : Nat) : Int) = some (a + 1) := rfl
  have hz : L[a + 1]? = some L[a + 1] := List.getElem?_eq_getElem ha1
  generalize L[a + 1] = z at hz
  have hzs : F.small z = true := List.all_eq_true.1 hL.2 z (List.mem_of_getElem? hz)
  have hS2 : F.tkS L (a + 1) = z := by unfold F.tkS; rw [hk, cond_true]; exact getD_at hz
  have htm : F.tmOk L (a + 1) = F.rtmOk z := by unfold F.tmOk; rw [hk, hS2, Bool.true_and, F.rtmOk_eq]
  cases hg : (F.rtm z F.comma).2.2.2
  · left
    refine ⟨_, ?_, failT (by rw [htm]; unfold F.rtmOk; rw [hg]; rfl), by simp, rfl⟩
    rw [evRrL]
    simp only [unRSp, unEmy, unRNu, unRRt, unRLin, unCln, unRhC, preRSp1, preEmy1, preRNu1, preRRt1, preRLin1, preCln1, preRhC1, unstRr, unstRi, unstRr0, prlRr, prlRi, outRr, outRi, etaCap, etaMch, etaWrd, etaFnd, etaRatio, etaWay, Option.bind_some, List.length_map, unStrs, unInts, unBools, uneL_eIs, unCaps, uneL_eCaps, unMchs, unWrds, unFnds, unRatios, unWays, F.lt, F.le, cond_true, cond_false, Bool.and_true, Bool.true_and, cast_lt ha, decide_eq_true ha, decide_eq_true ha1, getD_at hy, getD_at hz, hn, hys, hzs, w1, w2, e12, hk, hi1, ec, ey, hg, Bool.not_true, Bool.not_false]
    done
  cases he : F.emp (F.rtm z F.comma).2.2.1
  · left
    refine ⟨_, ?_, failT (by rw [htm]; unfold F.rtmOk; rw [hg, he]; rfl), by simp, rfl⟩
    rw [evRrL]
    simp only [unRSp, unEmy, unRNu, unRRt, unRLin, unCln, unRhC, preRSp1, preEmy1, preRNu1, preRRt1, preRLin1, preCln1, preRhC1, unstRr, unstRi, unstRr0, prlRr, prlRi, outRr, outRi, etaCap, etaMch, etaWrd, etaFnd, etaRatio, etaWay, Option.bind_some, List.length_map, unStrs, unInts, unBools, uneL_eIs, unCaps, uneL_eCaps, unMchs, unWrds, unFnds, unRatios, unWays, F.lt, F.le, cond_true, cond_false, Bool.and_true, Bool.true_and, cast_lt ha, decide_eq_true ha, decide_eq_true ha1, getD_at hy, getD_at hz, hn, hys, hzs, w1, w2, e12, hk, hi1, ec, ey, hg, Bool.not_true, Bool.not_false, he]
    try rfl
  have htm2 : F.tmOk L (a + 1) = true := by rw [htm]; unfold F.rtmOk; rw [hg, he]; rfl
  have w3 : decide (a + 1 + 1 ≤ 200001) = true := decide_eq_true (by omega)
  have sg := F.scan_ge (L.drop (a + 1 + 1)) (a + 1 + 1)
  have sl := F.scan_le (L.drop (a + 1 + 1)) (a + 1 + 1)
  rw [List.length_drop] at sl
  obtain ⟨q1, q2, q3⟩ := F.bd_first (L.drop (a + 1 + 1)) (a + 1 + 1)
  have w4 : IntKind.i64.wrap (((F.scan (L.drop (a + 1 + 1)) (a + 1 + 1)).2 : Int) + 1) = (((F.scan (L.drop (a + 1 + 1)) (a + 1 + 1)).2 + 1 : Nat) : Int) := by rw [wrap_id (by omega) (by omega)]; rfl
  cases hs : (F.scan (L.drop (a + 1 + 1)) (a + 1 + 1)).1
  · left
    obtain ⟨r1, r2⟩ := q3 hs
    refine ⟨(.ret, ⟨[(4, vI 10), (3, vI (F.scan (L.drop (a + 1 + 1)) (a + 1 + 1)).2), (2, .own 2)], [(2, ⟨false, 42, 6, []⟩)]⟩), ?_, ?_, by simp, rfl⟩
    · rw [evRrL]
      simp only [unRSp, unEmy, unRNu, unRRt, unRLin, unCln, unRhC, preRSp1, preEmy1, preRNu1, preRRt1, preRLin1, preCln1, preRhC1, unstRr, unstRi, unstRr0, prlRr, prlRi, outRr, outRi, etaCap, etaMch, etaWrd, etaFnd, etaRatio, etaWay, Option.bind_some, List.length_map, unStrs, unInts, unBools, uneL_eIs, unCaps, uneL_eCaps, unMchs, unWrds, unFnds, unRatios, unWays, F.lt, F.le, cond_true, cond_false, Bool.and_true, Bool.true_and, cast_lt ha, decide_eq_true ha, decide_eq_true ha1, getD_at hy, getD_at hz, hn, hys, hzs, w1, w2, e12, hk, hi1, ec, ey, hg, Bool.not_true, Bool.not_false, he, h1, w3, hs, Bool.and_self]
      try rfl
    · simp only [outRr, hf, F.shL, ht, hS, hn, htm2, r1, r2, cond_true, cond_false]
      rfl
  by_cases hq : (F.scan (L.drop (a + 1 + 1)) (a + 1 + 1)).2 = a + 1 + 1
  · left
    obtain ⟨r1, r2⟩ := q2 hs hq
    have eq1 : (((F.scan (L.drop (a + 1 + 1)) (a + 1 + 1)).2 : Int) == ((a + 1 + 1 : Nat) : Int)) = true := by rw [hq]; simp
    refine ⟨(.ret, ⟨[(4, vI 10), (3, vI (a + 1 + 1 + 1 : Nat)), (2, .own 2)], [(2, ⟨false, 42, 6, []⟩)]⟩), ?_, ?_, by simp, rfl⟩
    · rw [evRrL]
      simp only [unRSp, unEmy, unRNu, unRRt, unRLin, unCln, unRhC, preRSp1, preEmy1, preRNu1, preRRt1, preRLin1, preCln1, preRhC1, unstRr, unstRi, unstRr0, prlRr, prlRi, outRr, outRi, etaCap, etaMch, etaWrd, etaFnd, etaRatio, etaWay, Option.bind_some, List.length_map, unStrs, unInts, unBools, uneL_eIs, unCaps, uneL_eCaps, unMchs, unWrds, unFnds, unRatios, unWays, F.lt, F.le, cond_true, cond_false, Bool.and_true, Bool.true_and, cast_lt ha, decide_eq_true ha, decide_eq_true ha1, getD_at hy, getD_at hz, hn, hys, hzs, w1, w2, e12, hk, hi1, ec, ey, hg, Bool.not_true, Bool.not_false, he, h1, w3, hs, eq1, w4, Bool.and_self]
      rw [hq]
      try rfl
    · simp only [outRr, hf, F.shL, ht, hS, hn, htm2, r1, r2, cond_true, cond_false]
      rfl
  · right
    have r1 := q1 hs hq
    have eq1 : (((F.scan (L.drop (a + 1 + 1)) (a + 1 + 1)).2 : Int) == ((a + 1 + 1 : Nat) : Int)) = false := by rw [beq_eq_false_iff_ne]; omega
    have b3 := F.lead_le (L.drop (F.scan (L.drop (a + 1 + 1)) (a + 1 + 1)).2)
    rw [List.length_drop] at b3
    have hc := F.rtm_cap hg ((L.drop (a + 1 + 1)).take ((F.scan (L.drop (a + 1 + 1)) (a + 1 + 1)).2 - (a + 1 + 1)))
    refine ⟨(out ++ [F.capOf z ((L.drop (a + 1 + 1)).take ((F.scan (L.drop (a + 1 + 1)) (a + 1 + 1)).2 - (a + 1 + 1)))], (F.scan (L.drop (a + 1 + 1)) (a + 1 + 1)).2 + F.lead (L.drop (F.scan (L.drop (a + 1 + 1)) (a + 1 + 1)).2)), ?_, rfl, ⟨by simp only; omega, by simp; omega⟩, by simp only; omega, ?_⟩
    · rw [evRrL]
      simp only [unRSp, unEmy, unRNu, unRRt, unRLin, unCln, unRhC, preRSp1, preEmy1, preRNu1, preRRt1, preRLin1, preCln1, preRhC1, unstRr, unstRi, unstRr0, prlRr, prlRi, outRr, outRi, etaCap, etaMch, etaWrd, etaFnd, etaRatio, etaWay, Option.bind_some, List.length_map, unStrs, unInts, unBools, uneL_eIs, unCaps, uneL_eCaps, unMchs, unWrds, unFnds, unRatios, unWays, F.lt, F.le, cond_true, cond_false, Bool.and_true, Bool.true_and, cast_lt ha, decide_eq_true ha, decide_eq_true ha1, getD_at hy, getD_at hz, hn, hys, hzs, w1, w2, e12, hk, hi1, ec, ey, hg, Bool.not_true, Bool.not_false, he, h1, w3, hs, eq1, w4, Bool.and_self]
      clear failT q1 q2 q3 eq1 w4
      generalize (F.scan (L.drop (a + 1 + 1)) (a + 1 + 1)).2 = e at *
      have ex : List.drop (a + 1 + 1) (List.take e (L.map eStr)) = ((L.drop (a + 1 + 1)).take (e - (a + 1 + 1))).map eStr := by rw [List.map_take, List.map_drop, List.drop_take]
      have el : ((L.drop (a + 1 + 1)).take (e - (a + 1 + 1))).length ≤ 200001 := by
        have := List.length_take_le (e - (a + 1 + 1)) (L.drop (a + 1 + 1))
        rw [List.length_take, List.length_drop]; omega
      have em : out.map eCap ++ [[vI (F.rtm z F.comma).1, vI (F.rtm z F.comma).2.1, .sl (((L.drop (a + 1 + 1)).take (e - (a + 1 + 1))).map eStr), vI 0, vB false, vB false]] = (out ++ [F.capOf z ((L.drop (a + 1 + 1)).take (e - (a + 1 + 1)))]).map eCap := by
        rw [List.map_append, hc]; rfl
      rw [ble_t sg, ble_t (show e ≤ L.length by omega), all_strs, ex]
      simp only [unCln, Option.bind_some, Bool.and_self, cond_true]
      rw [em, decide_eq_true (show ((L.drop (a + 1 + 1)).take (e - (a + 1 + 1))).length * 16 ≤ 140737488355328 by omega), ble_t (show (out.length + 1) * 56 ≤ 140737488355328 by omega), decide_eq_true hL.1, decide_eq_true (show e ≤ 200001 by omega)]
      rfl
    · have key := F.shL_fuel L (L.length + 1 - ((F.scan (L.drop (a + 1 + 1)) (a + 1 + 1)).2 + F.lead (L.drop (F.scan (L.drop (a + 1 + 1)) (a + 1 + 1)).2))) f (out ++ [F.capOf z ((L.drop (a + 1 + 1)).take ((F.scan (L.drop (a + 1 + 1)) (a + 1 + 1)).2 - (a + 1 + 1)))]) ((F.scan (L.drop (a + 1 + 1)) (a + 1 + 1)).2 + F.lead (L.drop (F.scan (L.drop (a + 1 + 1)) (a + 1 + 1)).2)) (by omega) (by omega)
      simp only [outRr, hf, F.shL, ht, hS, hS2, hn, htm2, r1, cond_true, cond_false, key]

theorem evRr (s : ByteArray) : (runF enRr false Tryd.f6 [vS s]).val =
  bif decide ((200000 : Int) < (↑(ByteArray.size s) : Int)) then some (AV.tup [AV.sl [], (vI (0 : Int)), (vI (2 : Int))], []) else Option.bind (unenc encRSp [(vS s)]) fun (z
  : ByteArray) => bif F.small z then Option.bind (unenc encEmy [AV.sl (List.map eStr (F.lns z)), (vI (0 : Int))]) fun (z_1 : List ByteArray × Nat) => bif decide (List.length
  z_1.fst ≤ (200001 : Nat)) && decide (z_1.snd ≤ (200001 : Nat)) then Option.bind (unenc stRr1 (St.mk [(7, (vI (↑(z_1.snd + F.lead (List.drop z_1.snd z_1.fst)) : Int))), (6,
  .own 6), (5, AV.sl (List.map eStr (F.lns z)))] [(6, Blk.mk false 42 6 [])])) fun (z : List ByteArray × List Cap × Nat) => bif F.linesOk z.fst && decide (z.snd.snd ≤
  (200001 : Nat)) && decide (List.length z.snd.fst ≤ z.snd.snd) && true then bif (F.shL z.fst (List.length z.fst + (1 : Nat) - z.snd.snd) z.snd.fst z.snd.snd).fst then
  Option.bind (unenc encRhC [AV.sl (List.map eCap (F.shL z.fst (List.length z.fst + (1 : Nat) - z.snd.snd) z.snd.fst z.snd.snd).snd.fst)]) fun (z_2 : List Cap) => bif F.smC
  z_2 then bif F.chkC z_2 != (0 : Int) then some (AV.tup [AV.sl [], (vI (0 : Int)), (vI (F.chkC z_2))], []) else some (AV.tup [AV.sl (List.map eCap (F.shL z.fst (List.length
  z.fst + (1 : Nat) - z.snd.snd) z.snd.fst z.snd.snd).snd.fst), (vI (0 : Int)), (vI (0 : Int))], []) else none else some (AV.tup [AV.sl [], (vI (↑(F.shL z.fst (List.length
  z.fst + (1 : Nat) - z.snd.snd) z.snd.fst z.snd.snd).snd.snd : Int)), (vI (10 : Int))], []) else none else none else none := (runFR_val).symm.trans (by kernel_rfl)

def encRr1 (s : ByteArray) : List AV := [vS s]

def encRr (a : ByteArray) : List AV := encRr1 a

theorem encRr_inj (a a' : ByteArray) (h : encRr a = encRr a') : a = a' := by
  simp only [encRr, encRr1] at h
  try simp [strs_inj, ints_inj, bools_inj, eL_eIs_inj, eCaps_inj, eCap_iff, eL_eCaps_inj, eMchs_inj, eMch_iff, eWrds_inj, eWrd_iff, eFnds_inj, eFnd_iff, eRatios_inj, eRatio_iff, eWays_inj, eWay_iff] at h
  grind

theorem unRr (s : ByteArray) : unenc encRr ([(vS s)]) = some (s) := unenc_of encRr_inj (s) rfl

def resRr1 (s : ByteArray) : AV × Heap := (.tup [.sl ((F.rdSh s).1.map eCap), vI (F.rdSh s).2.1, vI (F.rdSh s).2.2], [])

def preRr1 (s : ByteArray) : Bool := F.small s

noncomputable def oRr : Orc := orc 6 false encRr (fun a => preRr1 a) fun a => resRr1 a

theorem okRr : OrcOK Tryd.prog noG oRr := by
  refine mk_ok Tryd.f6 (keep := false) (by kernel_rfl) (by kernel_rfl) enRr_ok mixed (two_loops (x0 := loopN Tryd.f6 0) (x1 := loopN Tryd.f6 1) (by kernel_rfl) (lpo_ok ?_) (lpo_ok ?_)) (by first | exact fun _ _ => ⟨rfl, rfl⟩ | (intro h; cases h)) ?_
  · rintro ⟨L, out, a⟩ hp
    exact lpRr_ok L out a hp
  · rintro ⟨L, out, fr, tt, first, a⟩ hp
    exact lpRi_ok L out fr tt first a hp
  rintro s hpre hok
  show (runF enRr false _ (encRr1 _)).val = some (resRr1 _)
  unfold encRr1 resRr1
  rw [evRr]
  simp only [preRr1] at hpre
  have u0 : unenc encEmy [.sl ((F.lns s).map eStr), vI 0] = some (F.lns s, 0) := unEmy (F.lns s) 0
  simp only [unRSp, unEmy, unRNu, unRRt, unRLin, unCln, unRhC, preRSp1, preEmy1, preRNu1, preRRt1, preRLin1, preCln1, preRhC1, unstRr, unstRi, unstRr0, prlRr, prlRi, outRr, outRi, etaCap, etaMch, etaWrd, etaFnd, etaRatio, etaWay, Option.bind_some, List.length_map, unStrs, unInts, unBools, uneL_eIs, unCaps, uneL_eCaps, unMchs, unWrds, unFnds, unRatios, unWays, F.lt, F.le, cond_true, cond_false, Bool.and_true, Bool.true_and, hpre, F.rdSh, u0, Nat.zero_le, decide_true, List.length_nil]
  by_cases hb : 200000 < s.size
  · rw [decide_eq_true (show (200000 : Int) < s.size by omega), decide_eq_true hb]
    rfl
  have hl := F.lns_ok (s := s) (by omega)
  have hL : (F.lns s).length ≤ 200001 ∧ (F.lns s).all F.small = true := by simpa [F.linesOk] using hl
  have b3 := F.lead_le ((F.lns s).drop 0)
  rw [List.length_drop] at b3
  rw [decide_eq_false (show ¬ (200000 : Int) < s.size by omega), decide_eq_false hb, hl, decide_eq_true hL.1, decide_eq_true (show 0 + F.lead ((F.lns s).drop 0) ≤ 200001 by omega)]
  have hq : F.smC (F.shA (F.lns s) 0).2.1 = true := F.shL_small (F.linesOk_sm hl) _ _ _ rfl
  have ea : F.shL (F.lns s) ((F.lns s).length + 1 - (0 + F.lead ((F.lns s).drop 0))) [] (0 + F.lead ((F.lns s).drop 0)) = F.shA (F.lns s) 0 := rfl
  rw [ea]
  generalize F.shA (F.lns s) 0 = q at hq
  obtain ⟨q1, q2, q3⟩ := q
  simp only at hq
  simp only [F.rdK, hq, cond_true, cond_false, Bool.and_self]
  cases q1
  · rfl
  · simp only [cond_true, cond_false]
    cases F.chkC q2 != 0 <;> rfl

end M
end Go.Proofs.YthcfbeckhgngiaaDoor
