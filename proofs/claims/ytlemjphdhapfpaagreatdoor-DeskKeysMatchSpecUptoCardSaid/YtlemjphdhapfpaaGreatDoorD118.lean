/- What is proved here: the second loop of headendref12.Keyed (no statement of the seat). -/
import Derived.Test.YtlemjphdhapfpaaGreatDoorD117
namespace Go.Proofs.YtlemjphdhapfpaaGreatDoor
open Go Go.RowKit
set_option linter.unusedVariables false
set_option linter.unusedSimpArgs false

namespace M

def stRKn (l : Lst) (sg : List Seg) (r : Rot) (bs : List Int) (k : Nat) : St := ⟨[(20, vI k), (19, .own 19), (18, .ptr 18 0 0), (12, .own 12), (8, .ptr 8 0 0), (7, .ptr 7 0 0), (4, .ptr 4 0 0), (1, .sl (sg.map eSeg))], [(19, ⟨false, 3, 1, []⟩), (18, ⟨true, 0, 0, [[vI l.target, vI l.first, vI l.breaks, .e0, vB l.ended]]⟩), (12, ⟨false, 3, 1, bs.map eI⟩), (8, ⟨true, 0, 0, [[vI 0, vI 0, vI 0, .e0, vB false]]⟩), (7, ⟨true, 0, 0, [eRot r]⟩), (4, ⟨true, 0, 0, [eLst l]⟩)]⟩

def stRKs (l : Lst) (sg : List Seg) (r : Rot) (bs : List Int) (es : List Ent) (ps : List Int) (k : Nat) : St := ⟨[(20, vI k), (19, .sl (ps.map eI)), (18, .ptr 18 0 0), (12, .own 12), (8, .ptr 8 0 0), (7, .ptr 7 0 0), (4, .ptr 4 0 0), (1, .sl (sg.map eSeg))], [(111, ⟨false, 46, 7, es.map eEnt⟩), (18, ⟨true, 0, 0, [[vI l.target, vI l.first, vI l.breaks, .own 111, vB l.ended]]⟩), (12, ⟨false, 3, 1, bs.map eI⟩), (8, ⟨true, 0, 0, [[vI 0, vI 0, vI 0, .e0, vB false]]⟩), (7, ⟨true, 0, 0, [eRot r]⟩), (4, ⟨true, 0, 0, [eLst l]⟩)]⟩

theorem evRKzN (l : Lst) (sg : List Seg) (r : Rot) (bs : List Int) (k : Nat) : ((exec enRKey (loopN Tryz.f5 1) (stRKn l sg r bs k)).bind (lessX ([20, 19, 18, 12, 8, 7, 4, 1], [111, 19, 18, 12, 8, 7, 4]) ([19, 18, 8], [111, 19, 18, 8]) ([10, 9, 8], [9, 8]))).val =
  bif decide ((↑k : Int) < (↑(List.length (List.map eSeg sg)) : Int)) then bif decide (k < List.length (Blk.mk false 3 1 (List.map eI bs)).rows) then Option.bind (unenc
  (List.map eI) (List.map eI bs)) fun (z : List Int) => bif decide (k < List.length z) then Option.bind (unenc encRPe [AV.agg [(vI r.begin), (vI r.every), (vI r.lead), AV.sl
  (List.map eU8 r.seed)], (vI (List.getD z k (0 : Int)))]) fun (z : Rot × Int) => bif (F.perAt z.fst z.snd).snd != (0 : Int) then some (Ex.ret, St.mk [(10, (vI (F.perAt
  z.fst z.snd).snd)), (9, .own 9), (8, .ptr 8 0 0)] [(9, Blk.mk false 3 1 []), (8, Blk.mk true 0 0 [[(vI (0 : Int)), (vI (0 : Int)), (vI (0 : Int)), AV.e0, (vB false)]])])
  else Option.bind (unenc (List.map eEnt) (List.map eEnt l.entries)) fun (z_1 : List Ent) => bif decide (k < List.length z_1) then Option.bind (unenc encIta [(vI (F.perAt
  z.fst z.snd).fst)]) fun (z_2 : Int) => bif decide ((-9223372036854775808 : Int) ≤ z_2) && decide (z_2 ≤ (9223372036854775807 : Int)) then bif Nat.ble (ByteArray.size
  (ByteArray.mk (Array.mk [(107 : UInt8)])) + ByteArray.size (F.itoa z_2)) (9223372036854775807 : Nat) then Option.bind (unenc encPlc [AV.sl [], (vI (F.perAt z.fst
  z.snd).fst)]) fun (z : List Int × Int) => bif decide (List.length z.fst ≤ (100000 : Nat)) then some (Ex.normal, St.mk [(20, (vI (IntKind.wrap IntKind.i64 ((↑k : Int) + (1
  : Int))))), (19, AV.sl (List.map eI (F.plc z.fst z.snd))), (18, .ptr 18 0 0), (12, .own 12), (8, .ptr 8 0 0), (7, .ptr 7 0 0), (4, .ptr 4 0 0), (1, AV.sl (List.map eSeg
  sg))] [(111, Blk.mk false 46 7 [[(vS (List.getD z_1 k (Ent.mk (ByteArray.mk (Array.mk [])) (0 : Int) false (0 : Int) (ByteArray.mk (Array.mk [])) false [])).uri), (vI
  (List.getD z_1 k (Ent.mk (ByteArray.mk (Array.mk [])) (0 : Int) false (0 : Int) (ByteArray.mk (Array.mk [])) false [])).milli), (vB (List.getD z_1 k (Ent.mk (ByteArray.mk
  (Array.mk [])) (0 : Int) false (0 : Int) (ByteArray.mk (Array.mk [])) false [])).brk), (vI (List.getD z_1 k (Ent.mk (ByteArray.mk (Array.mk [])) (0 : Int) false (0 : Int)
  (ByteArray.mk (Array.mk [])) false [])).date), (vS (ByteArray.mk (Array.mk [(107 : UInt8)]) ++ F.itoa z_2)), (vB (List.getD z_1 k (Ent.mk (ByteArray.mk (Array.mk [])) (0 :
  Int) false (0 : Int) (ByteArray.mk (Array.mk [])) false [])).gap), AV.sl (List.map eStr (List.getD z_1 k (Ent.mk (ByteArray.mk (Array.mk [])) (0 : Int) false (0 : Int)
  (ByteArray.mk (Array.mk [])) false [])).extra)]]), (18, Blk.mk true 0 0 [[(vI l.target), (vI l.first), (vI l.breaks), .own 111, (vB l.ended)]]), (12, Blk.mk false 3 1
  (List.map eI bs)), (8, Blk.mk true 0 0 [[(vI (0 : Int)), (vI (0 : Int)), (vI (0 : Int)), AV.e0, (vB false)]]), (7, Blk.mk true 0 0 [[(vI r.begin), (vI r.every), (vI
  r.lead), AV.sl (List.map eU8 r.seed)]]), (4, Blk.mk true 0 0 [[(vI l.target), (vI l.first), (vI l.breaks), AV.sl (List.map eEnt l.entries), (vB l.ended)]])]) else none
  else none else none else none else none else none else some (Ex.exit (2 : Nat), St.mk [(19, .own 19), (18, .ptr 18 0 0), (8, .ptr 8 0 0)] [(19, Blk.mk false 3 1 []), (18,
  Blk.mk true 0 0 [[(vI l.target), (vI l.first), (vI l.breaks), AV.e0, (vB l.ended)]]), (8, Blk.mk true 0 0 [[(vI (0 : Int)), (vI (0 : Int)), (vI (0 : Int)), AV.e0, (vB
  false)]])]) := (execR_bind _ _ _).symm.trans (by kernel_rfl)

theorem evRKzS (l : Lst) (sg : List Seg) (r : Rot) (bs : List Int) (es : List Ent) (ps : List Int) (k : Nat) : ((exec enRKey (loopN Tryz.f5 1) (stRKs l sg r bs es ps k)).bind (lessX ([20, 19, 18, 12, 8, 7, 4, 1], [111, 19, 18, 12, 8, 7, 4]) ([19, 18, 8], [111, 19, 18, 8]) ([10, 9, 8], [9, 8]))).val =
  bif decide ((↑k : Int) < (↑(List.length (List.map eSeg sg)) : Int)) then bif decide (k < List.length (Blk.mk false 3 1 (List.map eI bs)).rows) then Option.bind (unenc
  (List.map eI) (List.map eI bs)) fun (z : List Int) => bif decide (k < List.length z) then Option.bind (unenc encRPe [AV.agg [(vI r.begin), (vI r.every), (vI r.lead), AV.sl
  (List.map eU8 r.seed)], (vI (List.getD z k (0 : Int)))]) fun (z : Rot × Int) => bif (F.perAt z.fst z.snd).snd != (0 : Int) then some (Ex.ret, St.mk [(10, (vI (F.perAt
  z.fst z.snd).snd)), (9, .own 9), (8, .ptr 8 0 0)] [(9, Blk.mk false 3 1 []), (8, Blk.mk true 0 0 [[(vI (0 : Int)), (vI (0 : Int)), (vI (0 : Int)), AV.e0, (vB false)]])])
  else Option.bind (unenc (List.map eEnt) (List.map eEnt l.entries)) fun (z_1 : List Ent) => bif decide (k < List.length z_1) then Option.bind (unenc encIta [(vI (F.perAt
  z.fst z.snd).fst)]) fun (z_2 : Int) => bif decide ((-9223372036854775808 : Int) ≤ z_2) && decide (z_2 ≤ (9223372036854775807 : Int)) then bif Nat.ble (ByteArray.size
  (ByteArray.mk (Array.mk [(107 : UInt8)])) + ByteArray.size (F.itoa z_2)) (9223372036854775807 : Nat) then bif Nat.ble ((List.length (List.map eEnt es) + (1 : Nat)) * (88 :
  Nat)) (140737488355328 : Nat) && true then Option.bind (unenc encPlc [AV.sl (List.map eI ps), (vI (F.perAt z.fst z.snd).fst)]) fun (z : List Int × Int) => bif decide
  (List.length z.fst ≤ (100000 : Nat)) then some (Ex.normal, St.mk [(20, (vI (IntKind.wrap IntKind.i64 ((↑k : Int) + (1 : Int))))), (19, AV.sl (List.map eI (F.plc z.fst
  z.snd))), (18, .ptr 18 0 0), (12, .own 12), (8, .ptr 8 0 0), (7, .ptr 7 0 0), (4, .ptr 4 0 0), (1, AV.sl (List.map eSeg sg))] [(111, Blk.mk false 46 7 (List.map eEnt es ++
  [[(vS (List.getD z_1 k (Ent.mk (ByteArray.mk (Array.mk [])) (0 : Int) false (0 : Int) (ByteArray.mk (Array.mk [])) false [])).uri), (vI (List.getD z_1 k (Ent.mk
  (ByteArray.mk (Array.mk [])) (0 : Int) false (0 : Int) (ByteArray.mk (Array.mk [])) false [])).milli), (vB (List.getD z_1 k (Ent.mk (ByteArray.mk (Array.mk [])) (0 : Int)
  false (0 : Int) (ByteArray.mk (Array.mk [])) false [])).brk), (vI (List.getD z_1 k (Ent.mk (ByteArray.mk (Array.mk [])) (0 : Int) false (0 : Int) (ByteArray.mk (Array.mk
  [])) false [])).date), (vS (ByteArray.mk (Array.mk [(107 : UInt8)]) ++ F.itoa z_2)), (vB (List.getD z_1 k (Ent.mk (ByteArray.mk (Array.mk [])) (0 : Int) false (0 : Int)
  (ByteArray.mk (Array.mk [])) false [])).gap), AV.sl (List.map eStr (List.getD z_1 k (Ent.mk (ByteArray.mk (Array.mk [])) (0 : Int) false (0 : Int) (ByteArray.mk (Array.mk
  [])) false [])).extra)]])), (18, Blk.mk true 0 0 [[(vI l.target), (vI l.first), (vI l.breaks), .own 111, (vB l.ended)]]), (12, Blk.mk false 3 1 (List.map eI bs)), (8,
  Blk.mk true 0 0 [[(vI (0 : Int)), (vI (0 : Int)), (vI (0 : Int)), AV.e0, (vB false)]]), (7, Blk.mk true 0 0 [[(vI r.begin), (vI r.every), (vI r.lead), AV.sl (List.map eU8
  r.seed)]]), (4, Blk.mk true 0 0 [[(vI l.target), (vI l.first), (vI l.breaks), AV.sl (List.map eEnt l.entries), (vB l.ended)]])]) else none else none else none else none
  else none else none else none else some (Ex.exit (2 : Nat), St.mk [(19, AV.sl (List.map eI ps)), (18, .ptr 18 0 0), (8, .ptr 8 0 0)] [(111, Blk.mk false 46 7 (List.map
  eEnt es)), (18, Blk.mk true 0 0 [[(vI l.target), (vI l.first), (vI l.breaks), .own 111, (vB l.ended)]]), (8, Blk.mk true 0 0 [[(vI (0 : Int)), (vI (0 : Int)), (vI (0 :
  Int)), AV.e0, (vB false)]])]) := (execR_bind _ _ _).symm.trans (by kernel_rfl)

theorem unPlc_0 (n : Int) : unenc encPlc [.sl [], vI n] = some ([], n) := unPlc [] n

def stRKx (l : Lst) (sg : List Seg) (r : Rot) (bs : List Int) (es : List Ent) (ps : List Int) (k : Nat) : St := match es with
  | [] => stRKn l sg r bs k
  | _ :: _ => stRKs l sg r bs es ps k

theorem stRKx_snoc (l : Lst) (sg : List Seg) (r : Rot) (bs : List Int) (es : List Ent) (e : Ent) (ps : List Int) (k : Nat) : stRKx l sg r bs (es ++ [e]) ps k = stRKs l sg r bs (es ++ [e]) ps k := by cases es <;> rfl

def exRN (l : Lst) : Ex × St := (.exit 2, ⟨[(19, .own 19), (18, .ptr 18 0 0), (8, .ptr 8 0 0)], [(19, ⟨false, 3, 1, []⟩), (18, ⟨true, 0, 0, [[vI l.target, vI l.first, vI l.breaks, .e0, vB l.ended]]⟩), (8, ⟨true, 0, 0, [[vI 0, vI 0, vI 0, .e0, vB false]]⟩)]⟩)

def exRS (l : Lst) (es : List Ent) (ps : List Int) : Ex × St := (.exit 2, ⟨[(19, .sl (ps.map eI)), (18, .ptr 18 0 0), (8, .ptr 8 0 0)], [(111, ⟨false, 46, 7, es.map eEnt⟩), (18, ⟨true, 0, 0, [[vI l.target, vI l.first, vI l.breaks, .own 111, vB l.ended]]⟩), (8, ⟨true, 0, 0, [[vI 0, vI 0, vI 0, .e0, vB false]]⟩)]⟩)

def outRKx (l : Lst) (r : Rot) (bs : List Int) (es : List Ent) (ps : List Int) (k : Nat) : T (Ex × St) :=
  .ifB (decide (F.persF r (bs.drop k) = 0))
    (.ifB (F.noE (es ++ F.kEs r (l.entries.drop k) (bs.drop k))) (.ret (exRN l)) (.ret (exRS l (es ++ F.kEs r (l.entries.drop k) (bs.drop k)) (F.plcs ps (F.pers r (bs.drop k))))))
    (.ret (retK (F.persF r (bs.drop k))))

theorem plc_len (l : List Int) (n : Int) : (F.plc l n).length ≤ l.length + 1 := by
  have hk := F.plK_le l n l.length
  unfold F.plc
  cases F.plcB l n
  · rw [cond_false, List.length_append, List.length_cons, List.length_take, List.length_drop]; omega
  · simp

theorem lpRKz_ok (l : Lst) (sg : List Seg) (r : Rot) (bs : List Int) (hp : prlRKz l sg r bs = true) : ∀ ex s', (outRKz l sg r bs).val = some (ex, s') → LoopOK enRKey (loopN Tryz.f5 1) (stRKz l sg r bs) ex s' := by
  simp only [prlRKz, Bool.and_eq_true, decide_eq_true_eq] at hp
  obtain ⟨⟨h1, h2⟩, h3⟩ := hp
  refine loop_gen (st := fun a : List Ent × List Int × Nat => stRKx l sg r bs a.1 a.2.1 a.2.2) (out := fun a => outRKx l r bs a.1 a.2.1 a.2.2) (I := fun a => a.2.2 ≤ l.entries.length ∧ a.1.length = a.2.2 ∧ a.2.1.length ≤ a.2.2 ∧ (a.1 = [] → a.2.1 = [])) (n := ([20, 19, 18, 12, 8, 7, 4, 1], [111, 19, 18, 12, 8, 7, 4])) (e := ([19, 18, 8], [111, 19, 18, 8])) (r := ([10, 9, 8], [9, 8])) (fun a => l.entries.length - a.2.2) ?_ ([], [], 0) ⟨Nat.zero_le _, rfl, Nat.le_refl _, fun _ => rfl⟩
  rintro ⟨es, ps, k⟩ ⟨hk, i1, i2, i3⟩
  simp only at hk i1 i2 i3
  by_cases hlt : k < l.entries.length
  · have hy : l.entries[k]? = some l.entries[k] := List.getElem?_eq_getElem hlt
    have hlb : k < bs.length := by omega
    have hls : k < sg.length := by omega
    have hz : bs[k]? = some bs[k] := List.getElem?_eq_getElem hlb
    generalize l.entries[k] = y at hy
    generalize bs[k] = b at hz
    have hpd := perAt_bd r b
    have hp1 : decide (-9223372036854775808 ≤ (F.perAt r b).1) = true := decide_eq_true (by omega)
    have hp2 : decide ((F.perAt r b).1 ≤ 9223372036854775807) = true := decide_eq_true (by omega)
    have hs := F.itoa_size (n := (F.perAt r b).1) (by omega) (by omega)
    have hs2 : Nat.ble (ByteArray.size ⟨⟨[107]⟩⟩ + (F.itoa (F.perAt r b).1).size) 9223372036854775807 = true := ble_t (by show 1 + _ ≤ _; omega)
    have hpl : decide (ps.length ≤ 100000) = true := decide_eq_true (by omega)
    have hp0 : decide (([] : List Int).length ≤ 100000) = true := rfl
    have hb2 : Nat.ble ((es.length + 1) * 88) 140737488355328 = true := ble_t (by omega)
    have hpc := plc_len ps (F.perAt r b).1
    have hw : IntKind.i64.wrap ((k : Int) + 1) = ((k + 1 : Nat) : Int) := by rw [wrap_id (by omega) (by omega)]; rfl
    cases hf : (F.perAt r b).2 != 0
    · right
      refine ⟨(es ++ [F.kEnt y (F.perAt r b).1], F.plc ps (F.perAt r b).1, k + 1), ?_, by simp only [stRKx_snoc]; rfl, ⟨by simp only; omega, by simp; omega, by simp only; omega, fun h => by simp at h⟩, by simp only; omega, ?_⟩
      · simp only [stRKx_snoc]
        cases es with
        | nil =>
          have i3 := i3 rfl
          subst i3
          show ((exec enRKey (loopN Tryz.f5 1) (stRKn l sg r bs k)).bind _).val = _
          rw [evRKzN]
          simp only [unRChk, unIsc, unBrd, unTur, unWhl, unRCk, unRPe, unIta, unPlc, unRChkw, unBrdw, unRCkw, unRPew, preRChk1, preIsc1, preBrd1, preTur1, preWhl1, preRCk1, preRPe1, preIta1, prePlc1, unstRKy, unstRKz, unstRKy0, prlRKy, prlRKz, outRKy, outRKz, etaEnt, etaLst, etaSeg, etaRot, etaBeat, etaSpan, etaHole, Option.bind_some, List.length_map, unStrs, unInts, unBools, unU8s, unEnts, unLsts, unSegs, unRots, unBeats, unSpans, unHoles, F.lt, F.le, cond_true, cond_false, Bool.and_true, Bool.true_and, cast_lt hls, decide_eq_true hlt, decide_eq_true hlb, hw, getD_at hy, getD_at hz, stRKs, unRPe, unPlc_0, unIta, hp0, hp1, hp2, hs2, hf]
          try rfl
        | cons e0 er =>
          show ((exec enRKey (loopN Tryz.f5 1) (stRKs l sg r bs (e0 :: er) ps k)).bind _).val = _
          rw [evRKzS]
          simp only [unRChk, unIsc, unBrd, unTur, unWhl, unRCk, unRPe, unIta, unPlc, unRChkw, unBrdw, unRCkw, unRPew, preRChk1, preIsc1, preBrd1, preTur1, preWhl1, preRCk1, preRPe1, preIta1, prePlc1, unstRKy, unstRKz, unstRKy0, prlRKy, prlRKz, outRKy, outRKz, etaEnt, etaLst, etaSeg, etaRot, etaBeat, etaSpan, etaHole, Option.bind_some, List.length_map, unStrs, unInts, unBools, unU8s, unEnts, unLsts, unSegs, unRots, unBeats, unSpans, unHoles, F.lt, F.le, cond_true, cond_false, Bool.and_true, Bool.true_and, cast_lt hls, decide_eq_true hlt, decide_eq_true hlb, hw, getD_at hy, getD_at hz, stRKs, unRPe, unPlc, unIta, hb2, hpl, hp1, hp2, hs2, hf]
          rw [show List.map eEnt (e0 :: er ++ [F.kEnt y (F.perAt r b).1]) = List.map eEnt (e0 :: er) ++ [eEnt (F.kEnt y (F.perAt r b).1)] from by rw [List.map_append]; rfl]
          rfl
      · simp only [outRKx, drop_at hy, drop_at hz, F.persF, ffI_cons, hf, cond_false, F.kEs, F.pers, F.plcs, List.foldl_cons, List.map_cons, List.append_assoc, List.singleton_append]
        try rfl
    · left
      refine ⟨retK (F.perAt r b).2, ?_, ?_, by simp [retK], rfl⟩
      · cases es with
        | nil =>
          show ((exec enRKey (loopN Tryz.f5 1) (stRKn l sg r bs k)).bind _).val = _
          rw [evRKzN]
          simp only [unRChk, unIsc, unBrd, unTur, unWhl, unRCk, unRPe, unIta, unPlc, unRChkw, unBrdw, unRCkw, unRPew, preRChk1, preIsc1, preBrd1, preTur1, preWhl1, preRCk1, preRPe1, preIta1, prePlc1, unstRKy, unstRKz, unstRKy0, prlRKy, prlRKz, outRKy, outRKz, etaEnt, etaLst, etaSeg, etaRot, etaBeat, etaSpan, etaHole, Option.bind_some, List.length_map, unStrs, unInts, unBools, unU8s, unEnts, unLsts, unSegs, unRots, unBeats, unSpans, unHoles, F.lt, F.le, cond_true, cond_false, Bool.and_true, Bool.true_and, cast_lt hls, decide_eq_true hlt, decide_eq_true hlb, getD_at hy, getD_at hz, unRPe, hf]
          try rfl
        | cons e0 er =>
          show ((exec enRKey (loopN Tryz.f5 1) (stRKs l sg r bs (e0 :: er) ps k)).bind _).val = _
          rw [evRKzS]
          simp only [unRChk, unIsc, unBrd, unTur, unWhl, unRCk, unRPe, unIta, unPlc, unRChkw, unBrdw, unRCkw, unRPew, preRChk1, preIsc1, preBrd1, preTur1, preWhl1, preRCk1, preRPe1, preIta1, prePlc1, unstRKy, unstRKz, unstRKy0, prlRKy, prlRKz, outRKy, outRKz, etaEnt, etaLst, etaSeg, etaRot, etaBeat, etaSpan, etaHole, Option.bind_some, List.length_map, unStrs, unInts, unBools, unU8s, unEnts, unLsts, unSegs, unRots, unBeats, unSpans, unHoles, F.lt, F.le, cond_true, cond_false, Bool.and_true, Bool.true_and, cast_lt hls, decide_eq_true hlt, decide_eq_true hlb, getD_at hy, getD_at hz, unRPe, hf]
          try rfl
      · have hne : ¬ (F.perAt r b).2 = 0 := by simpa using hf
        simp only [outRKx, drop_at hy, drop_at hz, F.persF, ffI_cons, hf, cond_true, decide_eq_false hne]
        rfl
  · have : k = l.entries.length := by omega
    subst this
    have hd : bs.drop l.entries.length = [] := List.drop_eq_nil_of_le (by omega)
    have hcs : ¬ ((l.entries.length : Int) < (sg.length : Int)) := by omega
    left
    cases es with
    | nil =>
      refine ⟨exRN l, ?_, ?_, by simp [exRN], rfl⟩
      · show ((exec enRKey (loopN Tryz.f5 1) (stRKn l sg r bs _)).bind _).val = _
        rw [evRKzN]
        simp only [unRChk, unIsc, unBrd, unTur, unWhl, unRCk, unRPe, unIta, unPlc, unRChkw, unBrdw, unRCkw, unRPew, preRChk1, preIsc1, preBrd1, preTur1, preWhl1, preRCk1, preRPe1, preIta1, prePlc1, unstRKy, unstRKz, unstRKy0, prlRKy, prlRKz, outRKy, outRKz, etaEnt, etaLst, etaSeg, etaRot, etaBeat, etaSpan, etaHole, Option.bind_some, List.length_map, unStrs, unInts, unBools, unU8s, unEnts, unLsts, unSegs, unRots, unBeats, unSpans, unHoles, F.lt, F.le, cond_true, cond_false, Bool.and_true, Bool.true_and, decide_eq_false hcs, exRN]
      · simp only [outRKx, List.drop_length, hd, F.kEs, F.pers, F.persF, List.map_nil, List.append_nil]
        rfl
    | cons e0 er =>
      refine ⟨exRS l (e0 :: er) ps, ?_, ?_, by simp [exRS], rfl⟩
      · show ((exec enRKey (loopN Tryz.f5 1) (stRKs l sg r bs (e0 :: er) ps _)).bind _).val = _
        rw [evRKzS]
        simp only [unRChk, unIsc, unBrd, unTur, unWhl, unRCk, unRPe, unIta, unPlc, unRChkw, unBrdw, unRCkw, unRPew, preRChk1, preIsc1, preBrd1, preTur1, preWhl1, preRCk1, preRPe1, preIta1, prePlc1, unstRKy, unstRKz, unstRKy0, prlRKy, prlRKz, outRKy, outRKz, etaEnt, etaLst, etaSeg, etaRot, etaBeat, etaSpan, etaHole, Option.bind_some, List.length_map, unStrs, unInts, unBools, unU8s, unEnts, unLsts, unSegs, unRots, unBeats, unSpans, unHoles, F.lt, F.le, cond_true, cond_false, Bool.and_true, Bool.true_and, decide_eq_false hcs, exRS]
      · simp only [outRKx, List.drop_length, hd, F.kEs, F.pers, F.persF, List.map_nil, List.append_nil]
        rfl

end M
end Go.Proofs.YtlemjphdhapfpaaGreatDoor
