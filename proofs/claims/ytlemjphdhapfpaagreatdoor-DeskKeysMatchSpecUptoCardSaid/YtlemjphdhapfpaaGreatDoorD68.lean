/- What is proved here: the second loop of desk.Keyed, on plain data (no statement of the seat). -/
import Derived.Test.YtlemjphdhapfpaaGreatDoorD67
namespace Go.Proofs.YtlemjphdhapfpaaGreatDoor
open Go Go.RowKit
set_option linter.unusedVariables false
set_option linter.unusedSimpArgs false

namespace M

def stKn (l : Lst) (r : Rot) (bs : List Int) (ps : List Int) (k : Nat) : St := ⟨[(72, vI k), (71, vI l.entries.length), (70, .sl (l.entries.map eEnt)), (19, .own 19), (18, .ptr 18 0 0), (12, .own 12), (8, .ptr 8 0 0), (7, .ptr 7 0 0)], [(19, ⟨false, 3, 1, ps.map eI⟩), (18, ⟨true, 0, 0, [[vI l.target, vI l.first, vI l.breaks, .e0, vB l.ended]]⟩), (12, ⟨false, 3, 1, bs.map eI⟩), (8, ⟨true, 0, 0, [[vI 0, vI 0, vI 0, .e0, vB false]]⟩), (7, ⟨true, 0, 0, [eRot r]⟩)]⟩

def stKs (l : Lst) (r : Rot) (bs : List Int) (es : List Ent) (ps : List Int) (k : Nat) : St := ⟨[(72, vI k), (71, vI l.entries.length), (70, .sl (l.entries.map eEnt)), (19, .own 19), (18, .ptr 18 0 0), (12, .own 12), (8, .ptr 8 0 0), (7, .ptr 7 0 0)], [(102, ⟨false, 46, 7, es.map eEnt⟩), (19, ⟨false, 3, 1, ps.map eI⟩), (18, ⟨true, 0, 0, [[vI l.target, vI l.first, vI l.breaks, .own 102, vB l.ended]]⟩), (12, ⟨false, 3, 1, bs.map eI⟩), (8, ⟨true, 0, 0, [[vI 0, vI 0, vI 0, .e0, vB false]]⟩), (7, ⟨true, 0, 0, [eRot r]⟩)]⟩

theorem evKzN (l : Lst) (r : Rot) (bs : List Int) (ps : List Int) (k : Nat) : ((exec enKey (loopN Tryz.f4 1) (stKn l r bs ps k)).bind (lessX ([72, 71, 70, 19, 18, 12, 8, 7], [102, 19, 18, 12, 8, 7]) ([19, 18, 8], [102, 19, 18, 8]) ([10, 9, 8], [9, 8]))).val =
  bif decide ((↑k : Int) < (↑(List.length l.entries) : Int)) then Option.bind (unenc (List.map eEnt) (List.map eEnt l.entries)) fun (z : List Ent) => bif decide (k <
  List.length z) then bif decide (k < List.length (Blk.mk false 3 1 (List.map eI bs)).rows) then Option.bind (unenc (List.map eI) (List.map eI bs)) fun (z_1 : List Int) =>
  bif decide (k < List.length z_1) then Option.bind (unenc encPer [AV.agg [(vI r.begin), (vI r.every), (vI r.lead), AV.sl (List.map eU8 r.seed)], (vI (List.getD z_1 k (0 :
  Int)))]) fun (z_2 : Rot × Int) => bif (F.perAt z_2.fst z_2.snd).snd != (0 : Int) then some (Ex.ret, St.mk [(10, (vI (F.perAt z_2.fst z_2.snd).snd)), (9, .own 9), (8, .ptr
  8 0 0)] [(9, Blk.mk false 3 1 []), (8, Blk.mk true 0 0 [[(vI (0 : Int)), (vI (0 : Int)), (vI (0 : Int)), AV.e0, (vB false)]])]) else Option.bind (unenc encCln [AV.sl
  (List.map eStr (List.getD z k (Ent.mk (ByteArray.mk (Array.mk [])) (0 : Int) false (0 : Int) (ByteArray.mk (Array.mk [])) false [])).extra)]) fun (z_3 : List ByteArray) =>
  bif decide (List.length z_3 * (16 : Nat) ≤ (140737488355328 : Nat)) then Option.bind (unenc encIta [(vI (F.perAt z_2.fst z_2.snd).fst)]) fun (z_4 : Int) => bif decide
  ((-9223372036854775808 : Int) ≤ z_4) && decide (z_4 ≤ (9223372036854775807 : Int)) then bif Nat.ble (ByteArray.size (ByteArray.mk (Array.mk [(107 : UInt8)])) +
  ByteArray.size (F.itoa z_4)) (9223372036854775807 : Nat) then bif Nat.ble ((List.length (List.map eI ps) + (1 : Nat)) * (8 : Nat)) (140737488355328 : Nat) && true then
  some (Ex.normal, St.mk [(72, (vI (IntKind.wrap IntKind.i64 ((↑k : Int) + (1 : Int))))), (71, (vI (↑(List.length l.entries) : Int))), (70, AV.sl (List.map eEnt l.entries)),
  (19, .own 19), (18, .ptr 18 0 0), (12, .own 12), (8, .ptr 8 0 0), (7, .ptr 7 0 0)] [(102, Blk.mk false 46 7 [[(vS (List.getD z k (Ent.mk (ByteArray.mk (Array.mk [])) (0 :
  Int) false (0 : Int) (ByteArray.mk (Array.mk [])) false [])).uri), (vI (List.getD z k (Ent.mk (ByteArray.mk (Array.mk [])) (0 : Int) false (0 : Int) (ByteArray.mk
  (Array.mk [])) false [])).milli), (vB (List.getD z k (Ent.mk (ByteArray.mk (Array.mk [])) (0 : Int) false (0 : Int) (ByteArray.mk (Array.mk [])) false [])).brk), (vI
  (List.getD z k (Ent.mk (ByteArray.mk (Array.mk [])) (0 : Int) false (0 : Int) (ByteArray.mk (Array.mk [])) false [])).date), (vS (ByteArray.mk (Array.mk [(107 : UInt8)])
  ++ F.itoa z_4)), (vB (List.getD z k (Ent.mk (ByteArray.mk (Array.mk [])) (0 : Int) false (0 : Int) (ByteArray.mk (Array.mk [])) false [])).gap), AV.sl (List.map eStr
  z_3)]]), (19, Blk.mk false 3 1 (List.map eI ps ++ [[(vI (F.perAt z_2.fst z_2.snd).fst)]])), (18, Blk.mk true 0 0 [[(vI l.target), (vI l.first), (vI l.breaks), .own 102,
  (vB l.ended)]]), (12, Blk.mk false 3 1 (List.map eI bs)), (8, Blk.mk true 0 0 [[(vI (0 : Int)), (vI (0 : Int)), (vI (0 : Int)), AV.e0, (vB false)]]), (7, Blk.mk true 0 0
  [[(vI r.begin), (vI r.every), (vI r.lead), AV.sl (List.map eU8 r.seed)]])]) else none else none else none else none else none else none else none else some (Ex.exit (2 :
  Nat), St.mk [(19, .own 19), (18, .ptr 18 0 0), (8, .ptr 8 0 0)] [(19, Blk.mk false 3 1 (List.map eI ps)), (18, Blk.mk true 0 0 [[(vI l.target), (vI l.first), (vI
  l.breaks), AV.e0, (vB l.ended)]]), (8, Blk.mk true 0 0 [[(vI (0 : Int)), (vI (0 : Int)), (vI (0 : Int)), AV.e0, (vB false)]])]) := (execR_bind _ _ _).symm.trans (by kernel_rfl)

theorem evKzS (l : Lst) (r : Rot) (bs : List Int) (es : List Ent) (ps : List Int) (k : Nat) : ((exec enKey (loopN Tryz.f4 1) (stKs l r bs es ps k)).bind (lessX ([72, 71, 70, 19, 18, 12, 8, 7], [102, 19, 18, 12, 8, 7]) ([19, 18, 8], [102, 19, 18, 8]) ([10, 9, 8], [9, 8]))).val =
  bif decide ((↑k : Int) < (↑(List.length l.entries) : Int)) then Option.bind (unenc (List.map eEnt) (List.map eEnt l.entries)) fun (z : List Ent) => bif decide (k <
  List.length z) then bif decide (k < List.length (Blk.mk false 3 1 (List.map eI bs)).rows) then Option.bind (unenc (List.map eI) (List.map eI bs)) fun (z_1 : List Int) =>
  bif decide (k < List.length z_1) then Option.bind (unenc encPer [AV.agg [(vI r.begin), (vI r.every), (vI r.lead), AV.sl (List.map eU8 r.seed)], (vI (List.getD z_1 k (0 :
  Int)))]) fun (z_2 : Rot × Int) => bif (F.perAt z_2.fst z_2.snd).snd != (0 : Int) then some (Ex.ret, St.mk [(10, (vI (F.perAt z_2.fst z_2.snd).snd)), (9, .own 9), (8, .ptr
  8 0 0)] [(9, Blk.mk false 3 1 []), (8, Blk.mk true 0 0 [[(vI (0 : Int)), (vI (0 : Int)), (vI (0 : Int)), AV.e0, (vB false)]])]) else Option.bind (unenc encCln [AV.sl
  (List.map eStr (List.getD z k (Ent.mk (ByteArray.mk (Array.mk [])) (0 : Int) false (0 : Int) (ByteArray.mk (Array.mk [])) false [])).extra)]) fun (z_3 : List ByteArray) =>
  bif decide (List.length z_3 * (16 : Nat) ≤ (140737488355328 : Nat)) then Option.bind (unenc encIta [(vI (F.perAt z_2.fst z_2.snd).fst)]) fun (z_4 : Int) => bif decide
  ((-9223372036854775808 : Int) ≤ z_4) && decide (z_4 ≤ (9223372036854775807 : Int)) then bif Nat.ble (ByteArray.size (ByteArray.mk (Array.mk [(107 : UInt8)])) +
  ByteArray.size (F.itoa z_4)) (9223372036854775807 : Nat) then bif Nat.ble ((List.length (List.map eEnt es) + (1 : Nat)) * (88 : Nat)) (140737488355328 : Nat) && true then
  bif Nat.ble ((List.length (List.map eI ps) + (1 : Nat)) * (8 : Nat)) (140737488355328 : Nat) && true then some (Ex.normal, St.mk [(72, (vI (IntKind.wrap IntKind.i64 ((↑k :
  Int) + (1 : Int))))), (71, (vI (↑(List.length l.entries) : Int))), (70, AV.sl (List.map eEnt l.entries)), (19, .own 19), (18, .ptr 18 0 0), (12, .own 12), (8, .ptr 8 0 0),
  (7, .ptr 7 0 0)] [(102, Blk.mk false 46 7 (List.map eEnt es ++ [[(vS (List.getD z k (Ent.mk (ByteArray.mk (Array.mk [])) (0 : Int) false (0 : Int) (ByteArray.mk (Array.mk
  [])) false [])).uri), (vI (List.getD z k (Ent.mk (ByteArray.mk (Array.mk [])) (0 : Int) false (0 : Int) (ByteArray.mk (Array.mk [])) false [])).milli), (vB (List.getD z k
  (Ent.mk (ByteArray.mk (Array.mk [])) (0 : Int) false (0 : Int) (ByteArray.mk (Array.mk [])) false [])).brk), (vI (List.getD z k (Ent.mk (ByteArray.mk (Array.mk [])) (0 :
  Int) false (0 : Int) (ByteArray.mk (Array.mk [])) false [])).date), (vS (ByteArray.mk (Array.mk [(107 : UInt8)]) ++ F.itoa z_4)), (vB (List.getD z k (Ent.mk (ByteArray.mk
  (Array.mk [])) (0 : Int) false (0 : Int) (ByteArray.mk (Array.mk [])) false [])).gap), AV.sl (List.map eStr z_3)]])), (19, Blk.mk false 3 1 (List.map eI ps ++ [[(vI
  (F.perAt z_2.fst z_2.snd).fst)]])), (18, Blk.mk true 0 0 [[(vI l.target), (vI l.first), (vI l.breaks), .own 102, (vB l.ended)]]), (12, Blk.mk false 3 1 (List.map eI bs)),
  (8, Blk.mk true 0 0 [[(vI (0 : Int)), (vI (0 : Int)), (vI (0 : Int)), AV.e0, (vB false)]]), (7, Blk.mk true 0 0 [[(vI r.begin), (vI r.every), (vI r.lead), AV.sl (List.map
  eU8 r.seed)]])]) else none else none else none else none else none else none else none else none else some (Ex.exit (2 : Nat), St.mk [(19, .own 19), (18, .ptr 18 0 0), (8,
  .ptr 8 0 0)] [(102, Blk.mk false 46 7 (List.map eEnt es)), (19, Blk.mk false 3 1 (List.map eI ps)), (18, Blk.mk true 0 0 [[(vI l.target), (vI l.first), (vI l.breaks), .own
  102, (vB l.ended)]]), (8, Blk.mk true 0 0 [[(vI (0 : Int)), (vI (0 : Int)), (vI (0 : Int)), AV.e0, (vB false)]])]) := (execR_bind _ _ _).symm.trans (by kernel_rfl)

def stKx (l : Lst) (r : Rot) (bs : List Int) (es : List Ent) (ps : List Int) (k : Nat) : St := match es with
  | [] => stKn l r bs ps k
  | _ :: _ => stKs l r bs es ps k

def retK (f : Int) : Ex × St := (.ret, ⟨[(10, vI f), (9, .own 9), (8, .ptr 8 0 0)], [(9, ⟨false, 3, 1, []⟩), (8, ⟨true, 0, 0, [[vI 0, vI 0, vI 0, .e0, vB false]]⟩)]⟩)

def exN (l : Lst) (ps : List Int) : Ex × St := (.exit 2, ⟨[(19, .own 19), (18, .ptr 18 0 0), (8, .ptr 8 0 0)], [(19, ⟨false, 3, 1, ps.map eI⟩), (18, ⟨true, 0, 0, [[vI l.target, vI l.first, vI l.breaks, .e0, vB l.ended]]⟩), (8, ⟨true, 0, 0, [[vI 0, vI 0, vI 0, .e0, vB false]]⟩)]⟩)

def exS (l : Lst) (es : List Ent) (ps : List Int) : Ex × St := (.exit 2, ⟨[(19, .own 19), (18, .ptr 18 0 0), (8, .ptr 8 0 0)], [(102, ⟨false, 46, 7, es.map eEnt⟩), (19, ⟨false, 3, 1, ps.map eI⟩), (18, ⟨true, 0, 0, [[vI l.target, vI l.first, vI l.breaks, .own 102, vB l.ended]]⟩), (8, ⟨true, 0, 0, [[vI 0, vI 0, vI 0, .e0, vB false]]⟩)]⟩)

def outKx (l : Lst) (r : Rot) (bs : List Int) (es : List Ent) (ps : List Int) (k : Nat) : T (Ex × St) :=
  .ifB (decide (F.persF r (bs.drop k) = 0))
    (.ifB (F.noE (es ++ F.kEs r (l.entries.drop k) (bs.drop k))) (.ret (exN l (ps ++ F.pers r (bs.drop k)))) (.ret (exS l (es ++ F.kEs r (l.entries.drop k) (bs.drop k)) (ps ++ F.pers r (bs.drop k)))))
    (.ret (retK (F.persF r (bs.drop k))))

theorem stKx_snoc (l : Lst) (r : Rot) (bs : List Int) (es : List Ent) (e : Ent) (ps : List Int) (k : Nat) : stKx l r bs (es ++ [e]) ps k = stKs l r bs (es ++ [e]) ps k := by cases es <;> rfl

theorem perAt_bd (r : Rot) (t : Int) : 0 ≤ (F.perAt r t).1 ∧ (F.perAt r t).1 ≤ 1000000000000000 := by
  unfold F.perAt
  cases h : F.chkR r != 0
  · have h : F.chkR r = 0 := by simpa using h
    have hb : 0 ≤ r.begin ∧ 1 ≤ r.every := by
      unfold F.chkR at h
      cases hc : F.out r.begin 0 1000000000000000 || F.out r.every 1 1000000000000000 || F.out r.lead 0 1000000000000000 with
      | true => rw [hc] at h; simp at h
      | false => simp [F.out] at hc; omega
    cases ho : F.out t 0 1000000000000000
    · simp only [F.out, Bool.or_eq_false_iff, decide_eq_false_iff_not] at ho
      cases hl : F.lt t r.begin
      · have hl : ¬ t < r.begin := by simpa [F.lt] using hl
        have hd : (t - r.begin) / r.every ≤ t - r.begin := Int.ediv_le_self _ (by omega)
        have hd0 : 0 ≤ (t - r.begin) / r.every := Int.ediv_nonneg (by omega) (by omega)
        simp only [cond_false]
        omega
      · simp
    · simp
  · simp

theorem ffI_cons {α : Type} (g : α → Int) (y : α) (l : List α) : ffI g (y :: l) = bif g y != 0 then g y else ffI g l := by
  first | rfl | (simp [ffI]; done) | (unfold ffI; cases h : g y != 0 <;> simp_all)

theorem app1E (es : List Ent) (e : Ent) : es.map eEnt ++ [eEnt e] = (es ++ [e]).map eEnt := by simp

theorem lpKz_ok (l : Lst) (r : Rot) (bs : List Int) (hp : prlKz l r bs = true) : ∀ ex s', (outKz l r bs).val = some (ex, s') → LoopOK enKey (loopN Tryz.f4 1) (stKz l r bs) ex s' := by
  simp only [prlKz, Bool.and_eq_true, decide_eq_true_eq] at hp
  obtain ⟨⟨h1, h2⟩, h3⟩ := hp
  refine loop_gen (st := fun a : List Ent × List Int × Nat => stKx l r bs a.1 a.2.1 a.2.2) (out := fun a => outKx l r bs a.1 a.2.1 a.2.2) (I := fun a => a.2.2 ≤ l.entries.length ∧ a.1.length = a.2.2 ∧ a.2.1.length = a.2.2) (n := ([72, 71, 70, 19, 18, 12, 8, 7], [102, 19, 18, 12, 8, 7])) (e := ([19, 18, 8], [102, 19, 18, 8])) (r := ([10, 9, 8], [9, 8])) (fun a => l.entries.length - a.2.2) ?_ ([], [], 0) ⟨Nat.zero_le _, rfl, rfl⟩
  rintro ⟨es, ps, k⟩ ⟨hk, i1, i2⟩
  simp only at hk i1 i2
  by_cases hlt : k < l.entries.length
  · have hy : l.entries[k]? = some l.entries[k] := List.getElem?_eq_getElem hlt
    have hlb : k < bs.length := by omega
    have hz : bs[k]? = some bs[k] := List.getElem?_eq_getElem hlb
    generalize l.entries[k] = y at hy
    generalize bs[k] = b at hz
    have hpd := perAt_bd r b
    have hx : y.extra.length ≤ 20 := of_decide_eq_true (List.all_eq_true.1 h3 y (List.mem_of_getElem? hy))
    have hx2 : decide (y.extra.length * 16 ≤ 140737488355328) = true := decide_eq_true (by omega)
    have hp1 : decide (-9223372036854775808 ≤ (F.perAt r b).1) = true := decide_eq_true (by omega)
    have hp2 : decide ((F.perAt r b).1 ≤ 9223372036854775807) = true := decide_eq_true (by omega)
    have hs := F.itoa_size (n := (F.perAt r b).1) (by omega) (by omega)
    have hs2 : Nat.ble (ByteArray.size ⟨⟨[107]⟩⟩ + (F.itoa (F.perAt r b).1).size) 9223372036854775807 = true := ble_t (by show 1 + _ ≤ _; omega)
    have hb1 : Nat.ble ((ps.length + 1) * 8) 140737488355328 = true := ble_t (by omega)
    have hb2 : Nat.ble ((es.length + 1) * 88) 140737488355328 = true := ble_t (by omega)
    cases hf : (F.perAt r b).2 != 0
    · right
      refine ⟨(es ++ [F.kEnt y (F.perAt r b).1], ps ++ [(F.perAt r b).1], k + 1), ?_, by simp only [stKx_snoc]; rfl, ⟨by simp only; omega, by simp; omega, by simp; omega⟩, by simp only; omega, ?_⟩
      · simp only [stKx_snoc]
        cases es with
        | nil =>
          show ((exec enKey (loopN Tryz.f4 1) (stKn l r bs ps k)).bind _).val = _
          rw [evKzN]
          simp only [unChk, unNoS, unBnd, unCkR, unPer, unCln, unIta, unSo, unCpt, unChkw, unBndw, unCkRw, unPerw, preChk1, preNoS1, preBnd1, preCkR1, prePer1, preCln1, preIta1, preSo1, preCpt1, unstKy, unstKz, unstKy0, prlKy, prlKz, outKy, outKz, etaEnt, etaLst, etaSeg, etaRot, etaBeat, etaSpan, etaHole, Option.bind_some, List.length_map, unStrs, unInts, unBools, unU8s, unEnts, unLsts, unSegs, unRots, unBeats, unSpans, unHoles, F.lt, F.le, cond_true, cond_false, Bool.and_true, Bool.true_and, cast_lt hlt, decide_eq_true hlt, decide_eq_true hlb, next_at hlt (by omega : l.entries.length ≤ 9223372036854775807), getD_at hy, getD_at hz, stKs, unPer, unCln, unIta, hb1, hx2, hp1, hp2, hs2, hf, app1I]
          try rfl
        | cons e0 er =>
          show ((exec enKey (loopN Tryz.f4 1) (stKs l r bs (e0 :: er) ps k)).bind _).val = _
          rw [evKzS]
          simp only [unChk, unNoS, unBnd, unCkR, unPer, unCln, unIta, unSo, unCpt, unChkw, unBndw, unCkRw, unPerw, preChk1, preNoS1, preBnd1, preCkR1, prePer1, preCln1, preIta1, preSo1, preCpt1, unstKy, unstKz, unstKy0, prlKy, prlKz, outKy, outKz, etaEnt, etaLst, etaSeg, etaRot, etaBeat, etaSpan, etaHole, Option.bind_some, List.length_map, unStrs, unInts, unBools, unU8s, unEnts, unLsts, unSegs, unRots, unBeats, unSpans, unHoles, F.lt, F.le, cond_true, cond_false, Bool.and_true, Bool.true_and, cast_lt hlt, decide_eq_true hlt, decide_eq_true hlb, next_at hlt (by omega : l.entries.length ≤ 9223372036854775807), getD_at hy, getD_at hz, stKs, unPer, unCln, unIta, hb1, hb2, hx2, hp1, hp2, hs2, hf, app1I]
          rw [show List.map eEnt (e0 :: er ++ [F.kEnt y (F.perAt r b).1]) = List.map eEnt (e0 :: er) ++ [eEnt (F.kEnt y (F.perAt r b).1)] from by rw [List.map_append]; rfl]
          rfl
      · simp only [outKx, drop_at hy, drop_at hz, F.persF, ffI_cons, hf, cond_false, F.kEs, F.pers, List.map_cons, List.append_assoc, List.singleton_append]
        try rfl
    · left
      refine ⟨retK (F.perAt r b).2, ?_, ?_, by simp [retK], rfl⟩
      · cases es with
        | nil =>
          show ((exec enKey (loopN Tryz.f4 1) (stKn l r bs ps k)).bind _).val = _
          rw [evKzN]
          simp only [unChk, unNoS, unBnd, unCkR, unPer, unCln, unIta, unSo, unCpt, unChkw, unBndw, unCkRw, unPerw, preChk1, preNoS1, preBnd1, preCkR1, prePer1, preCln1, preIta1, preSo1, preCpt1, unstKy, unstKz, unstKy0, prlKy, prlKz, outKy, outKz, etaEnt, etaLst, etaSeg, etaRot, etaBeat, etaSpan, etaHole, Option.bind_some, List.length_map, unStrs, unInts, unBools, unU8s, unEnts, unLsts, unSegs, unRots, unBeats, unSpans, unHoles, F.lt, F.le, cond_true, cond_false, Bool.and_true, Bool.true_and, cast_lt hlt, decide_eq_true hlt, decide_eq_true hlb, getD_at hy, getD_at hz, unPer, hf]
          try rfl
        | cons e0 er =>
          show ((exec enKey (loopN Tryz.f4 1) (stKs l r bs (e0 :: er) ps k)).bind _).val = _
          rw [evKzS]
          simp only [unChk, unNoS, unBnd, unCkR, unPer, unCln, unIta, unSo, unCpt, unChkw, unBndw, unCkRw, unPerw, preChk1, preNoS1, preBnd1, preCkR1, prePer1, preCln1, preIta1, preSo1, preCpt1, unstKy, unstKz, unstKy0, prlKy, prlKz, outKy, outKz, etaEnt, etaLst, etaSeg, etaRot, etaBeat, etaSpan, etaHole, Option.bind_some, List.length_map, unStrs, unInts, unBools, unU8s, unEnts, unLsts, unSegs, unRots, unBeats, unSpans, unHoles, F.lt, F.le, cond_true, cond_false, Bool.and_true, Bool.true_and, cast_lt hlt, decide_eq_true hlt, decide_eq_true hlb, getD_at hy, getD_at hz, unPer, hf]
          try rfl
      · have hne : ¬ (F.perAt r b).2 = 0 := by simpa using hf
        simp only [outKx, drop_at hy, drop_at hz, F.persF, ffI_cons, hf, cond_true, decide_eq_false hne]
        rfl
  · have : k = l.entries.length := by omega
    subst this
    have hd : bs.drop l.entries.length = [] := List.drop_eq_nil_of_le (by omega)
    left
    cases es with
    | nil =>
      refine ⟨exN l ps, ?_, ?_, by simp [exN], rfl⟩
      · show ((exec enKey (loopN Tryz.f4 1) (stKn l r bs ps _)).bind _).val = _
        rw [evKzN]
        simp [exN]
      · simp only [outKx, List.drop_length, hd, F.kEs, F.pers, F.persF, List.map_nil, List.append_nil]
        rfl
    | cons e0 er =>
      refine ⟨exS l (e0 :: er) ps, ?_, ?_, by simp [exS], rfl⟩
      · show ((exec enKey (loopN Tryz.f4 1) (stKs l r bs (e0 :: er) ps _)).bind _).val = _
        rw [evKzS]
        simp [exS]
      · simp only [outKx, List.drop_length, hd, F.kEs, F.pers, F.persF, List.map_nil, List.append_nil]
        rfl

end M
end Go.Proofs.YtlemjphdhapfpaaGreatDoor
