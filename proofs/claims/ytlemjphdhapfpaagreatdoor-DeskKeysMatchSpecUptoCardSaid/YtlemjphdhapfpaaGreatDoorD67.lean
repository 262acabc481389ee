/- What is proved here: the first loop of desk.Keyed, on plain data (no statement of the seat). -/
import Derived.Test.YtlemjphdhapfpaaGreatDoorD66
namespace Go.Proofs.YtlemjphdhapfpaaGreatDoor
open Go Go.RowKit
set_option linter.unusedVariables false
set_option linter.unusedSimpArgs false

/-- Where segments are shown. -/
def F.bnds (by_ : Int) (l : List Seg) : List Int := l.map fun s => F.bnd s by_

def F.bndsOk (l : List Seg) : Bool := l.all F.bndOk

theorem F.bnds_len (by_ : Int) (l : List Seg) : (F.bnds by_ l).length = l.length := by simp [F.bnds]

/-- The name of a period's key. -/
def F.kName (p : Int) : ByteArray := ⟨⟨[107]⟩⟩ ++ F.itoa p

def F.kEnt (e : Ent) (p : Int) : Ent := { e with key := F.kName p }

def F.kEs (r : Rot) : List Ent → List Int → List Ent
  | e :: es, b :: bs => F.kEnt e (F.perAt r b).1 :: F.kEs r es bs
  | _, _ => []

def F.pers (r : Rot) (bs : List Int) : List Int := bs.map fun b => (F.perAt r b).1

def F.persF (r : Rot) (bs : List Int) : Int := M.ffI (fun b => (F.perAt r b).2) bs

def F.noE (es : List Ent) : Bool := es.isEmpty

/-- Few lines in each entry. -/
def F.few (es : List Ent) : Bool := es.all fun e => decide (e.extra.length ≤ 20)

namespace M

theorem drop_at {α : Type} {l : List α} {k : Nat} {y : α} (h : l[k]? = some y) : l.drop k = y :: l.drop (k + 1) := by
  obtain ⟨hk, rfl⟩ := List.getElem?_eq_some_iff.1 h
  exact List.drop_eq_getElem_cons hk

theorem app1I (xs : List Int) (a : Int) : xs.map eI ++ [[vI a]] = (xs ++ [a]).map eI := by simp [eI]

def stKy (l : Lst) (sg : List Seg) (by_ : Int) (r : Rot) (out : List Int) (k : Nat) : St := ⟨[(43, vI k), (42, vI sg.length), (41, .sl (sg.map eSeg)), (12, .own 12), (8, .ptr 8 0 0), (7, .ptr 7 0 0), (4, .ptr 4 0 0), (2, vI by_)], [(12, ⟨false, 3, 1, out.map eI⟩), (8, ⟨true, 0, 0, [[vI 0, vI 0, vI 0, .e0, vB false]]⟩), (7, ⟨true, 0, 0, [eRot r]⟩), (4, ⟨true, 0, 0, [eLst l]⟩)]⟩

def stKy1 (a : Lst × (List Seg) × Int × Rot × (List Int) × Nat) : St := stKy a.1 a.2.1 a.2.2.1 a.2.2.2.1 a.2.2.2.2.1 a.2.2.2.2.2

theorem stKy_inj (a a' : Lst × (List Seg) × Int × Rot × (List Int) × Nat) (h : stKy1 a = stKy1 a') : a = a' := by
  simp only [stKy1, stKy] at h
  try simp [strs_inj, ints_inj, bools_inj, u8s_inj, eEnts_inj, eEnt_iff, eLsts_inj, eLst_iff, eSegs_inj, eSeg_iff, eRots_inj, eRot_iff, eBeats_inj, eBeat_iff, eSpans_inj, eSpan_iff, eHoles_inj, eHole_iff] at h
  grind

theorem unstKy (l : Lst) (sg : List Seg) (by_ : Int) (r : Rot) (out : List Int) (k : Nat) : unenc stKy1 (St.mk [(43, (vI (↑k : Int))), (42, (vI (↑(List.length sg) : Int))), (41, AV.sl (List.map eSeg sg)), (12, .own 12), (8, .ptr 8 0 0), (7, .ptr 7 0 0), (4, .ptr 4 0 0), (2,
  (vI by_))] [(12, Blk.mk false 3 1 (List.map eI out)), (8, Blk.mk true 0 0 [[(vI (0 : Int)), (vI (0 : Int)), (vI (0 : Int)), AV.e0, (vB false)]]), (7, Blk.mk true 0 0 [[(vI
  r.begin), (vI r.every), (vI r.lead), AV.sl (List.map eU8 r.seed)]]), (4, Blk.mk true 0 0 [[(vI l.target), (vI l.first), (vI l.breaks), AV.sl (List.map eEnt l.entries), (vB
  l.ended)]])]) = some (l, sg, by_, r, out, k) := unenc_of stKy_inj (l, sg, by_, r, out, k) rfl

theorem unstKy0 (l : Lst) (sg : List Seg) (by_ : Int) (r : Rot)  : unenc stKy1 (St.mk [(43, (vI (0 : Int))), (42, (vI (↑(List.length sg) : Int))), (41, AV.sl (List.map eSeg sg)), (12, .own 12), (8, .ptr 8 0 0), (7, .ptr 7 0 0), (4, .ptr 4 0 0), (2,
  (vI by_))] [(12, Blk.mk false 3 1 []), (8, Blk.mk true 0 0 [[(vI (0 : Int)), (vI (0 : Int)), (vI (0 : Int)), AV.e0, (vB false)]]), (7, Blk.mk true 0 0 [[(vI r.begin), (vI
  r.every), (vI r.lead), AV.sl (List.map eU8 r.seed)]]), (4, Blk.mk true 0 0 [[(vI l.target), (vI l.first), (vI l.breaks), AV.sl (List.map eEnt l.entries), (vB l.ended)]])]) = some (l, sg, by_, r, [], 0) := unenc_of stKy_inj (l, sg, by_, r, [], 0) rfl

def outKy (l : Lst) (sg : List Seg) (by_ : Int) (r : Rot) (out : List Int) (k : Nat) : T (Ex × St) := .ifB (F.bndsOk (sg.drop k))
      (.ret (.exit 0, ⟨[(12, .own 12), (8, .ptr 8 0 0), (7, .ptr 7 0 0), (4, .ptr 4 0 0)], [(12, ⟨false, 3, 1, (out ++ F.bnds by_ (sg.drop k)).map eI⟩), (8, ⟨true, 0, 0, [[vI 0, vI 0, vI 0, .e0, vB false]]⟩), (7, ⟨true, 0, 0, [eRot r]⟩), (4, ⟨true, 0, 0, [eLst l]⟩)]⟩))
      (.ret (.ret, ⟨[(10, vI 1), (9, .own 9), (8, .ptr 8 0 0)], [(9, ⟨false, 3, 1, []⟩), (8, ⟨true, 0, 0, [[vI 0, vI 0, vI 0, .e0, vB false]]⟩)]⟩))

noncomputable def prlKy (l : Lst) (sg : List Seg) (by_ : Int) (r : Rot) (out : List Int) (k : Nat) : Bool := decide (sg.length ≤ 1000) && decide (k ≤ sg.length) && decide (out.length = k) && !F.noScale by_

noncomputable def lpKy : Nat × (St → T (Ex × St)) := (10, lpo [43, 42, 41, 12, 8, 7, 4, 2] [12, 8, 7, 4] stKy1 (fun a => prlKy a.1 a.2.1 a.2.2.1 a.2.2.2.1 a.2.2.2.2.1 a.2.2.2.2.2) fun a => outKy a.1 a.2.1 a.2.2.1 a.2.2.2.1 a.2.2.2.2.1 a.2.2.2.2.2)

def stKz (l : Lst) (r : Rot) (bs : List Int) : St := ⟨[(72, vI 0), (71, vI l.entries.length), (70, .sl (l.entries.map eEnt)), (19, .own 19), (18, .ptr 18 0 0), (12, .own 12), (8, .ptr 8 0 0), (7, .ptr 7 0 0)], [(19, ⟨false, 3, 1, []⟩), (18, ⟨true, 0, 0, [[vI l.target, vI l.first, vI l.breaks, .e0, vB l.ended]]⟩), (12, ⟨false, 3, 1, bs.map eI⟩), (8, ⟨true, 0, 0, [[vI 0, vI 0, vI 0, .e0, vB false]]⟩), (7, ⟨true, 0, 0, [eRot r]⟩)]⟩

def stKz1 (a : Lst × Rot × (List Int)) : St := stKz a.1 a.2.1 a.2.2

theorem stKz_inj (a a' : Lst × Rot × (List Int)) (h : stKz1 a = stKz1 a') : a = a' := by
  simp only [stKz1, stKz] at h
  (obtain ⟨⟨t1, f1, b1, e1, d1⟩, r1, s1⟩ := a; obtain ⟨⟨t2, f2, b2, e2, d2⟩, r2, s2⟩ := a'; simp [strs_inj, ints_inj, bools_inj, u8s_inj, eEnts_inj, eEnt_iff, eLsts_inj, eLst_iff, eSegs_inj, eSeg_iff, eRots_inj, eRot_iff, eBeats_inj, eBeat_iff, eSpans_inj, eSpan_iff, eHoles_inj, eHole_iff] at h; grind)

theorem unstKz (l : Lst) (r : Rot) (bs : List Int) : unenc stKz1 (St.mk [(72, (vI (0 : Int))), (71, (vI (↑(List.length l.entries) : Int))), (70, AV.sl (List.map eEnt l.entries)), (19, .own 19), (18, .ptr 18 0 0), (12, .own 12), (8, .ptr
  8 0 0), (7, .ptr 7 0 0)] [(19, Blk.mk false 3 1 []), (18, Blk.mk true 0 0 [[(vI l.target), (vI l.first), (vI l.breaks), AV.e0, (vB l.ended)]]), (12, Blk.mk false 3 1
  (List.map eI bs)), (8, Blk.mk true 0 0 [[(vI (0 : Int)), (vI (0 : Int)), (vI (0 : Int)), AV.e0, (vB false)]]), (7, Blk.mk true 0 0 [[(vI r.begin), (vI r.every), (vI
  r.lead), AV.sl (List.map eU8 r.seed)]])]) = some (l, r, bs) := unenc_of stKz_inj (l, r, bs) rfl

def outKz (l : Lst) (r : Rot) (bs : List Int) : T (Ex × St) := .ifB (decide (F.persF r bs = 0))
      (.ifB (F.noE (F.kEs r l.entries bs))
        (.ret (.exit 2, ⟨[(19, .own 19), (18, .ptr 18 0 0), (8, .ptr 8 0 0)], [(19, ⟨false, 3, 1, (F.pers r bs).map eI⟩), (18, ⟨true, 0, 0, [[vI l.target, vI l.first, vI l.breaks, .e0, vB l.ended]]⟩), (8, ⟨true, 0, 0, [[vI 0, vI 0, vI 0, .e0, vB false]]⟩)]⟩))
        (.ret (.exit 2, ⟨[(19, .own 19), (18, .ptr 18 0 0), (8, .ptr 8 0 0)], [(102, ⟨false, 46, 7, (F.kEs r l.entries bs).map eEnt⟩), (19, ⟨false, 3, 1, (F.pers r bs).map eI⟩), (18, ⟨true, 0, 0, [[vI l.target, vI l.first, vI l.breaks, .own 102, vB l.ended]]⟩), (8, ⟨true, 0, 0, [[vI 0, vI 0, vI 0, .e0, vB false]]⟩)]⟩)))
      (.ret (.ret, ⟨[(10, vI (F.persF r bs)), (9, .own 9), (8, .ptr 8 0 0)], [(9, ⟨false, 3, 1, []⟩), (8, ⟨true, 0, 0, [[vI 0, vI 0, vI 0, .e0, vB false]]⟩)]⟩))

noncomputable def prlKz (l : Lst) (r : Rot) (bs : List Int) : Bool := decide (l.entries.length ≤ 1000) && decide (bs.length = l.entries.length) && F.few l.entries

noncomputable def lpKz : Nat × (St → T (Ex × St)) := (24, lpo [72, 71, 70, 19, 18, 12, 8, 7] [19, 18, 12, 8, 7] stKz1 (fun a => prlKz a.1 a.2.1 a.2.2) fun a => outKz a.1 a.2.1 a.2.2)

noncomputable def enKey : Env := envH ty noG lks [oChk, oNoS, oBnd, oCkR, oPer, oCln, oIta] [oSo, oCpt] [] [lpKy, lpKz]

theorem enKey_ok : EnvOK Tryz.prog enKey := by
  refine envH_ok lks_ok ty_ok ?_ ?_
  · simp only [List.forall_mem_cons]
    exact ⟨okChk, okNoS, okBnd, okCkR, okPer, okCln, okIta, by simp⟩
  · simp only [List.forall_mem_cons]
    exact ⟨okSo, okCpt, by simp⟩

theorem evKyL (l : Lst) (sg : List Seg) (by_ : Int) (r : Rot) (out : List Int) (k : Nat) : ((exec enKey (loopN Tryz.f4 0) (stKy l sg by_ r out k)).bind (lessX ([43, 42, 41, 12, 8, 7, 4, 2], [12, 8, 7, 4]) ([12, 8, 7, 4], [12, 8, 7, 4]) ([10, 9, 8], [9, 8]))).val =
  bif decide ((↑k : Int) < (↑(List.length sg) : Int)) then Option.bind (unenc (List.map eSeg) (List.map eSeg sg)) fun (z : List Seg) => bif decide (k < List.length z) then
  Option.bind (unenc encBnd [AV.agg [(vI (List.getD z k (Seg.mk (0 : Int) (0 : Int) (0 : Int) (0 : Int) (0 : Int) (0 : Int) (0 : Int))).number), (vI (List.getD z k (Seg.mk
  (0 : Int) (0 : Int) (0 : Int) (0 : Int) (0 : Int) (0 : Int) (0 : Int))).fr), (vI (List.getD z k (Seg.mk (0 : Int) (0 : Int) (0 : Int) (0 : Int) (0 : Int) (0 : Int) (0 :
  Int))).to), (vI (List.getD z k (Seg.mk (0 : Int) (0 : Int) (0 : Int) (0 : Int) (0 : Int) (0 : Int) (0 : Int))).begin), (vI (List.getD z k (Seg.mk (0 : Int) (0 : Int) (0 :
  Int) (0 : Int) (0 : Int) (0 : Int) (0 : Int))).length), (vI (List.getD z k (Seg.mk (0 : Int) (0 : Int) (0 : Int) (0 : Int) (0 : Int) (0 : Int) (0 : Int))).bytes), (vI
  (List.getD z k (Seg.mk (0 : Int) (0 : Int) (0 : Int) (0 : Int) (0 : Int) (0 : Int) (0 : Int))).lead)], (vI by_)]) fun (z : Seg × Int) => bif !F.noScale z.snd then bif
  !F.bndOk z.fst then some (Ex.ret, St.mk [(10, (vI (1 : Int))), (9, .own 9), (8, .ptr 8 0 0)] [(9, Blk.mk false 3 1 []), (8, Blk.mk true 0 0 [[(vI (0 : Int)), (vI (0 :
  Int)), (vI (0 : Int)), AV.e0, (vB false)]])]) else bif Nat.ble ((List.length (List.map eI out) + (1 : Nat)) * (8 : Nat)) (140737488355328 : Nat) && true then some
  (Ex.normal, St.mk [(43, (vI (IntKind.wrap IntKind.i64 ((↑k : Int) + (1 : Int))))), (42, (vI (↑(List.length sg) : Int))), (41, AV.sl (List.map eSeg sg)), (12, .own 12), (8,
  .ptr 8 0 0), (7, .ptr 7 0 0), (4, .ptr 4 0 0), (2, (vI by_))] [(12, Blk.mk false 3 1 (List.map eI out ++ [[(vI (bif F.bndOk z.fst then F.bnd z.fst z.snd else (0 :
  Int)))]])), (8, Blk.mk true 0 0 [[(vI (0 : Int)), (vI (0 : Int)), (vI (0 : Int)), AV.e0, (vB false)]]), (7, Blk.mk true 0 0 [[(vI r.begin), (vI r.every), (vI r.lead),
  AV.sl (List.map eU8 r.seed)]]), (4, Blk.mk true 0 0 [[(vI l.target), (vI l.first), (vI l.breaks), AV.sl (List.map eEnt l.entries), (vB l.ended)]])]) else none else none
  else none else some (Ex.exit (0 : Nat), St.mk [(12, .own 12), (8, .ptr 8 0 0), (7, .ptr 7 0 0), (4, .ptr 4 0 0)] [(12, Blk.mk false 3 1 (List.map eI out)), (8, Blk.mk true
  0 0 [[(vI (0 : Int)), (vI (0 : Int)), (vI (0 : Int)), AV.e0, (vB false)]]), (7, Blk.mk true 0 0 [[(vI r.begin), (vI r.every), (vI r.lead), AV.sl (List.map eU8 r.seed)]]),
  (4, Blk.mk true 0 0 [[(vI l.target), (vI l.first), (vI l.breaks), AV.sl (List.map eEnt l.entries), (vB l.ended)]])]) := (execR_bind _ _ _).symm.trans (by kernel_rfl)

theorem lpKy_ok (l : Lst) (sg : List Seg) (by_ : Int) (r : Rot) (out : List Int) (k : Nat) (hp : prlKy l sg by_ r out k = true) : ∀ ex s', (outKy l sg by_ r out k).val = some (ex, s') → LoopOK enKey (loopN Tryz.f4 0) (stKy l sg by_ r out k) ex s' := by
  simp only [prlKy, Bool.and_eq_true, decide_eq_true_eq] at hp
  obtain ⟨⟨⟨h1, h2⟩, h3⟩, h4⟩ := hp
  refine loop_gen (st := fun a : List Int × Nat => stKy l sg by_ r a.1 a.2) (out := fun a => outKy l sg by_ r a.1 a.2) (I := fun a => a.2 ≤ sg.length ∧ a.1.length = a.2) (n := ([43, 42, 41, 12, 8, 7, 4, 2], [12, 8, 7, 4])) (e := ([12, 8, 7, 4], [12, 8, 7, 4])) (r := ([10, 9, 8], [9, 8])) (fun a => sg.length - a.2) ?_ (out, k) ⟨h2, h3⟩
  rintro ⟨out, k⟩ ⟨hk, ho⟩
  simp only at hk ho
  by_cases hlt : k < sg.length
  · have hy : sg[k]? = some sg[k] := List.getElem?_eq_getElem hlt
    generalize sg[k] = y at hy
    have hb : Nat.ble ((out.length + 1) * 8) 140737488355328 = true := ble_t (by omega)
    cases hc : F.bndOk y
    · left
      refine ⟨(.ret, ⟨[(10, vI 1), (9, .own 9), (8, .ptr 8 0 0)], [(9, ⟨false, 3, 1, []⟩), (8, ⟨true, 0, 0, [[vI 0, vI 0, vI 0, .e0, vB false]]⟩)]⟩), ?_, ?_, by simp, rfl⟩
      · rw [evKyL]
        simp only [unChk, unNoS, unBnd, unCkR, unPer, unCln, unIta, unSo, unCpt, unChkw, unBndw, unCkRw, unPerw, preChk1, preNoS1, preBnd1, preCkR1, prePer1, preCln1, preIta1, preSo1, preCpt1, unstKy, unstKz, unstKy0, prlKy, prlKz, outKy, outKz, etaEnt, etaLst, etaSeg, etaRot, etaBeat, etaSpan, etaHole, Option.bind_some, List.length_map, unStrs, unInts, unBools, unU8s, unEnts, unLsts, unSegs, unRots, unBeats, unSpans, unHoles, F.lt, F.le, cond_true, cond_false, Bool.and_true, Bool.true_and, cast_lt hlt, decide_eq_true hlt, getD_at hy, h4, hc]
        try rfl
      · simp only [outKy, drop_at hy, F.bndsOk, List.all_cons, hc]
        rfl
    · right
      refine ⟨(out ++ [F.bnd y by_], k + 1), ?_, rfl, ⟨by simp only; omega, by simp; omega⟩, by simp only; omega, ?_⟩
      · rw [evKyL]
        simp only [unChk, unNoS, unBnd, unCkR, unPer, unCln, unIta, unSo, unCpt, unChkw, unBndw, unCkRw, unPerw, preChk1, preNoS1, preBnd1, preCkR1, prePer1, preCln1, preIta1, preSo1, preCpt1, unstKy, unstKz, unstKy0, prlKy, prlKz, outKy, outKz, etaEnt, etaLst, etaSeg, etaRot, etaBeat, etaSpan, etaHole, Option.bind_some, List.length_map, unStrs, unInts, unBools, unU8s, unEnts, unLsts, unSegs, unRots, unBeats, unSpans, unHoles, F.lt, F.le, cond_true, cond_false, Bool.and_true, Bool.true_and, cast_lt hlt, decide_eq_true hlt, next_at hlt (by omega : sg.length ≤ 9223372036854775807), getD_at hy, stKy, hb, h4, hc, app1I]
        try rfl
      · simp only [outKy, drop_at hy, F.bndsOk, F.bnds, List.all_cons, hc, Bool.true_and, List.map_cons, List.append_assoc, List.singleton_append]
  · have : k = sg.length := by omega
    subst this
    left
    refine ⟨(.exit 0, ⟨[(12, .own 12), (8, .ptr 8 0 0), (7, .ptr 7 0 0), (4, .ptr 4 0 0)], [(12, ⟨false, 3, 1, out.map eI⟩), (8, ⟨true, 0, 0, [[vI 0, vI 0, vI 0, .e0, vB false]]⟩), (7, ⟨true, 0, 0, [eRot r]⟩), (4, ⟨true, 0, 0, [eLst l]⟩)]⟩), ?_, ?_, by simp, rfl⟩
    · rw [evKyL]; simp [eRot, eLst]
    · simp only [outKy, List.drop_length, F.bndsOk, F.bnds, List.all_nil, List.map_nil, List.append_nil]
      rfl

end M
end Go.Proofs.YtlemjphdhapfpaaGreatDoor
