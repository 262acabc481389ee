/- What is proved here: the first loop of headendref12.Keyed (no statement of the seat). -/
import Derived.Test.YtlemjphdhapfpaaGreatDoorD116
namespace Go.Proofs.YtlemjphdhapfpaaGreatDoor
open Go Go.RowKit
set_option linter.unusedVariables false
set_option linter.unusedSimpArgs false

/-- Numbers put in their places, one after another. -/
def F.plcs (ps : List Int) (l : List Int) : List Int := l.foldl F.plc ps

namespace M

theorem mil_pre {by_ : Int} (h1 : 1 ≤ by_) (s : Seg) : F.nk 150 (F.lowT ((F.brdAt s).natAbs * 1000) by_.natAbs) = true ∧ (by_ ≤ 1000000000 → F.nk 150 (F.lowB ((F.brdAt s).natAbs * 1000) by_.natAbs) = true) ∧ F.nv (F.lowB ((F.brdAt s).natAbs * 1000) by_.natAbs) > 0 := by
  have hle := F.brdAt_le s
  have hb : 0 < by_.natAbs := by omega
  obtain ⟨_, _, h3⟩ := F.low_div (t := (F.brdAt s).natAbs * 1000) hb
  refine ⟨?_, fun h2 => ?_, ?_⟩
  · unfold F.lowT
    refine nk_le (j := 5) (Nat.lt_of_le_of_lt (Nat.div_le_self _ _) (Nat.lt_of_le_of_lt (by omega : (F.brdAt s).natAbs * 1000 ≤ 1000000000000000000) (by decide))) (by decide)
  · unfold F.lowB
    refine nk_le (j := 5) (Nat.lt_of_le_of_lt (Nat.div_le_self _ _) (Nat.lt_of_le_of_lt (by omega : by_.natAbs ≤ 1000000000000000000) (by decide))) (by decide)
  · unfold F.lowB
    rw [F.nv_lb]; exact h3

def stRKy (l : Lst) (sg : List Seg) (by_ : Int) (r : Rot) (out : List Int) (k : Nat) : St := ⟨[(13, vI k), (12, .own 12), (8, .ptr 8 0 0), (7, .ptr 7 0 0), (4, .ptr 4 0 0), (2, vI by_), (1, .sl (sg.map eSeg))], [(12, ⟨false, 3, 1, out.map eI⟩), (8, ⟨true, 0, 0, [[vI 0, vI 0, vI 0, .e0, vB false]]⟩), (7, ⟨true, 0, 0, [eRot r]⟩), (4, ⟨true, 0, 0, [eLst l]⟩)]⟩

def stRKy1 (a : Lst × (List Seg) × Int × Rot × (List Int) × Nat) : St := stRKy a.1 a.2.1 a.2.2.1 a.2.2.2.1 a.2.2.2.2.1 a.2.2.2.2.2

theorem stRKy_inj (a a' : Lst × (List Seg) × Int × Rot × (List Int) × Nat) (h : stRKy1 a = stRKy1 a') : a = a' := by
  simp only [stRKy1, stRKy] at h
  try simp [strs_inj, ints_inj, bools_inj, u8s_inj, eEnts_inj, eEnt_iff, eLsts_inj, eLst_iff, eSegs_inj, eSeg_iff, eRots_inj, eRot_iff, eBeats_inj, eBeat_iff, eSpans_inj, eSpan_iff, eHoles_inj, eHole_iff] at h
  grind

theorem unstRKy (l : Lst) (sg : List Seg) (by_ : Int) (r : Rot) (out : List Int) (k : Nat) : unenc stRKy1 (St.mk [(13, (vI (↑k : Int))), (12, .own 12), (8, .ptr 8 0 0), (7, .ptr 7 0 0), (4, .ptr 4 0 0), (2, (vI by_)), (1, AV.sl (List.map eSeg sg))] [(12, Blk.mk false 3 1
  (List.map eI out)), (8, Blk.mk true 0 0 [[(vI (0 : Int)), (vI (0 : Int)), (vI (0 : Int)), AV.e0, (vB false)]]), (7, Blk.mk true 0 0 [[(vI r.begin), (vI r.every), (vI
  r.lead), AV.sl (List.map eU8 r.seed)]]), (4, Blk.mk true 0 0 [[(vI l.target), (vI l.first), (vI l.breaks), AV.sl (List.map eEnt l.entries), (vB l.ended)]])]) = some (l, sg, by_, r, out, k) := unenc_of stRKy_inj (l, sg, by_, r, out, k) rfl

theorem unstRKy0 (l : Lst) (sg : List Seg) (by_ : Int) (r : Rot)  : unenc stRKy1 (St.mk [(13, (vI (0 : Int))), (12, .own 12), (8, .ptr 8 0 0), (7, .ptr 7 0 0), (4, .ptr 4 0 0), (2, (vI by_)), (1, AV.sl (List.map eSeg sg))] [(12, Blk.mk false 3 1 []),
  (8, Blk.mk true 0 0 [[(vI (0 : Int)), (vI (0 : Int)), (vI (0 : Int)), AV.e0, (vB false)]]), (7, Blk.mk true 0 0 [[(vI r.begin), (vI r.every), (vI r.lead), AV.sl (List.map
  eU8 r.seed)]]), (4, Blk.mk true 0 0 [[(vI l.target), (vI l.first), (vI l.breaks), AV.sl (List.map eEnt l.entries), (vB l.ended)]])]) = some (l, sg, by_, r, [], 0) := unenc_of stRKy_inj (l, sg, by_, r, [], 0) rfl

def outRKy (l : Lst) (sg : List Seg) (by_ : Int) (r : Rot) (out : List Int) (k : Nat) : T (Ex × St) := .ifB (F.bndsOk (sg.drop k))
      (.ret (.exit 0, ⟨[(12, .own 12), (8, .ptr 8 0 0), (7, .ptr 7 0 0), (4, .ptr 4 0 0), (1, .sl (sg.map eSeg))], [(12, ⟨false, 3, 1, (out ++ F.bnds by_ (sg.drop k)).map eI⟩), (8, ⟨true, 0, 0, [[vI 0, vI 0, vI 0, .e0, vB false]]⟩), (7, ⟨true, 0, 0, [eRot r]⟩), (4, ⟨true, 0, 0, [eLst l]⟩)]⟩))
      (.ret (.ret, ⟨[(10, vI 1), (9, .own 9), (8, .ptr 8 0 0)], [(9, ⟨false, 3, 1, []⟩), (8, ⟨true, 0, 0, [[vI 0, vI 0, vI 0, .e0, vB false]]⟩)]⟩))

noncomputable def prlRKy (l : Lst) (sg : List Seg) (by_ : Int) (r : Rot) (out : List Int) (k : Nat) : Bool := decide (sg.length ≤ 1000) && decide (k ≤ sg.length) && decide (out.length = k) && !F.noScale by_

noncomputable def lpRKy : Nat × (St → T (Ex × St)) := (10, lpo [13, 12, 8, 7, 4, 2, 1] [12, 8, 7, 4] stRKy1 (fun a => prlRKy a.1 a.2.1 a.2.2.1 a.2.2.2.1 a.2.2.2.2.1 a.2.2.2.2.2) fun a => outRKy a.1 a.2.1 a.2.2.1 a.2.2.2.1 a.2.2.2.2.1 a.2.2.2.2.2)

def stRKz (l : Lst) (sg : List Seg) (r : Rot) (bs : List Int) : St := ⟨[(20, vI 0), (19, .own 19), (18, .ptr 18 0 0), (12, .own 12), (8, .ptr 8 0 0), (7, .ptr 7 0 0), (4, .ptr 4 0 0), (1, .sl (sg.map eSeg))], [(19, ⟨false, 3, 1, []⟩), (18, ⟨true, 0, 0, [[vI l.target, vI l.first, vI l.breaks, .e0, vB l.ended]]⟩), (12, ⟨false, 3, 1, bs.map eI⟩), (8, ⟨true, 0, 0, [[vI 0, vI 0, vI 0, .e0, vB false]]⟩), (7, ⟨true, 0, 0, [eRot r]⟩), (4, ⟨true, 0, 0, [eLst l]⟩)]⟩

def stRKz1 (a : Lst × (List Seg) × Rot × (List Int)) : St := stRKz a.1 a.2.1 a.2.2.1 a.2.2.2

theorem stRKz_inj (a a' : Lst × (List Seg) × Rot × (List Int)) (h : stRKz1 a = stRKz1 a') : a = a' := by
  simp only [stRKz1, stRKz] at h
  (obtain ⟨⟨t1, f1, b1, e1, d1⟩, g1, r1, s1⟩ := a; obtain ⟨⟨t2, f2, b2, e2, d2⟩, g2, r2, s2⟩ := a'; simp [strs_inj, ints_inj, bools_inj, u8s_inj, eEnts_inj, eEnt_iff, eLsts_inj, eLst_iff, eSegs_inj, eSeg_iff, eRots_inj, eRot_iff, eBeats_inj, eBeat_iff, eSpans_inj, eSpan_iff, eHoles_inj, eHole_iff] at h; grind)

theorem unstRKz (l : Lst) (sg : List Seg) (r : Rot) (bs : List Int) : unenc stRKz1 (St.mk [(20, (vI (0 : Int))), (19, .own 19), (18, .ptr 18 0 0), (12, .own 12), (8, .ptr 8 0 0), (7, .ptr 7 0 0), (4, .ptr 4 0 0), (1, AV.sl (List.map eSeg sg))] [(19,
  Blk.mk false 3 1 []), (18, Blk.mk true 0 0 [[(vI l.target), (vI l.first), (vI l.breaks), AV.e0, (vB l.ended)]]), (12, Blk.mk false 3 1 (List.map eI bs)), (8, Blk.mk true 0
  0 [[(vI (0 : Int)), (vI (0 : Int)), (vI (0 : Int)), AV.e0, (vB false)]]), (7, Blk.mk true 0 0 [[(vI r.begin), (vI r.every), (vI r.lead), AV.sl (List.map eU8 r.seed)]]),
  (4, Blk.mk true 0 0 [[(vI l.target), (vI l.first), (vI l.breaks), AV.sl (List.map eEnt l.entries), (vB l.ended)]])]) = some (l, sg, r, bs) := unenc_of stRKz_inj (l, sg, r, bs) rfl

def outRKz (l : Lst) (sg : List Seg) (r : Rot) (bs : List Int) : T (Ex × St) := .ifB (decide (F.persF r bs = 0))
      (.ifB (F.noE (F.kEs r l.entries bs))
        (.ret (.exit 2, ⟨[(19, .own 19), (18, .ptr 18 0 0), (8, .ptr 8 0 0)], [(19, ⟨false, 3, 1, []⟩), (18, ⟨true, 0, 0, [[vI l.target, vI l.first, vI l.breaks, .e0, vB l.ended]]⟩), (8, ⟨true, 0, 0, [[vI 0, vI 0, vI 0, .e0, vB false]]⟩)]⟩))
        (.ret (.exit 2, ⟨[(19, .sl ((F.plcs [] (F.pers r bs)).map eI)), (18, .ptr 18 0 0), (8, .ptr 8 0 0)], [(111, ⟨false, 46, 7, (F.kEs r l.entries bs).map eEnt⟩), (18, ⟨true, 0, 0, [[vI l.target, vI l.first, vI l.breaks, .own 111, vB l.ended]]⟩), (8, ⟨true, 0, 0, [[vI 0, vI 0, vI 0, .e0, vB false]]⟩)]⟩)))
      (.ret (.ret, ⟨[(10, vI (F.persF r bs)), (9, .own 9), (8, .ptr 8 0 0)], [(9, ⟨false, 3, 1, []⟩), (8, ⟨true, 0, 0, [[vI 0, vI 0, vI 0, .e0, vB false]]⟩)]⟩))

noncomputable def prlRKz (l : Lst) (sg : List Seg) (r : Rot) (bs : List Int) : Bool := decide (l.entries.length ≤ 1000) && decide (bs.length = l.entries.length) && decide (sg.length = l.entries.length)

noncomputable def lpRKz : Nat × (St → T (Ex × St)) := (24, lpo [20, 19, 18, 12, 8, 7, 4, 1] [19, 18, 12, 8, 7, 4] stRKz1 (fun a => prlRKz a.1 a.2.1 a.2.2.1 a.2.2.2) fun a => outRKz a.1 a.2.1 a.2.2.1 a.2.2.2)

noncomputable def enRKey : Env := envH ty noG lks [oRChk, oIsc, oBrd, oTur, oWhl, oRCk, oRPe, oIta, oPlc] [] [] [lpRKy, lpRKz]

theorem enRKey_ok : EnvOK Tryz.prog enRKey := by
  refine envH_ok lks_ok ty_ok ?_ ?_
  · simp only [List.forall_mem_cons]
    exact ⟨okRChk, okIsc, okBrd, okTur, okWhl, okRCk, okRPe, okIta, okPlc, by simp⟩
  · simp

theorem evRKyL (l : Lst) (sg : List Seg) (by_ : Int) (r : Rot) (out : List Int) (k : Nat) : ((exec enRKey (loopN Tryz.f5 0) (stRKy l sg by_ r out k)).bind (lessX ([13, 12, 8, 7, 4, 2, 1], [12, 8, 7, 4]) ([12, 8, 7, 4, 1], [12, 8, 7, 4]) ([10, 9, 8], [9, 8]))).val =
  bif decide ((↑k : Int) < (↑(List.length (List.map eSeg sg)) : Int)) then Option.bind (unenc (List.map eSeg) (List.map eSeg sg)) fun (z : List Seg) => bif decide (k <
  List.length z) then Option.bind (unenc encBrd [AV.agg [(vI (List.getD z k (Seg.mk (0 : Int) (0 : Int) (0 : Int) (0 : Int) (0 : Int) (0 : Int) (0 : Int))).number), (vI
  (List.getD z k (Seg.mk (0 : Int) (0 : Int) (0 : Int) (0 : Int) (0 : Int) (0 : Int) (0 : Int))).fr), (vI (List.getD z k (Seg.mk (0 : Int) (0 : Int) (0 : Int) (0 : Int) (0 :
  Int) (0 : Int) (0 : Int))).to), (vI (List.getD z k (Seg.mk (0 : Int) (0 : Int) (0 : Int) (0 : Int) (0 : Int) (0 : Int) (0 : Int))).begin), (vI (List.getD z k (Seg.mk (0 :
  Int) (0 : Int) (0 : Int) (0 : Int) (0 : Int) (0 : Int) (0 : Int))).length), (vI (List.getD z k (Seg.mk (0 : Int) (0 : Int) (0 : Int) (0 : Int) (0 : Int) (0 : Int) (0 :
  Int))).bytes), (vI (List.getD z k (Seg.mk (0 : Int) (0 : Int) (0 : Int) (0 : Int) (0 : Int) (0 : Int) (0 : Int))).lead)]]) fun (z : Seg) => Option.bind (unenc encTur [(vI
  (bif F.brdOk z then z.begin + z.lead else (0 : Int))), (vI by_), (vI (1000 : Int))]) fun (z_1 : Int × Int × Int) => bif decide ((-9223372036854775808 : Int) ≤ z_1.fst) &&
  decide (z_1.fst ≤ (9223372036854775807 : Int)) && decide ((1 : Int) ≤ z_1.snd.fst) && decide (z_1.snd.fst ≤ (9223372036854775807 : Int)) && decide ((1 : Int) ≤
  z_1.snd.snd) && decide (z_1.snd.snd ≤ (9223372036854775807 : Int)) then Option.bind (unenc encWhl [AV.agg [(vB (decide (z_1.fst < (0 : Int)) && decide ((0 : Nat) <
  Int.natAbs z_1.fst * Int.natAbs z_1.snd.snd))), AV.sl (List.map eI (F.lowT (Int.natAbs z_1.fst * Int.natAbs z_1.snd.snd) (Int.natAbs z_1.snd.fst))), AV.sl (List.map eI
  (F.lowB (Int.natAbs z_1.fst * Int.natAbs z_1.snd.snd) (Int.natAbs z_1.snd.fst)))], (vI (1 : Int))]) fun (z_2 : Bool × List Int × List Int × Int) => bif F.nk (150 : Nat)
  z_2.snd.fst && F.nk (150 : Nat) z_2.snd.snd.fst && decide ((0 : Nat) < F.nv z_2.snd.snd.fst) then bif bif !F.brdOk z then true else decide (F.whole z_2.snd.snd.snd z_2.fst
  (F.nv z_2.snd.fst) (F.nv z_2.snd.snd.fst) < (0 : Int)) then some (Ex.ret, St.mk [(10, (vI (1 : Int))), (9, .own 9), (8, .ptr 8 0 0)] [(9, Blk.mk false 3 1 []), (8, Blk.mk
  true 0 0 [[(vI (0 : Int)), (vI (0 : Int)), (vI (0 : Int)), AV.e0, (vB false)]])]) else bif Nat.ble ((List.length (List.map eI out) + (1 : Nat)) * (8 : Nat))
  (140737488355328 : Nat) && true then some (Ex.normal, St.mk [(13, (vI (IntKind.wrap IntKind.i64 ((↑k : Int) + (1 : Int))))), (12, .own 12), (8, .ptr 8 0 0), (7, .ptr 7 0
  0), (4, .ptr 4 0 0), (2, (vI by_)), (1, AV.sl (List.map eSeg sg))] [(12, Blk.mk false 3 1 (List.map eI out ++ [[(vI (F.whole z_2.snd.snd.snd z_2.fst (F.nv z_2.snd.fst)
  (F.nv z_2.snd.snd.fst)))]])), (8, Blk.mk true 0 0 [[(vI (0 : Int)), (vI (0 : Int)), (vI (0 : Int)), AV.e0, (vB false)]]), (7, Blk.mk true 0 0 [[(vI r.begin), (vI r.every),
  (vI r.lead), AV.sl (List.map eU8 r.seed)]]), (4, Blk.mk true 0 0 [[(vI l.target), (vI l.first), (vI l.breaks), AV.sl (List.map eEnt l.entries), (vB l.ended)]])]) else none
  else none else none else none else some (Ex.exit (0 : Nat), St.mk [(12, .own 12), (8, .ptr 8 0 0), (7, .ptr 7 0 0), (4, .ptr 4 0 0), (1, AV.sl (List.map eSeg sg))] [(12,
  Blk.mk false 3 1 (List.map eI out)), (8, Blk.mk true 0 0 [[(vI (0 : Int)), (vI (0 : Int)), (vI (0 : Int)), AV.e0, (vB false)]]), (7, Blk.mk true 0 0 [[(vI r.begin), (vI
  r.every), (vI r.lead), AV.sl (List.map eU8 r.seed)]]), (4, Blk.mk true 0 0 [[(vI l.target), (vI l.first), (vI l.breaks), AV.sl (List.map eEnt l.entries), (vB l.ended)]])]) := (execR_bind _ _ _).symm.trans (by kernel_rfl)

theorem lpRKy_ok (l : Lst) (sg : List Seg) (by_ : Int) (r : Rot) (out : List Int) (k : Nat) (hp : prlRKy l sg by_ r out k = true) : ∀ ex s', (outRKy l sg by_ r out k).val = some (ex, s') → LoopOK enRKey (loopN Tryz.f5 0) (stRKy l sg by_ r out k) ex s' := by
  simp only [prlRKy, Bool.and_eq_true, decide_eq_true_eq] at hp
  obtain ⟨⟨⟨h1, h2⟩, h3⟩, h4⟩ := hp
  have hby : (1 ≤ by_ ∧ by_ ≤ 1000000000) := by
    simp only [F.noScale, F.out, Bool.not_eq_true', Bool.or_eq_false_iff, decide_eq_false_iff_not] at h4
    omega
  refine loop_gen (st := fun a : List Int × Nat => stRKy l sg by_ r a.1 a.2) (out := fun a => outRKy l sg by_ r a.1 a.2) (I := fun a => a.2 ≤ sg.length ∧ a.1.length = a.2) (n := ([13, 12, 8, 7, 4, 2, 1], [12, 8, 7, 4])) (e := ([12, 8, 7, 4, 1], [12, 8, 7, 4])) (r := ([10, 9, 8], [9, 8])) (fun a => sg.length - a.2) ?_ (out, k) ⟨h2, h3⟩
  rintro ⟨out, k⟩ ⟨hk, ho⟩
  simp only at hk ho
  by_cases hlt : k < sg.length
  · have hy : sg[k]? = some sg[k] := List.getElem?_eq_getElem hlt
    generalize sg[k] = y at hy
    have hb : Nat.ble ((out.length + 1) * 8) 140737488355328 = true := ble_t (by omega)
    obtain ⟨m1, m2⟩ := F.mil_ok hby.1 y
    obtain ⟨k1, k2, k3⟩ := mil_pre hby.1 y
    have k2 := k2 hby.2
    have hle := F.brdAt_le y
    have p1 : decide (-9223372036854775808 ≤ F.brdAt y) = true := decide_eq_true (by omega)
    have p2 : decide (F.brdAt y ≤ 9223372036854775807) = true := decide_eq_true (by omega)
    have p3 : decide (1 ≤ by_) = true := decide_eq_true hby.1
    have p4 : decide (by_ ≤ 9223372036854775807) = true := decide_eq_true (by omega)
    have p5 : decide ((1 : Int) ≤ 1000) = true := rfl
    have p6 : decide ((1000 : Int) ≤ 9223372036854775807) = true := rfl
    have eT : F.nv (F.lowT ((F.brdAt y).natAbs * 1000) by_.natAbs) = (F.brdAt y).natAbs * 1000 / Nat.gcd by_.natAbs ((F.brdAt y).natAbs * 1000) := F.nv_lb _
    have eB : F.nv (F.lowB ((F.brdAt y).natAbs * 1000) by_.natAbs) = by_.natAbs / Nat.gcd by_.natAbs ((F.brdAt y).natAbs * 1000) := F.nv_lb _
    have hbr : (bif F.brdOk y then y.begin + y.lead else 0) = F.brdAt y := rfl
    have h1000 : (1000 : Int).natAbs = 1000 := rfl
    have hml : F.whole 1 (decide (F.brdAt y < 0) && decide (0 < (F.brdAt y).natAbs * 1000)) ((F.brdAt y).natAbs * 1000 / Nat.gcd by_.natAbs ((F.brdAt y).natAbs * 1000)) (by_.natAbs / Nat.gcd by_.natAbs ((F.brdAt y).natAbs * 1000)) = F.mil by_ y := rfl
    rw [eB] at k3
    cases hc : F.bndOk y
    · left
      refine ⟨(.ret, ⟨[(10, vI 1), (9, .own 9), (8, .ptr 8 0 0)], [(9, ⟨false, 3, 1, []⟩), (8, ⟨true, 0, 0, [[vI 0, vI 0, vI 0, .e0, vB false]]⟩)]⟩), ?_, ?_, by simp, rfl⟩
      · rw [hc] at m1
        rw [evRKyL]
        simp only [unRChk, unIsc, unBrd, unTur, unWhl, unRCk, unRPe, unIta, unPlc, unRChkw, unBrdw, unRCkw, unRPew, preRChk1, preIsc1, preBrd1, preTur1, preWhl1, preRCk1, preRPe1, preIta1, prePlc1, unstRKy, unstRKz, unstRKy0, prlRKy, prlRKz, outRKy, outRKz, etaEnt, etaLst, etaSeg, etaRot, etaBeat, etaSpan, etaHole, Option.bind_some, List.length_map, unStrs, unInts, unBools, unU8s, unEnts, unLsts, unSegs, unRots, unBeats, unSpans, unHoles, F.lt, F.le, cond_true, cond_false, Bool.and_true, Bool.true_and, cast_lt hlt, decide_eq_true hlt, getD_at hy, hbr, p1, p2, p3, p4, p5, p6, h1000, k1, k2, eT, eB, decide_eq_true k3, hml]
        cases hk : F.brdOk y
        · rfl
        · rw [hk] at m1
          simp only [Bool.not_true, Bool.false_or, Bool.not_false] at m1
          rw [m1]; rfl
      · simp only [outRKy, drop_at hy, F.bndsOk, List.all_cons, hc]
        rfl
    · right
      refine ⟨(out ++ [F.bnd y by_], k + 1), ?_, rfl, ⟨by simp only; omega, by simp; omega⟩, by simp only; omega, ?_⟩
      · rw [hc] at m1
        have m2 := m2 hc
        simp only [Bool.not_true, Bool.or_eq_false_iff, Bool.not_eq_false'] at m1
        obtain ⟨m3, m4⟩ := m1
        rw [m2] at m4
        rw [evRKyL]
        simp only [unRChk, unIsc, unBrd, unTur, unWhl, unRCk, unRPe, unIta, unPlc, unRChkw, unBrdw, unRCkw, unRPew, preRChk1, preIsc1, preBrd1, preTur1, preWhl1, preRCk1, preRPe1, preIta1, prePlc1, unstRKy, unstRKz, unstRKy0, prlRKy, prlRKz, outRKy, outRKz, etaEnt, etaLst, etaSeg, etaRot, etaBeat, etaSpan, etaHole, Option.bind_some, List.length_map, unStrs, unInts, unBools, unU8s, unEnts, unLsts, unSegs, unRots, unBeats, unSpans, unHoles, F.lt, F.le, cond_true, cond_false, Bool.and_true, Bool.true_and, cast_lt hlt, decide_eq_true hlt, next_at hlt (by omega : sg.length ≤ 9223372036854775807), getD_at hy, stRKy, hb, hbr, p1, p2, p3, p4, p5, p6, h1000, k1, k2, eT, eB, decide_eq_true k3, hml, m2, app1I]
        rw [m3, m4]
        rfl
      · simp only [outRKy, drop_at hy, F.bndsOk, F.bnds, List.all_cons, hc, Bool.true_and, List.map_cons, List.append_assoc, List.singleton_append]
  · have : k = sg.length := by omega
    subst this
    left
    refine ⟨(.exit 0, ⟨[(12, .own 12), (8, .ptr 8 0 0), (7, .ptr 7 0 0), (4, .ptr 4 0 0), (1, .sl (sg.map eSeg))], [(12, ⟨false, 3, 1, out.map eI⟩), (8, ⟨true, 0, 0, [[vI 0, vI 0, vI 0, .e0, vB false]]⟩), (7, ⟨true, 0, 0, [eRot r]⟩), (4, ⟨true, 0, 0, [eLst l]⟩)]⟩), ?_, ?_, by simp, rfl⟩
    · rw [evRKyL]; simp [eRot, eLst]
    · simp only [outRKy, List.drop_length, F.bndsOk, F.bnds, List.all_nil, List.map_nil, List.append_nil]
      rfl

end M
end Go.Proofs.YtlemjphdhapfpaaGreatDoor
