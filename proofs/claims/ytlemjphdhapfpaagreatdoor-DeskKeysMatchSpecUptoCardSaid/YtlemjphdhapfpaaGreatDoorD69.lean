/- What is proved here: what desk.Keyed returns on plain data (no statement of the seat). -/
import Derived.Test.YtlemjphdhapfpaaGreatDoorD68
namespace Go.Proofs.YtlemjphdhapfpaaGreatDoor
open Go Go.RowKit
set_option linter.unusedVariables false
set_option linter.unusedSimpArgs false

def F.noLst : Lst := ⟨0, 0, 0, [], false⟩

def F.kLst (l : Lst) (r : Rot) (bs : List Int) : Lst := { l with entries := F.kEs r l.entries bs }

def F.kAns (l : Lst) (r : Rot) (bs : List Int) : Lst × List Int × Int :=
  bif F.persF r bs != 0 then (F.noLst, [], F.persF r bs) else
  bif F.check (F.kLst l r bs) != 0 then (F.noLst, [], F.check (F.kLst l r bs)) else
  (F.kLst l r bs, F.cmpI (F.srtI (F.pers r bs)), 0)

/-- The list with keys, the periods, the fault. -/
def F.keyed (l : Lst) (sg : List Seg) (by_ : Int) (r : Rot) : Lst × List Int × Int :=
  bif F.check l != 0 then (F.noLst, [], F.check l) else
  bif !decide (sg.length = l.entries.length) then (F.noLst, [], 3) else
  bif F.noScale by_ then (F.noLst, [], 1) else
  bif !F.bndsOk sg then (F.noLst, [], 1) else
  bif F.chkR r != 0 then (F.noLst, [], F.chkR r) else
  F.kAns l r (F.bnds by_ sg)

theorem F.check_few {l : Lst} (h : F.check l = 0) : l.entries.length ≤ 1000 ∧ F.few l.entries = true := by
  unfold F.check at h
  split at h
  · cases h
  · split at h
    · cases h
    · refine ⟨by omega, List.all_eq_true.2 fun e he => ?_⟩
      have h2 := F.ffI_zero h e he
      refine decide_eq_true ?_
      by_cases hx : 20 < e.extra.length
      · exfalso
        unfold F.entryFault at h2
        grind
      · omega

theorem F.noE_len (es : List Ent) : F.noE es = decide (es.length = 0) := by cases es <;> simp [F.noE]

namespace M

theorem takeP (xs ys : List Int) : ((xs ++ ys).map eI).take xs.length = xs.map eI := by rw [List.map_append, List.take_append_of_le_length (by simp), List.take_of_length_le (by simp)]

theorem evKey (l : Lst) (sg : List Seg) (by_ : Int) (r : Rot) : (runF enKey false Tryz.f4 [.agg (eLst l), .sl (sg.map eSeg), vI by_, .agg (eRot r)]).val =
  Option.bind (unenc encChk [AV.agg [(vI l.target), (vI l.first), (vI l.breaks), AV.sl (List.map eEnt l.entries), (vB l.ended)]]) fun (z : Lst) => bif F.check z != (0 : Int)
  then some (AV.tup [AV.agg [(vI (0 : Int)), (vI (0 : Int)), (vI (0 : Int)), AV.sl [], (vB false)], AV.sl [], (vI (F.check z))], []) else bif (↑(List.length (List.map eSeg
  sg)) : Int) != (↑(List.length (List.map eEnt l.entries)) : Int) then some (AV.tup [AV.agg [(vI (0 : Int)), (vI (0 : Int)), (vI (0 : Int)), AV.sl [], (vB false)], AV.sl [],
  (vI (3 : Int))], []) else Option.bind (unenc encNoS [(vI by_)]) fun (z : Int) => bif F.noScale z then some (AV.tup [AV.agg [(vI (0 : Int)), (vI (0 : Int)), (vI (0 : Int)),
  AV.sl [], (vB false)], AV.sl [], (vI (1 : Int))], []) else Option.bind (unenc stKy1 (St.mk [(43, (vI (0 : Int))), (42, (vI (↑(List.length (List.map eSeg sg)) : Int))),
  (41, AV.sl (List.map eSeg sg)), (12, .own 12), (8, .ptr 8 0 0), (7, .ptr 7 0 0), (4, .ptr 4 0 0), (2, (vI by_))] [(12, Blk.mk false 3 1 []), (8, Blk.mk true 0 0 [[(vI (0 :
  Int)), (vI (0 : Int)), (vI (0 : Int)), AV.e0, (vB false)]]), (7, Blk.mk true 0 0 [[(vI r.begin), (vI r.every), (vI r.lead), AV.sl (List.map eU8 r.seed)]]), (4, Blk.mk true
  0 0 [[(vI l.target), (vI l.first), (vI l.breaks), AV.sl (List.map eEnt l.entries), (vB l.ended)]])])) fun (z : Lst × List Seg × Int × Rot × List Int × Nat) => bif decide
  (List.length z.snd.fst ≤ (1000 : Nat)) && decide (z.snd.snd.snd.snd.snd ≤ List.length z.snd.fst) && decide (List.length z.snd.snd.snd.snd.fst = z.snd.snd.snd.snd.snd) &&
  !F.noScale z.snd.snd.fst && true then bif F.bndsOk (List.drop z.snd.snd.snd.snd.snd z.snd.fst) then Option.bind (unenc encCkR [AV.agg [(vI z.snd.snd.snd.fst.begin), (vI
  z.snd.snd.snd.fst.every), (vI z.snd.snd.snd.fst.lead), AV.sl (List.map eU8 z.snd.snd.snd.fst.seed)]]) fun (z_1 : Rot) => bif F.chkR z_1 != (0 : Int) then some (AV.tup
  [AV.agg [(vI (0 : Int)), (vI (0 : Int)), (vI (0 : Int)), AV.sl [], (vB false)], AV.sl [], (vI (F.chkR z_1))], []) else Option.bind (unenc stKz1 (St.mk [(72, (vI (0 :
  Int))), (71, (vI (↑(List.length (List.map eEnt z.fst.entries)) : Int))), (70, AV.sl (List.map eEnt z.fst.entries)), (19, .own 19), (18, .ptr 18 0 0), (12, .own 12), (8,
  .ptr 8 0 0), (7, .ptr 7 0 0)] [(19, Blk.mk false 3 1 []), (18, Blk.mk true 0 0 [[(vI z.fst.target), (vI z.fst.first), (vI z.fst.breaks), AV.e0, (vB z.fst.ended)]]), (12,
  Blk.mk false 3 1 (List.map eI (z.snd.snd.snd.snd.fst ++ F.bnds z.snd.snd.fst (List.drop z.snd.snd.snd.snd.snd z.snd.fst)))), (8, Blk.mk true 0 0 [[(vI (0 : Int)), (vI (0 :
  Int)), (vI (0 : Int)), AV.e0, (vB false)]]), (7, Blk.mk true 0 0 [[(vI z.snd.snd.snd.fst.begin), (vI z.snd.snd.snd.fst.every), (vI z.snd.snd.snd.fst.lead), AV.sl (List.map
  eU8 z.snd.snd.snd.fst.seed)]])])) fun (z : Lst × Rot × List Int) => bif decide (List.length z.fst.entries ≤ (1000 : Nat)) && decide (List.length z.snd.snd = List.length
  z.fst.entries) && F.few z.fst.entries && true then bif decide (F.persF z.snd.fst z.snd.snd = (0 : Int)) then bif F.noE (F.kEs z.snd.fst z.fst.entries z.snd.snd) then
  Option.bind (unenc encChk [AV.agg [(vI z.fst.target), (vI z.fst.first), (vI z.fst.breaks), AV.sl [], (vB z.fst.ended)]]) fun (z_2 : Lst) => bif F.check z_2 != (0 : Int)
  then some (AV.tup [AV.agg [(vI (0 : Int)), (vI (0 : Int)), (vI (0 : Int)), AV.sl [], (vB false)], AV.sl [], (vI (F.check z_2))], []) else Option.bind (unenc encSo ([.own
  900], [(900, Blk.mk false 3 1 (List.map eI (F.pers z.snd.fst z.snd.snd)))])) fun (z_3 : List Int) => bif decide (List.length z_3 ≤ (100000 : Nat)) then Option.bind (unenc
  encCpt ([.own 900], [(900, Blk.mk false 3 1 (List.map eI (F.srtI z_3)))])) fun (z_4 : List Int) => bif decide (List.length z_4 ≤ (100000 : Nat)) then some (AV.tup [AV.agg
  [(vI z.fst.target), (vI z.fst.first), (vI z.fst.breaks), AV.sl [], (vB z.fst.ended)], AV.sl (List.take (List.length (F.cmpI z_4)) (List.map eI (F.cmpI z_4 ++
  List.replicate (List.length z_4 - List.length (F.cmpI z_4)) (0 : Int)))), (vI (0 : Int))], []) else none else none else Option.bind (unenc encChk [AV.agg [(vI
  z.fst.target), (vI z.fst.first), (vI z.fst.breaks), AV.sl (List.map eEnt (F.kEs z.snd.fst z.fst.entries z.snd.snd)), (vB z.fst.ended)]]) fun (z_2 : Lst) => bif F.check z_2
  != (0 : Int) then some (AV.tup [AV.agg [(vI (0 : Int)), (vI (0 : Int)), (vI (0 : Int)), AV.sl [], (vB false)], AV.sl [], (vI (F.check z_2))], []) else Option.bind (unenc
  encSo ([.own 900], [(900, Blk.mk false 3 1 (List.map eI (F.pers z.snd.fst z.snd.snd)))])) fun (z_3 : List Int) => bif decide (List.length z_3 ≤ (100000 : Nat)) then
  Option.bind (unenc encCpt ([.own 900], [(900, Blk.mk false 3 1 (List.map eI (F.srtI z_3)))])) fun (z_4 : List Int) => bif decide (List.length z_4 ≤ (100000 : Nat)) then
  some (AV.tup [AV.agg [(vI z.fst.target), (vI z.fst.first), (vI z.fst.breaks), AV.sl (List.map eEnt (F.kEs z.snd.fst z.fst.entries z.snd.snd)), (vB z.fst.ended)], AV.sl
  (List.take (List.length (F.cmpI z_4)) (List.map eI (F.cmpI z_4 ++ List.replicate (List.length z_4 - List.length (F.cmpI z_4)) (0 : Int)))), (vI (0 : Int))], []) else none
  else none else some (AV.tup [AV.agg [(vI (0 : Int)), (vI (0 : Int)), (vI (0 : Int)), AV.sl [], (vB false)], AV.sl [], (vI (F.persF z.snd.fst z.snd.snd))], []) else none
  else some (AV.tup [AV.agg [(vI (0 : Int)), (vI (0 : Int)), (vI (0 : Int)), AV.sl [], (vB false)], AV.sl [], (vI (1 : Int))], []) else none := (runFR_val).symm.trans (by kernel_rfl)

def encKey1 (l : Lst) (sg : List Seg) (by_ : Int) (r : Rot) : List AV := [.agg (eLst l), .sl (sg.map eSeg), vI by_, .agg (eRot r)]

def encKey (a : Lst × (List Seg) × Int × Rot) : List AV := encKey1 a.1 a.2.1 a.2.2.1 a.2.2.2

theorem encKey_inj (a a' : Lst × (List Seg) × Int × Rot) (h : encKey a = encKey a') : a = a' := by
  simp only [encKey, encKey1] at h
  try simp [strs_inj, ints_inj, bools_inj, u8s_inj, eEnts_inj, eEnt_iff, eLsts_inj, eLst_iff, eSegs_inj, eSeg_iff, eRots_inj, eRot_iff, eBeats_inj, eBeat_iff, eSpans_inj, eSpan_iff, eHoles_inj, eHole_iff] at h
  grind

theorem unKey (l : Lst) (sg : List Seg) (by_ : Int) (r : Rot) : unenc encKey ([AV.agg [(vI l.target), (vI l.first), (vI l.breaks), AV.sl (List.map eEnt l.entries), (vB l.ended)], AV.sl (List.map eSeg sg), (vI by_), AV.agg [(vI r.begin), (vI
  r.every), (vI r.lead), AV.sl (List.map eU8 r.seed)]]) = some (l, sg, by_, r) := unenc_of encKey_inj (l, sg, by_, r) rfl

theorem unKeyw (l_target : Int) (l_first : Int) (l_breaks : Int) (l_entries : List Ent) (l_ended : Bool) (sg : List Seg) (by_ : Int) (r_begin : Int) (r_every : Int) (r_lead : Int) (r_seed : List Int) : unenc encKey ([AV.agg [(vI l_target), (vI l_first), (vI l_breaks), AV.sl (List.map eEnt l_entries), (vB l_ended)], AV.sl (List.map eSeg sg), (vI by_), AV.agg [(vI r_begin), (vI
  r_every), (vI r_lead), AV.sl (List.map eU8 r_seed)]]) = some ((Lst.mk l_target l_first l_breaks l_entries l_ended), sg, by_, (Rot.mk r_begin r_every r_lead r_seed)) := unenc_of encKey_inj ((Lst.mk l_target l_first l_breaks l_entries l_ended), sg, by_, (Rot.mk r_begin r_every r_lead r_seed)) rfl

def resKey1 (l : Lst) (sg : List Seg) (by_ : Int) (r : Rot) : AV × Heap := (.tup [.agg (eLst (F.keyed l sg by_ r).1), .sl ((F.keyed l sg by_ r).2.1.map eI), vI (F.keyed l sg by_ r).2.2], [])

def preKey1 (l : Lst) (sg : List Seg) (by_ : Int) (r : Rot) : Bool := true

noncomputable def oKey : Orc := orc 4 false encKey (fun a => preKey1 a.1 a.2.1 a.2.2.1 a.2.2.2) fun a => resKey1 a.1 a.2.1 a.2.2.1 a.2.2.2

theorem okKey : OrcOK Tryz.prog noG oKey := by
  refine mk_ok Tryz.f4 (keep := false) (by kernel_rfl) (by kernel_rfl) enKey_ok mixed (two_loops (x0 := loopN Tryz.f4 0) (x1 := loopN Tryz.f4 1) (by kernel_rfl) (lpo_ok ?_) (lpo_ok ?_)) (by first | exact fun _ _ => ⟨rfl, rfl⟩ | (intro h; cases h)) ?_
  · rintro ⟨l, sg, by_, r, out, k⟩ hp
    exact lpKy_ok l sg by_ r out k hp
  · rintro ⟨l, r, bs⟩ hp
    exact lpKz_ok l r bs hp
  rintro ⟨l, sg, by_, r⟩ hpre hok
  show (runF enKey false _ (encKey1 _ _ _ _)).val = some (resKey1 _ _ _ _)
  unfold encKey1 resKey1
  rw [evKey]
  simp only [unChk, unNoS, unBnd, unCkR, unPer, unCln, unIta, unSo, unCpt, unChkw, unBndw, unCkRw, unPerw, preChk1, preNoS1, preBnd1, preCkR1, prePer1, preCln1, preIta1, preSo1, preCpt1, unstKy, unstKz, unstKy0, prlKy, prlKz, outKy, outKz, etaEnt, etaLst, etaSeg, etaRot, etaBeat, etaSpan, etaHole, Option.bind_some, List.length_map, unStrs, unInts, unBools, unU8s, unEnts, unLsts, unSegs, unRots, unBeats, unSpans, unHoles, F.lt, F.le, cond_true, cond_false, Bool.and_true, Bool.true_and, List.drop_zero, List.nil_append, Nat.zero_le, decide_true, List.length_nil, takeP, F.keyed, F.kAns, len_eq]
  by_cases h0 : F.check l = 0
  · rw [bne0 h0]
    obtain ⟨a1, a2⟩ := F.check_few h0
    have hn : ((sg.length : Int) != (l.entries.length : Int)) = !decide (sg.length = l.entries.length) := by rw [bne, len_eq]
    rw [hn]
    by_cases hl : sg.length = l.entries.length
    · rw [decide_eq_true hl]
      have d1 : decide (sg.length ≤ 1000) = true := decide_eq_true (by omega)
      have d2 : decide (l.entries.length ≤ 1000) = true := decide_eq_true a1
      have d3 : decide ((F.bnds by_ sg).length = l.entries.length) = true := decide_eq_true (by rw [F.bnds_len]; exact hl)
      have d4 : decide ((F.pers r (F.bnds by_ sg)).length ≤ 100000) = true := decide_eq_true (by unfold F.pers; rw [List.length_map, F.bnds_len]; omega)
      have d5 : decide ((F.srtI (F.pers r (F.bnds by_ sg))).length ≤ 100000) = true := by rw [F.srtI_len]; exact d4
      generalize F.bnds by_ sg = bs at *
      simp only [d1, d2, d3, d4, d5, a2, Bool.and_self, cond_true, cond_false, Bool.not_true, Bool.true_and]
      cases hs : F.noScale by_
      · cases hb : F.bndsOk sg
        · rfl
        · cases hr : F.chkR r != 0
          · by_cases hf : F.persF r bs = 0
            · rw [bne0 hf, decide_eq_true hf]
              simp only [Bool.not_false, Bool.not_true, cond_true, cond_false]
              unfold F.kLst
              cases he : F.kEs r l.entries bs with
              | nil =>
                have hu : unenc encChk [.agg [vI l.target, vI l.first, vI l.breaks, .sl [], vB l.ended]] = some ⟨l.target, l.first, l.breaks, [], l.ended⟩ := unenc_of encChk_inj (⟨l.target, l.first, l.breaks, [], l.ended⟩ : Lst) rfl
                rw [hu]
                simp only [F.noE, List.isEmpty_nil, cond_true, Option.bind_some]
                cases F.check ⟨l.target, l.first, l.breaks, [], l.ended⟩ != 0 <;> rfl
              | cons e0 er =>
                simp only [F.noE, List.isEmpty_cons, cond_false]
                cases F.check ⟨l.target, l.first, l.breaks, e0 :: er, l.ended⟩ != 0 <;> rfl
            · rw [bne1 hf, decide_eq_false hf]
              rfl
          · rfl
      · rfl
    · rw [decide_eq_false hl]
      rfl
  · rw [bne1 h0]; rfl

end M
end Go.Proofs.YtlemjphdhapfpaaGreatDoor
