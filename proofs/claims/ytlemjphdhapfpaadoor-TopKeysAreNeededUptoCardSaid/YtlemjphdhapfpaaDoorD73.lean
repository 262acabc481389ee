/- What is proved here: the law DeskKeysAreNeeded. -/
import Derived.Test.YtlemjphdhapfpaaDoorD72
namespace Go.Proofs.YtlemjphdhapfpaaDoor
open Go Go.RowKit
set_option linter.unusedVariables false
set_option linter.unusedSimpArgs false

theorem F.kEs_eqv (r : Rot) : ∀ (es : List Ent) (bs : List Int), es.length = bs.length → F.eqvE es (F.kEs r es bs) = true := by
  intro es bs h
  unfold F.eqvE
  rw [F.kEs_len r es bs h, decide_eq_true rfl, Bool.true_and]
  induction es generalizing bs with
  | nil => cases bs <;> rfl
  | cons e es ih =>
    cases bs with
    | nil => simp at h
    | cons b bs =>
      have := ih bs (by simpa using h)
      simp only [F.kEs, List.zip_cons_cons, List.all_cons, this, Bool.and_true]
      have h1 := F.kName_k (F.perAt r b).1
      have h2 := F.sameE_refl e
      unfold F.kEnt
      simp only [h1, Bool.true_and]
      exact h2

/-- What the law asks of an answer. -/
theorem F.keyed_law (l : Lst) (sg : List Seg) (by_ : Int) (r : Rot) :
    ((F.keyed l sg by_ r).2.2 ≠ 0 → (F.keyed l sg by_ r).1.entries = [] ∧ (F.keyed l sg by_ r).2.1 = []) ∧
    ((F.keyed l sg by_ r).2.2 = 0 → (F.keyed l sg by_ r).1.entries.length ≤ 1000 ∧ F.eqvE l.entries (F.keyed l sg by_ r).1.entries = true ∧ (F.keyed l sg by_ r).2.1.length ≤ 1000 ∧ F.incr (F.keyed l sg by_ r).2.1 = true ∧
      (F.seenF [] (F.keyed l sg by_ r).1.entries).length = (F.keyed l sg by_ r).2.1.length ∧ (F.keyed l sg by_ r).1.entries.length = l.entries.length) := by
  unfold F.keyed
  by_cases h0 : F.check l = 0
  · rw [M.bne0 h0]
    simp only [cond_false]
    obtain ⟨a1, a2⟩ := F.check_few h0
    by_cases hl : sg.length = l.entries.length
    · rw [decide_eq_true hl]
      simp only [Bool.not_true, cond_false]
      have hb : l.entries.length = (F.bnds by_ sg).length := by rw [F.bnds_len]; omega
      generalize F.bnds by_ sg = bs at *
      cases F.noScale by_
      · cases F.bndsOk sg
        · exact ⟨fun _ => ⟨rfl, rfl⟩, fun h => by cases h⟩
        · simp only [Bool.not_true, cond_false]
          by_cases hr : F.chkR r = 0
          · rw [M.bne0 hr]
            simp only [cond_false]
            unfold F.kAns
            by_cases hf : F.persF r bs = 0
            · rw [M.bne0 hf]
              simp only [cond_false]
              by_cases hc : F.check (F.kLst l r bs) = 0
              · rw [M.bne0 hc]
                simp only [cond_false]
                refine ⟨fun h => absurd rfl h, fun _ => ?_⟩
                have hk := F.kEs_len r l.entries bs hb
                have hs := F.cmpI_len (F.srtI (F.pers r bs))
                have hp : (F.pers r bs).length = bs.length := by simp [F.pers]
                rw [F.srtI_len, hp] at hs
                refine ⟨?_, F.kEs_eqv r _ _ hb, by omega, F.incr_pw (F.cmpI_lt (F.srtI_pw _)), F.seen_len r _ _ hb, hk⟩
                show (F.kEs r l.entries bs).length ≤ 1000
                omega
              · rw [M.bne1 hc]
                exact ⟨fun _ => ⟨rfl, rfl⟩, fun h => absurd h hc⟩
            · rw [M.bne1 hf]
              exact ⟨fun _ => ⟨rfl, rfl⟩, fun h => absurd h hf⟩
          · rw [M.bne1 hr]
            exact ⟨fun _ => ⟨rfl, rfl⟩, fun h => absurd h hr⟩
      · exact ⟨fun _ => ⟨rfl, rfl⟩, fun h => by cases h⟩
    · rw [decide_eq_false hl]
      exact ⟨fun _ => ⟨rfl, rfl⟩, fun h => by cases h⟩
  · rw [M.bne1 h0]
    exact ⟨fun _ => ⟨rfl, rfl⟩, fun h => absurd h h0⟩

namespace M

theorem evLDK (l : Lst) (sg : List Seg) (by_ : Int) (r : Rot) : (runF enLaw false Tryd.f4 [.agg (eLst l), .sl (sg.map eSeg), vI by_, .agg (eRot r)]).val =
  Option.bind (unenc encKey [AV.agg [(vI l.target), (vI l.first), (vI l.breaks), AV.sl (List.map eEnt l.entries), (vB l.ended)], AV.sl (List.map eSeg sg), (vI by_), AV.agg
  [(vI r.begin), (vI r.every), (vI r.lead), AV.sl (List.map eU8 r.seed)]]) fun (z : Lst × List Seg × Int × Rot) => bif (F.keyed z.fst z.snd.fst z.snd.snd.fst
  z.snd.snd.snd).snd.snd != (0 : Int) then bif bif (↑(List.length (List.map eEnt (F.keyed z.fst z.snd.fst z.snd.snd.fst z.snd.snd.snd).fst.entries)) : Int) == (0 : Int) then
  (↑(List.length (List.map eI (F.keyed z.fst z.snd.fst z.snd.snd.fst z.snd.snd.snd).snd.fst)) : Int) == (0 : Int) else false then Option.bind (unenc encWrk []) fun (z :
  Unit) => some ((vB true), []) else some ((vB false), []) else Option.bind (unenc stLw1 (St.mk [(13, (vI (0 : Int))), (12, .own 12), (10, AV.sl (List.map eI (F.keyed z.fst
  z.snd.fst z.snd.snd.fst z.snd.snd.snd).snd.fst)), (9, .ptr 9 0 0), (4, .ptr 4 0 0)] [(12, Blk.mk false 9 1 []), (9, Blk.mk true 0 0 [[(vI (F.keyed z.fst z.snd.fst
  z.snd.snd.fst z.snd.snd.snd).fst.target), (vI (F.keyed z.fst z.snd.fst z.snd.snd.fst z.snd.snd.snd).fst.first), (vI (F.keyed z.fst z.snd.fst z.snd.snd.fst
  z.snd.snd.snd).fst.breaks), AV.sl (List.map eEnt (F.keyed z.fst z.snd.fst z.snd.snd.fst z.snd.snd.snd).fst.entries), (vB (F.keyed z.fst z.snd.fst z.snd.snd.fst
  z.snd.snd.snd).fst.ended)]]), (4, Blk.mk true 0 0 [[(vI l.target), (vI l.first), (vI l.breaks), AV.sl (List.map eEnt l.entries), (vB l.ended)]])])) fun (z : Lst × Lst ×
  List Int × List ByteArray × Nat) => bif decide (List.length z.snd.fst.entries ≤ (1000 : Nat)) && decide (z.snd.snd.snd.snd ≤ List.length z.snd.fst.entries) && decide
  (List.length z.snd.snd.snd.fst ≤ z.snd.snd.snd.snd) && F.eqvE z.fst.entries z.snd.fst.entries && true then Option.bind (unenc stLi1 (St.mk [(15, (vI (1 : Int))), (12, .own
  12), (10, AV.sl (List.map eI z.snd.snd.fst)), (9, .ptr 9 0 0), (4, .ptr 4 0 0)] [(12, Blk.mk false 9 1 (List.map eStr (F.seenF z.snd.snd.snd.fst (List.drop
  z.snd.snd.snd.snd z.snd.fst.entries)))), (9, Blk.mk true 0 0 [[(vI z.snd.fst.target), (vI z.snd.fst.first), (vI z.snd.fst.breaks), AV.sl (List.map eEnt z.snd.fst.entries),
  (vB z.snd.fst.ended)]]), (4, Blk.mk true 0 0 [[(vI z.fst.target), (vI z.fst.first), (vI z.fst.breaks), AV.sl (List.map eEnt z.fst.entries), (vB z.fst.ended)]])])) fun (z :
  Lst × Lst × List Int × List ByteArray × Nat) => bif decide (List.length z.snd.snd.fst ≤ (1000 : Nat)) && decide ((1 : Nat) ≤ z.snd.snd.snd.snd) && F.incr z.snd.snd.fst &&
  true then bif bif (↑(List.length (List.map eStr z.snd.snd.snd.fst)) : Int) == (↑(List.length (List.map eI z.snd.snd.fst)) : Int) then (↑(List.length (List.map eEnt
  z.snd.fst.entries)) : Int) == (↑(List.length (List.map eEnt z.fst.entries)) : Int) else false then Option.bind (unenc encWrk []) fun (z : Unit) => some ((vB true), [])
  else some ((vB false), []) else none else none := (runFR_val).symm.trans (by kernel_rfl)

def encLDK1 (l : Lst) (sg : List Seg) (by_ : Int) (r : Rot) : List AV := [.agg (eLst l), .sl (sg.map eSeg), vI by_, .agg (eRot r)]

def encLDK (a : Lst × (List Seg) × Int × Rot) : List AV := encLDK1 a.1 a.2.1 a.2.2.1 a.2.2.2

theorem encLDK_inj (a a' : Lst × (List Seg) × Int × Rot) (h : encLDK a = encLDK a') : a = a' := by
  simp only [encLDK, encLDK1] at h
  try simp [strs_inj, ints_inj, bools_inj, u8s_inj, eEnts_inj, eEnt_iff, eLsts_inj, eLst_iff, eSegs_inj, eSeg_iff, eRots_inj, eRot_iff, eBeats_inj, eBeat_iff, eSpans_inj, eSpan_iff, eHoles_inj, eHole_iff] at h
  grind

theorem unLDK (l : Lst) (sg : List Seg) (by_ : Int) (r : Rot) : unenc encLDK ([AV.agg [(vI l.target), (vI l.first), (vI l.breaks), AV.sl (List.map eEnt l.entries), (vB l.ended)], AV.sl (List.map eSeg sg), (vI by_), AV.agg [(vI r.begin), (vI
  r.every), (vI r.lead), AV.sl (List.map eU8 r.seed)]]) = some (l, sg, by_, r) := unenc_of encLDK_inj (l, sg, by_, r) rfl

theorem unLDKw (l_target : Int) (l_first : Int) (l_breaks : Int) (l_entries : List Ent) (l_ended : Bool) (sg : List Seg) (by_ : Int) (r_begin : Int) (r_every : Int) (r_lead : Int) (r_seed : List Int) : unenc encLDK ([AV.agg [(vI l_target), (vI l_first), (vI l_breaks), AV.sl (List.map eEnt l_entries), (vB l_ended)], AV.sl (List.map eSeg sg), (vI by_), AV.agg [(vI r_begin), (vI
  r_every), (vI r_lead), AV.sl (List.map eU8 r_seed)]]) = some ((Lst.mk l_target l_first l_breaks l_entries l_ended), sg, by_, (Rot.mk r_begin r_every r_lead r_seed)) := unenc_of encLDK_inj ((Lst.mk l_target l_first l_breaks l_entries l_ended), sg, by_, (Rot.mk r_begin r_every r_lead r_seed)) rfl

def resLDK1 (l : Lst) (sg : List Seg) (by_ : Int) (r : Rot) : AV × Heap := (vB true, [])

def preLDK1 (l : Lst) (sg : List Seg) (by_ : Int) (r : Rot) : Bool := true

noncomputable def oLDK : Orc := orc 4 false encLDK (fun a => preLDK1 a.1 a.2.1 a.2.2.1 a.2.2.2) fun a => resLDK1 a.1 a.2.1 a.2.2.1 a.2.2.2

theorem okLDK : OrcOK Tryd.prog noG oLDK := by
  refine mk_ok Tryd.f4 (keep := false) (by kernel_rfl) (by kernel_rfl) enLaw_ok mixed (two_loops (x0 := loopN Tryd.f4 0) (x1 := loopN Tryd.f4 1) (by kernel_rfl) (lpo_ok ?_) (lpo_ok ?_)) (by first | exact fun _ _ => ⟨rfl, rfl⟩ | (intro h; cases h)) ?_
  · rintro ⟨l, L2, ps, seen, k⟩ hp
    exact lpLw_ok l L2 ps seen k hp
  · rintro ⟨l, L2, ps, seen, k⟩ hp
    exact lpLi_ok l L2 ps seen k hp
  rintro ⟨l, sg, by_, r⟩ hpre hok
  show (runF enLaw false _ (encLDK1 _ _ _ _)).val = some (resLDK1 _ _ _ _)
  unfold encLDK1 resLDK1
  rw [evLDK]
  obtain ⟨g1, g2⟩ := F.keyed_law l sg by_ r
  simp only [unKey, unWrk, unHasPre, unHss, unSmE, unKeyw, unSmEw, preKey1, preWrk1, preHasPre1, preHss1, preSmE1, unstLw, unstLi, unstLw0, unstLi0, prlLw, prlLi, outLw, outLi, etaEnt, etaLst, etaSeg, etaRot, etaBeat, etaSpan, etaHole, Option.bind_some, List.length_map, unStrs, unInts, unBools, unU8s, unEnts, unLsts, unSegs, unRots, unBeats, unSpans, unHoles, F.lt, F.le, cond_true, cond_false, Bool.and_true, Bool.true_and, List.drop_zero, List.nil_append, Nat.zero_le, decide_true, List.length_nil, len_eq]
  generalize F.keyed l sg by_ r = a at *
  by_cases h0 : a.2.2 = 0
  · rw [bne0 h0]
    obtain ⟨q1, q2, q3, q4, q5, q6⟩ := g2 h0
    simp only [cond_false, decide_eq_true q1, q2, decide_eq_true q3, q4, decide_eq_true q5, decide_eq_true q6, Bool.and_self, cond_true, Nat.le_refl, decide_true]
  · rw [bne1 h0]
    obtain ⟨q1, q2⟩ := g1 h0
    simp [q1, q2]

end M
end Go.Proofs.YtlemjphdhapfpaaDoor
