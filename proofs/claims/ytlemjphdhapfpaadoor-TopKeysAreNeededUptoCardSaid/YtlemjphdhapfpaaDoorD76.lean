/- What is proved here: the law TopKeysAreNeeded. -/
import Derived.Test.YtlemjphdhapfpaaDoorD75
namespace Go.Proofs.YtlemjphdhapfpaaDoor
open Go Go.RowKit
set_option linter.unusedVariables false
set_option linter.unusedSimpArgs false

theorem F.keyed_ok {l : Lst} {sg : List Seg} {by_ : Int} {r : Rot} (h : (F.keyed l sg by_ r).2.2 = 0) :
    sg.length ≤ 1000 ∧ F.noScale by_ = false ∧ F.bndsOk sg = true ∧ F.chkR r = 0 ∧ F.persF r (F.bnds by_ sg) = 0 ∧ (F.keyed l sg by_ r).2.1 = F.cmpI (F.srtI (F.pers r (F.bnds by_ sg))) := by
  unfold F.keyed at h ⊢
  by_cases h0 : F.check l = 0
  · rw [M.bne0 h0] at h ⊢
    simp only [cond_false] at h ⊢
    obtain ⟨a1, a2⟩ := F.check_few h0
    by_cases hl : sg.length = l.entries.length
    · rw [decide_eq_true hl] at h ⊢
      simp only [Bool.not_true, cond_false] at h ⊢
      cases hs : F.noScale by_
      · rw [hs] at h
        cases hb : F.bndsOk sg
        · rw [hb] at h; cases h
        · rw [hb] at h
          simp only [Bool.not_true, cond_false] at h ⊢
          by_cases hr : F.chkR r = 0
          · rw [M.bne0 hr] at h ⊢
            simp only [cond_false] at h ⊢
            unfold F.kAns at h ⊢
            by_cases hf : F.persF r (F.bnds by_ sg) = 0
            · rw [M.bne0 hf] at h ⊢
              simp only [cond_false] at h ⊢
              by_cases hc : F.check (F.kLst l r (F.bnds by_ sg)) = 0
              · rw [M.bne0 hc]
                exact ⟨by omega, by trivial, by trivial, hr, hf, rfl⟩
              · rw [M.bne1 hc] at h
                exact absurd h hc
            · rw [M.bne1 hf] at h
              exact absurd h hf
          · rw [M.bne1 hr] at h
            exact absurd h hr
      · rw [hs] at h; cases h
    · rw [decide_eq_false hl] at h; cases h
  · rw [M.bne1 h0] at h
    exact absurd h h0

theorem F.perAt_ok {r : Rot} {t : Int} (hr : F.chkR r = 0) (h : (F.perAt r t).2 = 0) : (0 ≤ t ∧ t ≤ 1000000000000000) ∧ r.begin ≤ t ∧ (F.perAt r t).1 = (t - r.begin) / r.every := by
  unfold F.perAt at h ⊢
  rw [M.bne0 hr] at h ⊢
  simp only [cond_false] at h ⊢
  cases ho : F.out t 0 1000000000000000
  · rw [ho] at h
    simp only [cond_false] at h ⊢
    have ho2 := ho
    simp only [F.out, Bool.or_eq_false_iff, decide_eq_false_iff_not] at ho2
    cases hl : F.lt t r.begin
    · have hl2 : ¬ t < r.begin := of_decide_eq_false hl
      exact ⟨by omega, by omega, rfl⟩
    · rw [hl] at h; cases h
  · rw [ho] at h; cases h

theorem F.minF_le : ∀ (l : List Int) (a : Int), F.minF a l ≤ a ∧ ∀ y ∈ l, F.minF a l ≤ y
  | [], a => ⟨Int.le_refl _, fun y hy => by cases hy⟩
  | x :: l, a => by
    obtain ⟨h1, h2⟩ := F.minF_le l (min a x)
    have e : F.minF a (x :: l) = F.minF (min a x) l := rfl
    rw [e]
    refine ⟨by omega, fun y hy => ?_⟩
    rcases List.mem_cons.1 hy with rfl | hy
    · omega
    · exact h2 y hy

theorem F.maxF_le : ∀ (l : List Int) (a : Int), a ≤ F.maxF a l ∧ (∀ y ∈ l, y ≤ F.maxF a l) ∧ (F.maxF a l = a ∨ F.maxF a l ∈ l)
  | [], a => ⟨Int.le_refl _, fun y hy => by (cases hy), .inl rfl⟩
  | x :: l, a => by
    obtain ⟨h1, h2, h3⟩ := F.maxF_le l (max a x)
    have e : F.maxF a (x :: l) = F.maxF (max a x) l := rfl
    rw [e]
    refine ⟨by omega, fun y hy => ?_, ?_⟩
    · rcases List.mem_cons.1 hy with rfl | hy
      · omega
      · exact h2 y hy
    · rcases h3 with h3 | h3
      · rcases Int.le_total a x with h | h
        · exact .inr (List.mem_cons.2 (.inl (by rw [h3]; omega)))
        · exact .inl (by rw [h3]; omega)
      · exact .inr (List.mem_cons_of_mem _ h3)

theorem F.minL_le {l : List Int} {y : Int} (h : y ∈ l) : F.minL l ≤ y := by
  cases l with
  | nil => cases h
  | cons x l =>
    obtain ⟨h1, h2⟩ := F.minF_le l x
    rcases List.mem_cons.1 h with rfl | h
    · exact h1
    · exact h2 y h

theorem F.maxL_le {l : List Int} {y : Int} (h : y ∈ l) : y ≤ F.maxL l ∧ F.maxL l ∈ l := by
  cases l with
  | nil => cases h
  | cons x l =>
    obtain ⟨h1, h2, h3⟩ := F.maxF_le l x
    refine ⟨?_, ?_⟩
    · rcases List.mem_cons.1 h with rfl | h
      · exact h1
      · exact h2 y h
    · rcases h3 with h3 | h3
      · exact List.mem_cons.2 (.inl h3)
      · exact List.mem_cons_of_mem _ h3

/-- What the law asks. -/
theorem F.top_law {l : Lst} {sg : List Seg} {by_ : Int} {r : Rot} (h : (F.keyed l sg by_ r).2.2 = 0) (hne : sg.length ≠ 0) :
    F.cvsOk by_ sg = true ∧ (0 ≤ F.maxL (F.bnds by_ sg) ∧ F.maxL (F.bnds by_ sg) ≤ 1000000000000000) ∧
    ((F.needed r ⟨F.minL (F.bnds by_ sg), F.maxL (F.bnds by_ sg) + 1⟩).2 = 0 → F.inAll (F.needed r ⟨F.minL (F.bnds by_ sg), F.maxL (F.bnds by_ sg) + 1⟩).1 (F.keyed l sg by_ r).2.1 = true) ∧
    ((F.needed r ⟨F.minL (F.bnds by_ sg), F.maxL (F.bnds by_ sg) + 1⟩).2 ≠ 0 → (F.needed r ⟨F.minL (F.bnds by_ sg), F.maxL (F.bnds by_ sg) + 1⟩).2 = 2 ∨ (F.needed r ⟨F.minL (F.bnds by_ sg), F.maxL (F.bnds by_ sg) + 1⟩).2 = 1) ∧
    0 < (F.keyed l sg by_ r).2.1.length := by
  obtain ⟨a1, a2, a3, a4, a5, a6⟩ := F.keyed_ok h
  obtain ⟨⟨b1, b2⟩, ⟨b3, b4⟩, b5, b6⟩ := F.chkR_ok a4
  have hP : ∀ b ∈ F.bnds by_ sg, (0 ≤ b ∧ b ≤ 1000000000000000) ∧ r.begin ≤ b ∧ (F.perAt r b).1 = (b - r.begin) / r.every := fun b hb => F.perAt_ok a4 (F.ffI_zero a5 b hb)
  have hlen := F.bnds_len by_ sg
  obtain ⟨x, hx⟩ : ∃ x, x ∈ F.bnds by_ sg := List.exists_mem_of_length_pos (by omega)
  have hM := hP _ (F.maxL_le hx).2
  have hmem : ∀ p ∈ (F.keyed l sg by_ r).2.1, ∃ b ∈ F.bnds by_ sg, p = (b - r.begin) / r.every := fun p hp => by
    rw [a6] at hp
    have := (List.mergeSort_perm ..).subset (F.cmpI_mem.1 hp)
    obtain ⟨b, hb, rfl⟩ := List.mem_map.1 this
    exact ⟨b, hb, (hP b hb).2.2⟩
  have hcv : F.cvsOk by_ sg = true := List.all_eq_true.2 fun s hs => by
    have c1 : F.bndOk s = true := List.all_eq_true.1 a3 s hs
    have c2 := (hP (F.bnd s by_) (List.mem_map.2 ⟨s, hs, rfl⟩)).1
    have c3 := c1
    simp only [F.bndOk, F.isSum, Bool.and_eq_true, decide_eq_true_eq] at c3
    have n1 : F.noTime (s.begin + s.lead) = false := by simp only [F.noTime, F.out, Bool.or_eq_false_iff, decide_eq_false_iff_not]; omega
    have n2 : F.noTime (F.bnd s by_) = false := by simp only [F.noTime, F.out, Bool.or_eq_false_iff, decide_eq_false_iff_not]; omega
    have n3 : F.noScale 1000 = false := rfl
    have n4 : F.out 1 1 3 = false := rfl
    have e : F.conv (s.begin + s.lead) by_ 1000 1 = (F.bnd s by_, 0) := by
      unfold F.conv
      rw [n1, a2, n3, n4]
      have n2 : F.noTime (F.scl (s.begin + s.lead) 1000 by_ 1) = false := n2
      rw [n2]
      rfl
    unfold F.cvOk
    rw [c1, e, decide_eq_true rfl, decide_eq_true rfl]
    rfl
  refine ⟨hcv, hM.1, ?_, ?_, ?_⟩
  · intro hz
    refine List.all_eq_true.2 fun p hp => ?_
    obtain ⟨b, hb, rfl⟩ := hmem p hp
    have q1 := F.minL_le hb
    have q2 := (F.maxL_le hb).1
    have q3 := (hP b hb).2.1
    unfold F.needed at hz ⊢
    rw [M.bne0 a4] at hz ⊢
    simp only [cond_false] at hz ⊢
    cases ho : F.out (F.minL (F.bnds by_ sg)) 0 1000000000000000 || F.out (F.maxL (F.bnds by_ sg) + 1) 0 1000000000000000
    · rw [ho] at hz
      have h3 : F.le (F.maxL (F.bnds by_ sg) + 1) (F.minL (F.bnds by_ sg)) = false := decide_eq_false (by omega)
      have h4 : F.le (F.maxL (F.bnds by_ sg) + 1 + r.lead) r.begin = false := decide_eq_false (by omega)
      rw [h3, h4] at hz ⊢
      simp only [cond_false] at hz ⊢
      cases hq : F.le 1000 (F.ndB r ⟨F.minL (F.bnds by_ sg), F.maxL (F.bnds by_ sg) + 1⟩ - F.ndA r ⟨F.minL (F.bnds by_ sg), F.maxL (F.bnds by_ sg) + 1⟩) || F.lt 1000000000 (F.ndB r ⟨F.minL (F.bnds by_ sg), F.maxL (F.bnds by_ sg) + 1⟩)
      · simp only [cond_false]
        refine List.any_eq_true.2 ⟨(b - r.begin) / r.every, F.rng_mem ?_ ?_, by simp⟩
        · show max 0 (F.minL (F.bnds by_ sg) - r.begin) / r.every ≤ _
          exact Int.ediv_le_ediv (by omega) (by omega)
        · show _ ≤ (F.maxL (F.bnds by_ sg) + 1 + r.lead - 1 - r.begin) / r.every
          exact Int.ediv_le_ediv (by omega) (by omega)
      · rw [hq] at hz; cases hz
    · rw [ho] at hz; cases hz
  · intro hz
    unfold F.needed at hz ⊢
    rw [M.bne0 a4] at hz ⊢
    simp only [cond_false] at hz ⊢
    have q1 := F.minL_le hx
    have q2 := (F.maxL_le hx).1
    have q3 := (hP x hx).2.1
    have h3 : F.le (F.maxL (F.bnds by_ sg) + 1) (F.minL (F.bnds by_ sg)) = false := decide_eq_false (by omega)
    have h4 : F.le (F.maxL (F.bnds by_ sg) + 1 + r.lead) r.begin = false := decide_eq_false (by omega)
    rw [h3, h4] at hz ⊢
    simp only [cond_false] at hz ⊢
    cases ho : F.out (F.minL (F.bnds by_ sg)) 0 1000000000000000 || F.out (F.maxL (F.bnds by_ sg) + 1) 0 1000000000000000
    · rw [ho] at hz
      simp only [cond_false] at hz ⊢
      cases hq : F.le 1000 (F.ndB r ⟨F.minL (F.bnds by_ sg), F.maxL (F.bnds by_ sg) + 1⟩ - F.ndA r ⟨F.minL (F.bnds by_ sg), F.maxL (F.bnds by_ sg) + 1⟩) || F.lt 1000000000 (F.ndB r ⟨F.minL (F.bnds by_ sg), F.maxL (F.bnds by_ sg) + 1⟩)
      · rw [hq] at hz; exact absurd rfl hz
      · exact .inl rfl
    · exact .inr rfl
  · rw [a6]
    refine List.length_pos_of_mem (a := (F.perAt r x).1) (F.cmpI_mem.2 ((List.mergeSort_perm ..).mem_iff.2 (List.mem_map.2 ⟨x, hx, rfl⟩)))

namespace M

theorem evLTK (l : Lst) (sg : List Seg) (by_ : Int) (r : Rot) : (runF enTop false Tryd.f3 [.agg (eLst l), .sl (sg.map eSeg), vI by_, .agg (eRot r)]).val =
  Option.bind (unenc encKey [AV.agg [(vI l.target), (vI l.first), (vI l.breaks), AV.sl (List.map eEnt l.entries), (vB l.ended)], AV.sl (List.map eSeg sg), (vI by_), AV.agg
  [(vI r.begin), (vI r.every), (vI r.lead), AV.sl (List.map eU8 r.seed)]]) fun (z : Lst × List Seg × Int × Rot) => bif bif (F.keyed z.fst z.snd.fst z.snd.snd.fst
  z.snd.snd.snd).snd.snd != (0 : Int) then true else (↑(List.length (List.map eSeg sg)) : Int) == (0 : Int) then bif (↑(List.length (List.map eI (F.keyed z.fst z.snd.fst
  z.snd.snd.fst z.snd.snd.snd).snd.fst)) : Int) == (0 : Int) then Option.bind (unenc encAlv []) fun (z : Unit) => some ((vB true), []) else some ((vB false), []) else
  Option.bind (unenc stTa1 (St.mk [(44, (vI (0 : Int))), (43, (vI (↑(List.length (List.map eSeg sg)) : Int))), (42, AV.sl (List.map eSeg sg)), (12, .own 12), (10, AV.sl
  (List.map eI (F.keyed z.fst z.snd.fst z.snd.snd.fst z.snd.snd.snd).snd.fst)), (7, .ptr 7 0 0), (2, (vI by_))] [(12, Blk.mk false 3 1 []), (7, Blk.mk true 0 0 [[(vI
  r.begin), (vI r.every), (vI r.lead), AV.sl (List.map eU8 r.seed)]])])) fun (z : List Seg × Int × Rot × List Int × List Int × Nat) => bif decide (List.length z.fst ≤ (1000
  : Nat)) && decide (z.snd.snd.snd.snd.snd ≤ List.length z.fst) && decide (List.length z.snd.snd.snd.snd.fst = z.snd.snd.snd.snd.snd) && F.cvsOk z.snd.fst z.fst && true then
  Option.bind (unenc encMn [AV.sl (List.map eI (z.snd.snd.snd.snd.fst ++ F.bnds z.snd.fst (List.drop z.snd.snd.snd.snd.snd z.fst)))]) fun (z_1 : List Int) => bif decide
  (List.length z_1 ≤ (1000 : Nat)) && decide ((1 : Nat) ≤ List.length z_1) then Option.bind (unenc encMx [AV.sl (List.map eI (z.snd.snd.snd.snd.fst ++ F.bnds z.snd.fst
  (List.drop z.snd.snd.snd.snd.snd z.fst)))]) fun (z_2 : List Int) => bif decide (List.length z_2 ≤ (1000 : Nat)) && decide ((1 : Nat) ≤ List.length z_2) then Option.bind
  (unenc encNd [AV.agg [(vI z.snd.snd.fst.begin), (vI z.snd.snd.fst.every), (vI z.snd.snd.fst.lead), AV.sl (List.map eU8 z.snd.snd.fst.seed)], AV.agg [(vI (F.minL z_1)), (vI
  (IntKind.wrap IntKind.i64 (F.maxL z_2 + (1 : Int))))]]) fun (z_3 : Rot × Span) => bif (F.needed z_3.fst z_3.snd).snd != (0 : Int) then bif bif (F.needed z_3.fst
  z_3.snd).snd == (2 : Int) then true else (F.needed z_3.fst z_3.snd).snd == (1 : Int) then Option.bind (unenc encAlv []) fun (z : Unit) => some ((vB true), []) else some
  ((vB false), []) else Option.bind (unenc stTb1 (St.mk [(89, (vI (0 : Int))), (88, (vI (↑(List.length (List.map eI z.snd.snd.snd.fst)) : Int))), (87, AV.sl (List.map eI
  z.snd.snd.snd.fst)), (17, AV.sl (List.map eI (F.needed z_3.fst z_3.snd).fst)), (10, AV.sl (List.map eI z.snd.snd.snd.fst))] [])) fun (z : List Int × List Int × Nat) => bif
  decide (List.length z.fst ≤ (1000 : Nat)) && decide (z.snd.snd ≤ List.length z.fst) && F.inAll z.snd.fst z.fst && true then bif decide ((0 : Int) < (↑(List.length
  (List.map eI z.fst)) : Int)) then Option.bind (unenc encAlv []) fun (z : Unit) => some ((vB true), []) else some ((vB false), []) else none else none else none else none := (runFR_val).symm.trans (by kernel_rfl)

def encLTK1 (l : Lst) (sg : List Seg) (by_ : Int) (r : Rot) : List AV := [.agg (eLst l), .sl (sg.map eSeg), vI by_, .agg (eRot r)]

def encLTK (a : Lst × (List Seg) × Int × Rot) : List AV := encLTK1 a.1 a.2.1 a.2.2.1 a.2.2.2

theorem encLTK_inj (a a' : Lst × (List Seg) × Int × Rot) (h : encLTK a = encLTK a') : a = a' := by
  simp only [encLTK, encLTK1] at h
  try simp [strs_inj, ints_inj, bools_inj, u8s_inj, eEnts_inj, eEnt_iff, eLsts_inj, eLst_iff, eSegs_inj, eSeg_iff, eRots_inj, eRot_iff, eBeats_inj, eBeat_iff, eSpans_inj, eSpan_iff, eHoles_inj, eHole_iff] at h
  grind

theorem unLTK (l : Lst) (sg : List Seg) (by_ : Int) (r : Rot) : unenc encLTK ([AV.agg [(vI l.target), (vI l.first), (vI l.breaks), AV.sl (List.map eEnt l.entries), (vB l.ended)], AV.sl (List.map eSeg sg), (vI by_), AV.agg [(vI r.begin), (vI
  r.every), (vI r.lead), AV.sl (List.map eU8 r.seed)]]) = some (l, sg, by_, r) := unenc_of encLTK_inj (l, sg, by_, r) rfl

theorem unLTKw (l_target : Int) (l_first : Int) (l_breaks : Int) (l_entries : List Ent) (l_ended : Bool) (sg : List Seg) (by_ : Int) (r_begin : Int) (r_every : Int) (r_lead : Int) (r_seed : List Int) : unenc encLTK ([AV.agg [(vI l_target), (vI l_first), (vI l_breaks), AV.sl (List.map eEnt l_entries), (vB l_ended)], AV.sl (List.map eSeg sg), (vI by_), AV.agg [(vI r_begin), (vI
  r_every), (vI r_lead), AV.sl (List.map eU8 r_seed)]]) = some ((Lst.mk l_target l_first l_breaks l_entries l_ended), sg, by_, (Rot.mk r_begin r_every r_lead r_seed)) := unenc_of encLTK_inj ((Lst.mk l_target l_first l_breaks l_entries l_ended), sg, by_, (Rot.mk r_begin r_every r_lead r_seed)) rfl

def resLTK1 (l : Lst) (sg : List Seg) (by_ : Int) (r : Rot) : AV × Heap := (vB true, [])

def preLTK1 (l : Lst) (sg : List Seg) (by_ : Int) (r : Rot) : Bool := true

noncomputable def oLTK : Orc := orc 3 false encLTK (fun a => preLTK1 a.1 a.2.1 a.2.2.1 a.2.2.2) fun a => resLTK1 a.1 a.2.1 a.2.2.1 a.2.2.2

theorem okLTK : OrcOK Tryd.prog noG oLTK := by
  refine mk_ok Tryd.f3 (keep := false) (by kernel_rfl) (by kernel_rfl) enTop_ok mixed (two_loops (x0 := loopN Tryd.f3 0) (x1 := loopN Tryd.f3 1) (by kernel_rfl) (lpo_ok ?_) (lpo_ok ?_)) (by first | exact fun _ _ => ⟨rfl, rfl⟩ | (intro h; cases h)) ?_
  · rintro ⟨sg, by_, r, ps, out, k⟩ hp
    exact lpTa_ok sg by_ r ps out k hp
  · rintro ⟨ps, nd, k⟩ hp
    exact lpTb_ok ps nd k hp
  rintro ⟨l, sg, by_, r⟩ hpre hok
  show (runF enTop false _ (encLTK1 _ _ _ _)).val = some (resLTK1 _ _ _ _)
  unfold encLTK1 resLTK1
  rw [evLTK]
  obtain ⟨g1, g2⟩ := F.keyed_law l sg by_ r
  have g3 := @F.top_law l sg by_ r
  have g4 := @F.keyed_ok l sg by_ r
  simp only [unKey, unAlv, unCnv, unMn, unMx, unNd, unHas, unKeyw, unNdw, preKey1, preAlv1, preCnv1, preMn1, preMx1, preNd1, preHas1, unstTa, unstTb, unstTa0, unstTb0, prlTa, prlTb, outTa, outTb, etaEnt, etaLst, etaSeg, etaRot, etaBeat, etaSpan, etaHole, Option.bind_some, List.length_map, unStrs, unInts, unBools, unU8s, unEnts, unLsts, unSegs, unRots, unBeats, unSpans, unHoles, F.lt, F.le, cond_true, cond_false, Bool.and_true, Bool.true_and, List.drop_zero, List.nil_append, Nat.zero_le, decide_true, List.length_nil, len_eq]
  generalize F.keyed l sg by_ r = a at *
  by_cases h0 : a.2.2 = 0
  · rw [bne0 h0]
    obtain ⟨q1, q2, q3, q4, q5, q6⟩ := g2 h0
    obtain ⟨p1, p2, p3, p4, p5, p6⟩ := g4 h0
    by_cases hn : sg.length = 0
    · have : sg = [] := List.eq_nil_of_length_eq_zero hn
      subst this
      have e : a.2.1 = [] := by
        have h1 := F.cmpI_len (F.srtI (F.pers r (F.bnds by_ [])))
        rw [F.srtI_len] at h1
        refine List.eq_nil_of_length_eq_zero ?_
        rw [p6]
        simp only [F.pers, F.bnds, List.map_nil, List.length_nil] at h1 ⊢
        omega
      simp [e]
    · obtain ⟨r1, r2, r3, r4, r5⟩ := g3 h0 hn
      have hw : IntKind.i64.wrap (F.maxL (F.bnds by_ sg) + 1) = F.maxL (F.bnds by_ sg) + 1 := wrap_id (by omega) (by omega)
      have hz : ((sg.length : Int) == 0) = false := by rw [beq_eq_false_iff_ne]; omega
      have hl := F.bnds_len by_ sg
      have d1 : decide ((F.bnds by_ sg).length ≤ 1000) = true := decide_eq_true (by omega)
      have d2 : decide (1 ≤ (F.bnds by_ sg).length) = true := decide_eq_true (by omega)
      have d3 : decide ((0 : Int) < (a.2.1.length : Int)) = true := decide_eq_true (by omega)
      rw [hw, hz]
      simp only [decide_eq_true p1, r1, d1, d2, d3, decide_eq_true q3, Bool.and_self, Bool.true_and, cond_true, cond_false]
      generalize F.needed r ⟨F.minL (F.bnds by_ sg), F.maxL (F.bnds by_ sg) + 1⟩ = n at *
      by_cases hf : n.2 = 0
      · rw [bne0 hf, r3 hf]
        rfl
      · rw [bne1 hf]
        rcases r4 hf with e | e <;> rw [e] <;> rfl
  · rw [bne1 h0]
    obtain ⟨q1, q2⟩ := g1 h0
    simp [q1, q2]

end M
end Go.Proofs.YtlemjphdhapfpaaDoor
