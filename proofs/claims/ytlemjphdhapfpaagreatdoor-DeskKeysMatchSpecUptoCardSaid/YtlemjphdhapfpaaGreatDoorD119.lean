/- What is proved here: what headendref12.Keyed returns on plain data (no statement of the seat). -/
import Derived.Test.YtlemjphdhapfpaaGreatDoorD118
import Derived.Test.YtlemjphdhapfpaaGreatDoorD71
namespace Go.Proofs.YtlemjphdhapfpaaGreatDoor
open Go Go.RowKit
set_option linter.unusedVariables false
set_option linter.unusedSimpArgs false

theorem F.plK_hi (l : List Int) (n : Int) : ∀ m i, F.plK l n m ≤ i → i < m → n ≤ l.getD i 0
  | 0, i, _, h => by omega
  | m + 1, i, h1, h2 => by
    rw [F.plK] at h1
    by_cases hc : n ≤ l.getD m 0
    · rw [decide_eq_true hc, cond_true] at h1
      by_cases hi : i = m
      · subst hi; exact hc
      · exact F.plK_hi l n m i h1 (by omega)
    · rw [decide_eq_false hc, cond_false] at h1; omega

theorem F.plK_lo (l : List Int) (n : Int) : ∀ m k, F.plK l n m = k + 1 → l.getD k 0 < n
  | 0, k, h => by rw [F.plK] at h; omega
  | m + 1, k, h => by
    rw [F.plK] at h
    by_cases hc : n ≤ l.getD m 0
    · rw [decide_eq_true hc, cond_true] at h
      exact F.plK_lo l n m k h
    · rw [decide_eq_false hc, cond_false] at h
      have : m = k := by omega
      subst this; omega

theorem F.plc_ok {l : List Int} (h : l.Pairwise (· < ·)) (n : Int) : (F.plc l n).Pairwise (· < ·) ∧ ∀ y, y ∈ F.plc l n ↔ y = n ∨ y ∈ l := by
  have hk := F.plK_le l n l.length
  have hhi := F.plK_hi l n l.length
  have hlo := F.plK_lo l n l.length
  have hg : ∀ i (hi : i < l.length), l.getD i 0 = l[i] := fun i hi => by simp [List.getD, List.getElem?_eq_getElem hi]
  have hp := List.pairwise_iff_getElem.1 h
  unfold F.plc F.plcB
  generalize F.plK l n l.length = k at *
  by_cases hlt : k < l.length
  · rw [decide_eq_true hlt, Bool.true_and, hg k hlt]
    by_cases he : l[k] = n
    · have hb : (l[k] == n) = true := by simpa using he
      rw [hb, cond_true]
      refine ⟨h, fun y => ⟨Or.inr, ?_⟩⟩
      rintro (rfl | hy)
      · rw [← he]; exact List.getElem_mem hlt
      · exact hy
    · have hb : (l[k] == n) = false := by simpa using he
      have hn : n < l[k] := by have := hhi k (Nat.le_refl _) hlt; rw [hg k hlt] at this; omega
      rw [hb, cond_false]
      refine ⟨?_, fun y => ?_⟩
      · rw [List.pairwise_append]
        refine ⟨h.sublist (List.take_sublist ..), ?_, ?_⟩
        · refine List.pairwise_cons.2 ⟨fun y hy => ?_, h.sublist (List.drop_sublist ..)⟩
          obtain ⟨i, hi, rfl⟩ := List.getElem_of_mem hy
          rw [List.getElem_drop]
          rw [List.length_drop] at hi
          by_cases h0 : i = 0
          · subst h0; exact hn
          · have := hp k (k + i) hlt (by omega) (by omega); omega
        · intro x hx y hy
          obtain ⟨i, hi, rfl⟩ := List.getElem_of_mem hx
          rw [List.length_take] at hi
          rw [List.getElem_take]
          have hxn : l[i] < n := by
            obtain ⟨j, rfl⟩ : ∃ j, k = j + 1 := ⟨k - 1, by omega⟩
            have h1 := hlo j rfl
            rw [hg j (by omega)] at h1
            by_cases h0 : i = j
            · subst h0; exact h1
            · have := hp i j (by omega) (by omega) (by omega); omega
          rcases List.mem_cons.1 hy with rfl | hy
          · exact hxn
          · obtain ⟨j, hj, rfl⟩ := List.getElem_of_mem hy
            rw [List.getElem_drop]
            rw [List.length_drop] at hj
            exact hp i (k + j) (by omega) (by omega) (by omega)
      · have e := List.take_append_drop k l
        constructor
        · intro hy
          rcases List.mem_append.1 hy with hy | hy
          · exact Or.inr (List.mem_of_mem_take hy)
          · rcases List.mem_cons.1 hy with hy | hy
            · exact Or.inl hy
            · exact Or.inr (List.mem_of_mem_drop hy)
        · rintro (rfl | hy)
          · simp
          · rw [← e] at hy
            rcases List.mem_append.1 hy with hy | hy
            · exact List.mem_append.2 (Or.inl hy)
            · exact List.mem_append.2 (Or.inr (List.mem_cons_of_mem _ hy))
  · have hkl : k = l.length := by omega
    subst hkl
    rw [decide_eq_false hlt, Bool.false_and, cond_false, List.take_length, List.drop_length]
    refine ⟨?_, fun y => by simp [or_comm]⟩
    rw [List.pairwise_append]
    refine ⟨h, List.pairwise_singleton .., fun x hx y hy => ?_⟩
    rw [List.mem_singleton] at hy
    subst hy
    obtain ⟨i, hi, rfl⟩ := List.getElem_of_mem hx
    obtain ⟨j, hj⟩ : ∃ j, l.length = j + 1 := ⟨l.length - 1, by omega⟩
    have h1 := hlo j hj
    rw [hg j (by omega)] at h1
    by_cases h0 : i = j
    · subst h0; exact h1
    · have := hp i j (by omega) (by omega) (by omega); omega

theorem F.plcs_ok : ∀ (ps l : List Int), l.Pairwise (· < ·) → (F.plcs l ps).Pairwise (· < ·) ∧ ∀ y, y ∈ F.plcs l ps ↔ y ∈ ps ∨ y ∈ l
  | [], l, h => ⟨h, fun y => by simp [F.plcs]⟩
  | p :: ps, l, h => by
    obtain ⟨q1, q2⟩ := F.plc_ok h p
    obtain ⟨i1, i2⟩ := F.plcs_ok ps (F.plc l p) q1
    refine ⟨i1, fun y => ?_⟩
    have : F.plcs l (p :: ps) = F.plcs (F.plc l p) ps := rfl
    rw [this, i2, q2, List.mem_cons]
    grind

theorem F.incr_ext : ∀ (a b : List Int), a.Pairwise (· < ·) → b.Pairwise (· < ·) → (∀ y, y ∈ a ↔ y ∈ b) → a = b
  | [], [], _, _, _ => rfl
  | [], y :: b, _, _, h => by have := (h y).2 (List.mem_cons_self ..); simp at this
  | x :: a, [], _, _, h => by have := (h x).1 (List.mem_cons_self ..); simp at this
  | x :: a, y :: b, h1, h2, h => by
    have p1 := List.pairwise_cons.1 h1
    have p2 := List.pairwise_cons.1 h2
    have hxy : x = y := by
      rcases List.mem_cons.1 ((h x).1 (List.mem_cons_self ..)) with e | e
      · exact e
      · rcases List.mem_cons.1 ((h y).2 (List.mem_cons_self ..)) with e2 | e2
        · exact e2.symm
        · have := p2.1 x e; have := p1.1 y e2; omega
    subst hxy
    congr 1
    refine F.incr_ext a b p1.2 p2.2 fun z => ⟨fun hz => ?_, fun hz => ?_⟩
    · rcases List.mem_cons.1 ((h z).1 (List.mem_cons_of_mem _ hz)) with e | e
      · subst e; have := p1.1 z hz; omega
      · exact e
    · rcases List.mem_cons.1 ((h z).2 (List.mem_cons_of_mem _ hz)) with e | e
      · subst e; have := p2.1 z hz; omega
      · exact e

theorem F.plcs_eq (ps : List Int) : F.plcs [] ps = F.cmpI (F.srtI ps) := by
  obtain ⟨q1, q2⟩ := F.plcs_ok ps [] List.Pairwise.nil
  refine F.incr_ext _ _ q1 (F.cmpI_lt (F.srtI_pw ps)) fun y => ?_
  rw [q2, F.cmpI_mem]
  unfold F.srtI
  rw [List.mem_mergeSort]
  simp

namespace M

theorem evRKey (l : Lst) (sg : List Seg) (by_ : Int) (r : Rot) : (runF enRKey false Tryz.f5 [.agg (eLst l), .sl (sg.map eSeg), vI by_, .agg (eRot r)]).val =
  Option.bind (unenc encRChk [AV.agg [(vI l.target), (vI l.first), (vI l.breaks), AV.sl (List.map eEnt l.entries), (vB l.ended)]]) fun (z : Lst) => bif F.check z != (0 :
  Int) then some (AV.tup [AV.agg [(vI (0 : Int)), (vI (0 : Int)), (vI (0 : Int)), AV.sl [], (vB false)], AV.sl [], (vI (F.check z))], []) else bif (↑(List.length (List.map
  eSeg sg)) : Int) != (↑(List.length (List.map eEnt l.entries)) : Int) then some (AV.tup [AV.agg [(vI (0 : Int)), (vI (0 : Int)), (vI (0 : Int)), AV.sl [], (vB false)],
  AV.sl [], (vI (3 : Int))], []) else Option.bind (unenc encIsc [(vI by_)]) fun (z : Int) => bif !!F.noScale z then some (AV.tup [AV.agg [(vI (0 : Int)), (vI (0 : Int)), (vI
  (0 : Int)), AV.sl [], (vB false)], AV.sl [], (vI (1 : Int))], []) else Option.bind (unenc stRKy1 (St.mk [(13, (vI (0 : Int))), (12, .own 12), (8, .ptr 8 0 0), (7, .ptr 7 0
  0), (4, .ptr 4 0 0), (2, (vI by_)), (1, AV.sl (List.map eSeg sg))] [(12, Blk.mk false 3 1 []), (8, Blk.mk true 0 0 [[(vI (0 : Int)), (vI (0 : Int)), (vI (0 : Int)), AV.e0,
  (vB false)]]), (7, Blk.mk true 0 0 [[(vI r.begin), (vI r.every), (vI r.lead), AV.sl (List.map eU8 r.seed)]]), (4, Blk.mk true 0 0 [[(vI l.target), (vI l.first), (vI
  l.breaks), AV.sl (List.map eEnt l.entries), (vB l.ended)]])])) fun (z : Lst × List Seg × Int × Rot × List Int × Nat) => bif decide (List.length z.snd.fst ≤ (1000 : Nat))
  && decide (z.snd.snd.snd.snd.snd ≤ List.length z.snd.fst) && decide (List.length z.snd.snd.snd.snd.fst = z.snd.snd.snd.snd.snd) && !F.noScale z.snd.snd.fst && true then
  bif F.bndsOk (List.drop z.snd.snd.snd.snd.snd z.snd.fst) then Option.bind (unenc encRCk [AV.agg [(vI z.snd.snd.snd.fst.begin), (vI z.snd.snd.snd.fst.every), (vI
  z.snd.snd.snd.fst.lead), AV.sl (List.map eU8 z.snd.snd.snd.fst.seed)]]) fun (z_1 : Rot) => bif F.chkR z_1 != (0 : Int) then some (AV.tup [AV.agg [(vI (0 : Int)), (vI (0 :
  Int)), (vI (0 : Int)), AV.sl [], (vB false)], AV.sl [], (vI (F.chkR z_1))], []) else Option.bind (unenc stRKz1 (St.mk [(20, (vI (0 : Int))), (19, .own 19), (18, .ptr 18 0
  0), (12, .own 12), (8, .ptr 8 0 0), (7, .ptr 7 0 0), (4, .ptr 4 0 0), (1, AV.sl (List.map eSeg z.snd.fst))] [(19, Blk.mk false 3 1 []), (18, Blk.mk true 0 0 [[(vI
  z.fst.target), (vI z.fst.first), (vI z.fst.breaks), AV.e0, (vB z.fst.ended)]]), (12, Blk.mk false 3 1 (List.map eI (z.snd.snd.snd.snd.fst ++ F.bnds z.snd.snd.fst
  (List.drop z.snd.snd.snd.snd.snd z.snd.fst)))), (8, Blk.mk true 0 0 [[(vI (0 : Int)), (vI (0 : Int)), (vI (0 : Int)), AV.e0, (vB false)]]), (7, Blk.mk true 0 0 [[(vI
  z.snd.snd.snd.fst.begin), (vI z.snd.snd.snd.fst.every), (vI z.snd.snd.snd.fst.lead), AV.sl (List.map eU8 z.snd.snd.snd.fst.seed)]]), (4, Blk.mk true 0 0 [[(vI
  z.fst.target), (vI z.fst.first), (vI z.fst.breaks), AV.sl (List.map eEnt z.fst.entries), (vB z.fst.ended)]])])) fun (z : Lst × List Seg × Rot × List Int) => bif decide
  (List.length z.fst.entries ≤ (1000 : Nat)) && decide (List.length z.snd.snd.snd = List.length z.fst.entries) && decide (List.length z.snd.fst = List.length z.fst.entries)
  && true then bif decide (F.persF z.snd.snd.fst z.snd.snd.snd = (0 : Int)) then bif F.noE (F.kEs z.snd.snd.fst z.fst.entries z.snd.snd.snd) then Option.bind (unenc encRChk
  [AV.agg [(vI z.fst.target), (vI z.fst.first), (vI z.fst.breaks), AV.sl [], (vB z.fst.ended)]]) fun (z_2 : Lst) => bif F.check z_2 != (0 : Int) then some (AV.tup [AV.agg
  [(vI (0 : Int)), (vI (0 : Int)), (vI (0 : Int)), AV.sl [], (vB false)], AV.sl [], (vI (F.check z_2))], []) else some (AV.tup [AV.agg [(vI z.fst.target), (vI z.fst.first),
  (vI z.fst.breaks), AV.sl [], (vB z.fst.ended)], AV.sl [], (vI (0 : Int))], []) else Option.bind (unenc encRChk [AV.agg [(vI z.fst.target), (vI z.fst.first), (vI
  z.fst.breaks), AV.sl (List.map eEnt (F.kEs z.snd.snd.fst z.fst.entries z.snd.snd.snd)), (vB z.fst.ended)]]) fun (z_2 : Lst) => bif F.check z_2 != (0 : Int) then some
  (AV.tup [AV.agg [(vI (0 : Int)), (vI (0 : Int)), (vI (0 : Int)), AV.sl [], (vB false)], AV.sl [], (vI (F.check z_2))], []) else some (AV.tup [AV.agg [(vI z.fst.target),
  (vI z.fst.first), (vI z.fst.breaks), AV.sl (List.map eEnt (F.kEs z.snd.snd.fst z.fst.entries z.snd.snd.snd)), (vB z.fst.ended)], AV.sl (List.map eI (F.plcs [] (F.pers
  z.snd.snd.fst z.snd.snd.snd))), (vI (0 : Int))], []) else some (AV.tup [AV.agg [(vI (0 : Int)), (vI (0 : Int)), (vI (0 : Int)), AV.sl [], (vB false)], AV.sl [], (vI
  (F.persF z.snd.snd.fst z.snd.snd.snd))], []) else none else some (AV.tup [AV.agg [(vI (0 : Int)), (vI (0 : Int)), (vI (0 : Int)), AV.sl [], (vB false)], AV.sl [], (vI (1 :
  Int))], []) else none := (runFR_val).symm.trans (by kernel_rfl)

def encRKey1 (l : Lst) (sg : List Seg) (by_ : Int) (r : Rot) : List AV := [.agg (eLst l), .sl (sg.map eSeg), vI by_, .agg (eRot r)]

def encRKey (a : Lst × (List Seg) × Int × Rot) : List AV := encRKey1 a.1 a.2.1 a.2.2.1 a.2.2.2

theorem encRKey_inj (a a' : Lst × (List Seg) × Int × Rot) (h : encRKey a = encRKey a') : a = a' := by
  simp only [encRKey, encRKey1] at h
  try simp [strs_inj, ints_inj, bools_inj, u8s_inj, eEnts_inj, eEnt_iff, eLsts_inj, eLst_iff, eSegs_inj, eSeg_iff, eRots_inj, eRot_iff, eBeats_inj, eBeat_iff, eSpans_inj, eSpan_iff, eHoles_inj, eHole_iff] at h
  grind

theorem unRKey (l : Lst) (sg : List Seg) (by_ : Int) (r : Rot) : unenc encRKey ([AV.agg [(vI l.target), (vI l.first), (vI l.breaks), AV.sl (List.map eEnt l.entries), (vB l.ended)], AV.sl (List.map eSeg sg), (vI by_), AV.agg [(vI r.begin), (vI
  r.every), (vI r.lead), AV.sl (List.map eU8 r.seed)]]) = some (l, sg, by_, r) := unenc_of encRKey_inj (l, sg, by_, r) rfl

theorem unRKeyw (l_target : Int) (l_first : Int) (l_breaks : Int) (l_entries : List Ent) (l_ended : Bool) (sg : List Seg) (by_ : Int) (r_begin : Int) (r_every : Int) (r_lead : Int) (r_seed : List Int) : unenc encRKey ([AV.agg [(vI l_target), (vI l_first), (vI l_breaks), AV.sl (List.map eEnt l_entries), (vB l_ended)], AV.sl (List.map eSeg sg), (vI by_), AV.agg [(vI r_begin), (vI
  r_every), (vI r_lead), AV.sl (List.map eU8 r_seed)]]) = some ((Lst.mk l_target l_first l_breaks l_entries l_ended), sg, by_, (Rot.mk r_begin r_every r_lead r_seed)) := unenc_of encRKey_inj ((Lst.mk l_target l_first l_breaks l_entries l_ended), sg, by_, (Rot.mk r_begin r_every r_lead r_seed)) rfl

def resRKey1 (l : Lst) (sg : List Seg) (by_ : Int) (r : Rot) : AV × Heap := (.tup [.agg (eLst (F.keyed l sg by_ r).1), .sl ((F.keyed l sg by_ r).2.1.map eI), vI (F.keyed l sg by_ r).2.2], [])

def preRKey1 (l : Lst) (sg : List Seg) (by_ : Int) (r : Rot) : Bool := true

noncomputable def oRKey : Orc := orc 5 false encRKey (fun a => preRKey1 a.1 a.2.1 a.2.2.1 a.2.2.2) fun a => resRKey1 a.1 a.2.1 a.2.2.1 a.2.2.2

theorem okRKey : OrcOK Tryz.prog noG oRKey := by
  refine mk_ok Tryz.f5 (keep := false) (by kernel_rfl) (by kernel_rfl) enRKey_ok mixed (two_loops (x0 := loopN Tryz.f5 0) (x1 := loopN Tryz.f5 1) (by kernel_rfl) (lpo_ok ?_) (lpo_ok ?_)) (by first | exact fun _ _ => ⟨rfl, rfl⟩ | (intro h; cases h)) ?_
  · rintro ⟨l, sg, by_, r, out, k⟩ hp
    exact lpRKy_ok l sg by_ r out k hp
  · rintro ⟨l, sg, r, bs⟩ hp
    exact lpRKz_ok l sg r bs hp
  rintro ⟨l, sg, by_, r⟩ hpre hok
  show (runF enRKey false _ (encRKey1 _ _ _ _)).val = some (resRKey1 _ _ _ _)
  unfold encRKey1 resRKey1
  rw [evRKey]
  simp only [unRChk, unIsc, unBrd, unTur, unWhl, unRCk, unRPe, unIta, unPlc, unRChkw, unBrdw, unRCkw, unRPew, preRChk1, preIsc1, preBrd1, preTur1, preWhl1, preRCk1, preRPe1, preIta1, prePlc1, unstRKy, unstRKz, unstRKy0, prlRKy, prlRKz, outRKy, outRKz, etaEnt, etaLst, etaSeg, etaRot, etaBeat, etaSpan, etaHole, Option.bind_some, List.length_map, unStrs, unInts, unBools, unU8s, unEnts, unLsts, unSegs, unRots, unBeats, unSpans, unHoles, F.lt, F.le, cond_true, cond_false, Bool.and_true, Bool.true_and, List.drop_zero, List.nil_append, Nat.zero_le, decide_true, List.length_nil, F.keyed, F.kAns, len_eq, F.plcs_eq]
  by_cases h0 : F.check l = 0
  · rw [bne0 h0]
    obtain ⟨a1, a2⟩ := F.check_few h0
    have hn : ((sg.length : Int) != (l.entries.length : Int)) = !decide (sg.length = l.entries.length) := by rw [bne, len_eq]
    rw [hn]
    by_cases hl : sg.length = l.entries.length
    · rw [decide_eq_true hl]
      have d1 : decide (sg.length ≤ 1000) = true := decide_eq_true (by omega)
      have d2 : decide (l.entries.length ≤ 1000) = true := decide_eq_true a1
      have d3 : decide ((F.bnds by_ sg).length = l.entries.length) = true := decide_eq_true (by rw [F.bnds_len]; exact hl)
      generalize F.bnds by_ sg = bs at *
      simp only [d1, d2, d3, Bool.and_self, cond_true, cond_false, Bool.not_true, Bool.true_and, Bool.not_not]
      cases hs : F.noScale by_
      · cases hb : F.bndsOk sg
        · rfl
        · cases hr : F.chkR r != 0
          · by_cases hf : F.persF r bs = 0
            · rw [bne0 hf, decide_eq_true hf]
              simp only [Bool.not_false, Bool.not_true, cond_true, cond_false]
              unfold F.kLst
              cases he : F.kEs r l.entries bs with
              | nil =>
                have hu : unenc encRChk [.agg [vI l.target, vI l.first, vI l.breaks, .sl [], vB l.ended]] = some ⟨l.target, l.first, l.breaks, [], l.ended⟩ := unenc_of encRChk_inj (⟨l.target, l.first, l.breaks, [], l.ended⟩ : Lst) rfl
                have hbs : bs = [] := by
                  have d3 := of_decide_eq_true d3
                  cases hb0 : bs with
                  | nil => rfl
                  | cons b bt =>
                    rw [hb0] at d3 he
                    cases hl0 : l.entries with
                    | nil => rw [hl0] at d3; simp at d3
                    | cons e et => rw [hl0] at he; simp [F.kEs] at he
                have hq : F.cmpI (F.srtI (F.pers r bs)) = [] := by rw [hbs]; exact (F.plcs_eq []).symm
                rw [hu, hq]
                simp only [F.noE, List.isEmpty_nil, cond_true, Option.bind_some]
                cases F.check ⟨l.target, l.first, l.breaks, [], l.ended⟩ != 0 <;> rfl
              | cons e0 er =>
                simp only [F.noE, List.isEmpty_cons, cond_false]
                cases F.check ⟨l.target, l.first, l.breaks, e0 :: er, l.ended⟩ != 0 <;> rfl
            · rw [bne1 hf, decide_eq_false hf]
              rfl
          · rfl
      · rfl
    · rw [decide_eq_false hl]
      rfl
  · rw [bne1 h0]; rfl

end M
end Go.Proofs.YtlemjphdhapfpaaGreatDoor
