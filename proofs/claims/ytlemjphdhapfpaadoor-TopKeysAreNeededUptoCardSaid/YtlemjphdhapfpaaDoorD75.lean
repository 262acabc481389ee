/- What is proved here: what key.Needed returns, and the loops of the law TopKeysAreNeeded (no statement of the seat). -/
import Derived.Test.YtlemjphdhapfpaaDoorD74
namespace Go.Proofs.YtlemjphdhapfpaaDoor
open Go Go.RowKit
set_option linter.unusedVariables false
set_option linter.unusedSimpArgs false

def F.cvOk (by_ : Int) (s : Seg) : Bool := F.bndOk s && decide ((F.conv (s.begin + s.lead) by_ 1000 1).1 = F.bnd s by_) && decide ((F.conv (s.begin + s.lead) by_ 1000 1).2 = 0)

def F.cvsOk (by_ : Int) (l : List Seg) : Bool := l.all (F.cvOk by_)

def F.inAll (nd : List Int) (ps : List Int) : Bool := ps.all fun p => F.hasI p nd

namespace M

def stNd (i : Int) (last : Int) (out : List Int) : St := ⟨[(11, vI i), (10, .own 10), (9, vI last)], [(10, ⟨false, 3, 1, out.map eI⟩)]⟩

def stNd1 (a : Int × Int × (List Int)) : St := stNd a.1 a.2.1 a.2.2

theorem stNd_inj (a a' : Int × Int × (List Int)) (h : stNd1 a = stNd1 a') : a = a' := by
  simp only [stNd1, stNd] at h
  try simp [strs_inj, ints_inj, bools_inj, u8s_inj, eEnts_inj, eEnt_iff, eLsts_inj, eLst_iff, eSegs_inj, eSeg_iff, eRots_inj, eRot_iff, eBeats_inj, eBeat_iff, eSpans_inj, eSpan_iff, eHoles_inj, eHole_iff] at h
  grind

theorem unstNd (i : Int) (last : Int) (out : List Int) : unenc stNd1 (St.mk [(11, (vI i)), (10, .own 10), (9, (vI last))] [(10, Blk.mk false 3 1 (List.map eI out))]) = some (i, last, out) := unenc_of stNd_inj (i, last, out) rfl

theorem unstNd0 (i : Int) (last : Int)  : unenc stNd1 (St.mk [(11, (vI i)), (10, .own 10), (9, (vI last))] [(10, Blk.mk false 3 1 [])]) = some (i, last, []) := unenc_of stNd_inj (i, last, []) rfl

def outNd (i : Int) (last : Int) (out : List Int) : T (Ex × St) := .ret (.exit 1, ⟨[(10, .own 10)], [(10, ⟨false, 3, 1, (out ++ F.rng i last).map eI⟩)]⟩)

noncomputable def prlNd (i : Int) (last : Int) (out : List Int) : Bool := F.le 0 i && F.le last 1000000000 && F.le ((out.length : Int) + (last - i)) 1000

noncomputable def lpNd : Nat × (St → T (Ex × St)) := (17, lpo [11, 10, 9] [10] stNd1 (fun a => prlNd a.1 a.2.1 a.2.2) fun a => outNd a.1 a.2.1 a.2.2)

noncomputable def enNd : Env := envH ty noG lks [oCkR, oOut] [] [] [lpNd]

theorem enNd_ok : EnvOK Tryd.prog enNd := by
  refine envH_ok lks_ok ty_ok ?_ ?_
  · simp only [List.forall_mem_cons]
    exact ⟨okCkR, okOut, by simp⟩
  · simp

theorem evNdL (i : Int) (last : Int) (out : List Int) : ((exec enNd (loopN Tryd.f8 0) (stNd i last out)).bind (lessX ([11, 10, 9], [10]) ([10], [10]) ([], []))).val =
  bif decide (i ≤ last) then bif Nat.ble ((List.length (List.map eI out) + (1 : Nat)) * (8 : Nat)) (140737488355328 : Nat) && true then some (Ex.normal, St.mk [(11, (vI
  (IntKind.wrap IntKind.i64 (i + (1 : Int))))), (10, .own 10), (9, (vI last))] [(10, Blk.mk false 3 1 (List.map eI out ++ [[(vI i)]]))]) else none else some (Ex.exit (1 :
  Nat), St.mk [(10, .own 10)] [(10, Blk.mk false 3 1 (List.map eI out))]) := (execR_bind _ _ _).symm.trans (by kernel_rfl)

theorem lpNd_ok (i : Int) (last : Int) (out : List Int) (hp : prlNd i last out = true) : ∀ ex s', (outNd i last out).val = some (ex, s') → LoopOK enNd (loopN Tryd.f8 0) (stNd i last out) ex s' := by
  simp only [prlNd, Bool.and_eq_true, decide_eq_true_eq] at hp
  obtain ⟨⟨h1, h2⟩, h3⟩ := hp
  have h1 : 0 ≤ i := of_decide_eq_true h1
  have h2 : last ≤ 1000000000 := of_decide_eq_true h2
  have h3 : (out.length : Int) + (last - i) ≤ 1000 := of_decide_eq_true h3
  refine loop_gen (st := fun a : Int × List Int => stNd a.1 last a.2) (out := fun a => outNd a.1 last a.2) (I := fun a => 0 ≤ a.1 ∧ (a.2.length : Int) + (last - a.1) ≤ 1000) (n := ([11, 10, 9], [10])) (e := ([10], [10])) (r := ([], [])) (fun a => (last - a.1 + 1).toNat) ?_ (i, out) ⟨h1, h3⟩
  rintro ⟨i, out⟩ ⟨h1, h3⟩
  simp only at h1 h3
  by_cases hlt : i ≤ last
  · right
    have hb : Nat.ble ((out.length + 1) * 8) 140737488355328 = true := ble_t (by omega)
    have hw : IntKind.i64.wrap (i + 1) = i + 1 := wrap_id (by omega) (by omega)
    refine ⟨(i + 1, out ++ [i]), ?_, rfl, ⟨by simp only; omega, by simp; omega⟩, by simp only; omega, ?_⟩
    · rw [evNdL]
      simp only [unCkR, unOut, unCkRw, preCkR1, preOut1, unstNd, unstNd0, prlNd, outNd, etaEnt, etaLst, etaSeg, etaRot, etaBeat, etaSpan, etaHole, Option.bind_some, List.length_map, unStrs, unInts, unBools, unU8s, unEnts, unLsts, unSegs, unRots, unBeats, unSpans, unHoles, F.lt, F.le, cond_true, cond_false, Bool.and_true, Bool.true_and, decide_eq_true hlt, hw, hb, stNd, app1I]
      try rfl
    · simp only [outNd, F.rng_cons hlt, List.append_assoc, List.singleton_append]
  · left
    refine ⟨(.exit 1, ⟨[(10, .own 10)], [(10, ⟨false, 3, 1, out.map eI⟩)]⟩), ?_, ?_, by simp, rfl⟩
    · rw [evNdL]
      simp [hlt]
    · simp only [outNd, F.rng_nil (by omega : last < i), List.append_nil]
      rfl

theorem evNd (r : Rot) (s : Span) : (runF enNd false Tryd.f8 [.agg (eRot r), .agg (eSpan s)]).val =
  Option.bind (unenc encCkR [AV.agg [(vI r.begin), (vI r.every), (vI r.lead), AV.sl (List.map eU8 r.seed)]]) fun (z : Rot) => bif F.chkR z != (0 : Int) then some (AV.tup
  [AV.sl [], (vI (F.chkR z))], []) else Option.bind (unenc encOut [(vI s.fr), (vI (0 : Int)), (vI (1000000000000000 : Int))]) fun (z : Int × Int × Int) => bif !F.out z.fst
  z.snd.fst z.snd.snd then Option.bind (unenc encOut [(vI s.to), (vI (0 : Int)), (vI (1000000000000000 : Int))]) fun (z : Int × Int × Int) => bif F.out z.fst z.snd.fst
  z.snd.snd then some (AV.tup [AV.sl [], (vI (1 : Int))], []) else bif decide (s.to ≤ s.fr) then some (AV.tup [AV.sl [], (vI (8 : Int))], []) else bif decide (IntKind.wrap
  IntKind.i64 (s.to + r.lead) ≤ r.begin) then some (AV.tup [AV.sl [], (vI (0 : Int))], []) else bif r.every == (0 : Int) then none else bif r.every == (0 : Int) then none
  else bif bif decide ((1000 : Int) ≤ IntKind.wrap IntKind.i64 (IntKind.wrap IntKind.i64 (Int.tdiv (IntKind.wrap IntKind.i64 (IntKind.wrap IntKind.i64 (IntKind.wrap
  IntKind.i64 (s.to + r.lead) - (1 : Int)) - r.begin)) r.every) - IntKind.wrap IntKind.i64 (Int.tdiv (max (0 : Int) (IntKind.wrap IntKind.i64 (s.fr - r.begin))) r.every)))
  then true else decide ((1000000000 : Int) < IntKind.wrap IntKind.i64 (Int.tdiv (IntKind.wrap IntKind.i64 (IntKind.wrap IntKind.i64 (IntKind.wrap IntKind.i64 (s.to +
  r.lead) - (1 : Int)) - r.begin)) r.every)) then some (AV.tup [AV.sl [], (vI (2 : Int))], []) else Option.bind (unenc stNd1 (St.mk [(11, (vI (IntKind.wrap IntKind.i64
  (Int.tdiv (max (0 : Int) (IntKind.wrap IntKind.i64 (s.fr - r.begin))) r.every)))), (10, .own 10), (9, (vI (IntKind.wrap IntKind.i64 (Int.tdiv (IntKind.wrap IntKind.i64
  (IntKind.wrap IntKind.i64 (IntKind.wrap IntKind.i64 (s.to + r.lead) - (1 : Int)) - r.begin)) r.every))))] [(10, Blk.mk false 3 1 [])])) fun (z : Int × Int × List Int) =>
  bif F.le (0 : Int) z.fst && F.le z.snd.fst (1000000000 : Int) && F.le ((↑(List.length z.snd.snd) : Int) + (z.snd.fst - z.fst)) (1000 : Int) && true then some (AV.tup
  [AV.sl (List.map eI (z.snd.snd ++ F.rng z.fst z.snd.fst)), (vI (0 : Int))], []) else none else some (AV.tup [AV.sl [], (vI (1 : Int))], []) := (runFR_val).symm.trans (by kernel_rfl)

def encNd1 (r : Rot) (s : Span) : List AV := [.agg (eRot r), .agg (eSpan s)]

def encNd (a : Rot × Span) : List AV := encNd1 a.1 a.2

theorem encNd_inj (a a' : Rot × Span) (h : encNd a = encNd a') : a = a' := by
  simp only [encNd, encNd1] at h
  try simp [strs_inj, ints_inj, bools_inj, u8s_inj, eEnts_inj, eEnt_iff, eLsts_inj, eLst_iff, eSegs_inj, eSeg_iff, eRots_inj, eRot_iff, eBeats_inj, eBeat_iff, eSpans_inj, eSpan_iff, eHoles_inj, eHole_iff] at h
  grind

theorem unNd (r : Rot) (s : Span) : unenc encNd ([AV.agg [(vI r.begin), (vI r.every), (vI r.lead), AV.sl (List.map eU8 r.seed)], AV.agg [(vI s.fr), (vI s.to)]]) = some (r, s) := unenc_of encNd_inj (r, s) rfl

theorem unNdw (r_begin : Int) (r_every : Int) (r_lead : Int) (r_seed : List Int) (s_fr : Int) (s_to : Int) : unenc encNd ([AV.agg [(vI r_begin), (vI r_every), (vI r_lead), AV.sl (List.map eU8 r_seed)], AV.agg [(vI s_fr), (vI s_to)]]) = some ((Rot.mk r_begin r_every r_lead r_seed), (Span.mk s_fr s_to)) := unenc_of encNd_inj ((Rot.mk r_begin r_every r_lead r_seed), (Span.mk s_fr s_to)) rfl

def resNd1 (r : Rot) (s : Span) : AV × Heap := (.tup [.sl ((F.needed r s).1.map eI), vI (F.needed r s).2], [])

def preNd1 (r : Rot) (s : Span) : Bool := true

noncomputable def oNd : Orc := orc 8 false encNd (fun a => preNd1 a.1 a.2) fun a => resNd1 a.1 a.2

theorem okNd : OrcOK Tryd.prog noG oNd := by
  refine mk_ok Tryd.f8 (keep := false) (by kernel_rfl) (by kernel_rfl) enNd_ok mixed (one_loop (x0 := loopN Tryd.f8 0) (by kernel_rfl) (lpo_ok ?_)) (by first | exact fun _ _ => ⟨rfl, rfl⟩ | (intro h; cases h)) ?_
  · rintro ⟨i, last, out⟩ hp
    exact lpNd_ok i last out hp
  rintro ⟨r, s⟩ hpre hok
  show (runF enNd false _ (encNd1 _ _)).val = some (resNd1 _ _)
  unfold encNd1 resNd1
  rw [evNd]
  simp only [unCkR, unOut, unCkRw, preCkR1, preOut1, unstNd, unstNd0, prlNd, outNd, etaEnt, etaLst, etaSeg, etaRot, etaBeat, etaSpan, etaHole, Option.bind_some, List.length_map, unStrs, unInts, unBools, unU8s, unEnts, unLsts, unSegs, unRots, unBeats, unSpans, unHoles, F.lt, F.le, cond_true, cond_false, Bool.and_true, Bool.true_and, List.nil_append, List.length_nil, F.needed]
  by_cases h0 : F.chkR r = 0
  · rw [bne0 h0]
    obtain ⟨⟨b1, b2⟩, ⟨b3, b4⟩, b5, b6⟩ := F.chkR_ok h0
    cases h1 : F.out s.fr 0 1000000000000000
    · cases h2 : F.out s.to 0 1000000000000000
      · simp only [F.out, Bool.or_eq_false_iff, decide_eq_false_iff_not] at h1 h2
        have w1 : IntKind.i64.wrap (s.to + r.lead) = s.to + r.lead := wrap_id (by omega) (by omega)
        have w2 : IntKind.i64.wrap (s.fr - r.begin) = s.fr - r.begin := wrap_id (by omega) (by omega)
        have w3 : IntKind.i64.wrap (s.to + r.lead - 1) = s.to + r.lead - 1 := wrap_id (by omega) (by omega)
        have w4 : IntKind.i64.wrap (s.to + r.lead - 1 - r.begin) = s.to + r.lead - 1 - r.begin := wrap_id (by omega) (by omega)
        rw [w1, w2, w3, w4]
        simp only [F.le, F.lt, Bool.or_false, cond_false]
        by_cases h3 : s.to ≤ s.fr
        · simp [h3]
        · by_cases h4 : s.to + r.lead ≤ r.begin
          · simp [h3, h4]
          · have m0 : (0 : Int) ≤ max 0 (s.fr - r.begin) := by omega
            have m1 : max 0 (s.fr - r.begin) ≤ 1000000000000000 := by omega
            have t1 : Int.tdiv (max 0 (s.fr - r.begin)) r.every = F.ndA r s := tdiv_nn m0
            have t2 : Int.tdiv (s.to + r.lead - 1 - r.begin) r.every = F.ndB r s := tdiv_nn (by omega)
            have d1 : 0 ≤ F.ndA r s := Int.ediv_nonneg (by omega) (by omega)
            have d2 : F.ndA r s ≤ max 0 (s.fr - r.begin) := Int.ediv_le_self _ m0
            have d3 : 0 ≤ F.ndB r s := Int.ediv_nonneg (by omega) (by omega)
            have d4 : F.ndB r s ≤ s.to + r.lead - 1 - r.begin := Int.ediv_le_self _ (by omega)
            have he : (r.every == 0) = false := by rw [beq_eq_false_iff_ne]; omega
            have w5 : IntKind.i64.wrap (F.ndA r s) = F.ndA r s := wrap_id (by omega) (by omega)
            have w6 : IntKind.i64.wrap (F.ndB r s) = F.ndB r s := wrap_id (by omega) (by omega)
            have w7 : IntKind.i64.wrap (F.ndB r s - F.ndA r s) = F.ndB r s - F.ndA r s := wrap_id (by omega) (by omega)
            rw [t1, t2, w5, w6, w7, he]
            by_cases h5 : 1000 ≤ F.ndB r s - F.ndA r s
            · simp [h3, h4, h5]
            · by_cases h6 : 1000000000 < F.ndB r s
              · simp [h3, h4, h5, h6]
              · have h7 : F.ndB r s ≤ 1000000000 := by omega
                have h8 : F.ndB r s - F.ndA r s ≤ 1000 := by omega
                simp [h3, h4, h5, h6, h7, h8, d1]
      · rfl
    · rfl
  · rw [bne1 h0]; rfl

def stTa (sg : List Seg) (by_ : Int) (r : Rot) (ps : List Int) (out : List Int) (k : Nat) : St := ⟨[(44, vI k), (43, vI sg.length), (42, .sl (sg.map eSeg)), (12, .own 12), (10, .sl (ps.map eI)), (7, .ptr 7 0 0), (2, vI by_)], [(12, ⟨false, 3, 1, out.map eI⟩), (7, ⟨true, 0, 0, [eRot r]⟩)]⟩

def stTa1 (a : (List Seg) × Int × Rot × (List Int) × (List Int) × Nat) : St := stTa a.1 a.2.1 a.2.2.1 a.2.2.2.1 a.2.2.2.2.1 a.2.2.2.2.2

theorem stTa_inj (a a' : (List Seg) × Int × Rot × (List Int) × (List Int) × Nat) (h : stTa1 a = stTa1 a') : a = a' := by
  simp only [stTa1, stTa] at h
  try simp [strs_inj, ints_inj, bools_inj, u8s_inj, eEnts_inj, eEnt_iff, eLsts_inj, eLst_iff, eSegs_inj, eSeg_iff, eRots_inj, eRot_iff, eBeats_inj, eBeat_iff, eSpans_inj, eSpan_iff, eHoles_inj, eHole_iff] at h
  grind

theorem unstTa (sg : List Seg) (by_ : Int) (r : Rot) (ps : List Int) (out : List Int) (k : Nat) : unenc stTa1 (St.mk [(44, (vI (↑k : Int))), (43, (vI (↑(List.length sg) : Int))), (42, AV.sl (List.map eSeg sg)), (12, .own 12), (10, AV.sl (List.map eI ps)), (7, .ptr 7 0 0), (2, (vI
  by_))] [(12, Blk.mk false 3 1 (List.map eI out)), (7, Blk.mk true 0 0 [[(vI r.begin), (vI r.every), (vI r.lead), AV.sl (List.map eU8 r.seed)]])]) = some (sg, by_, r, ps, out, k) := unenc_of stTa_inj (sg, by_, r, ps, out, k) rfl

theorem unstTa0 (sg : List Seg) (by_ : Int) (r : Rot) (ps : List Int)  : unenc stTa1 (St.mk [(44, (vI (0 : Int))), (43, (vI (↑(List.length sg) : Int))), (42, AV.sl (List.map eSeg sg)), (12, .own 12), (10, AV.sl (List.map eI ps)), (7, .ptr 7 0 0), (2, (vI
  by_))] [(12, Blk.mk false 3 1 []), (7, Blk.mk true 0 0 [[(vI r.begin), (vI r.every), (vI r.lead), AV.sl (List.map eU8 r.seed)]])]) = some (sg, by_, r, ps, [], 0) := unenc_of stTa_inj (sg, by_, r, ps, [], 0) rfl

def outTa (sg : List Seg) (by_ : Int) (r : Rot) (ps : List Int) (out : List Int) (k : Nat) : T (Ex × St) := .ret (.exit 0, ⟨[(12, .own 12), (10, .sl (ps.map eI)), (7, .ptr 7 0 0)], [(12, ⟨false, 3, 1, (out ++ F.bnds by_ (sg.drop k)).map eI⟩), (7, ⟨true, 0, 0, [eRot r]⟩)]⟩)

noncomputable def prlTa (sg : List Seg) (by_ : Int) (r : Rot) (ps : List Int) (out : List Int) (k : Nat) : Bool := decide (sg.length ≤ 1000) && decide (k ≤ sg.length) && decide (out.length = k) && F.cvsOk by_ sg

noncomputable def lpTa : Nat × (St → T (Ex × St)) := (6, lpo [44, 43, 42, 12, 10, 7, 2] [12, 7] stTa1 (fun a => prlTa a.1 a.2.1 a.2.2.1 a.2.2.2.1 a.2.2.2.2.1 a.2.2.2.2.2) fun a => outTa a.1 a.2.1 a.2.2.1 a.2.2.2.1 a.2.2.2.2.1 a.2.2.2.2.2)

def stTb (ps : List Int) (nd : List Int) (k : Nat) : St := ⟨[(89, vI k), (88, vI ps.length), (87, .sl (ps.map eI)), (17, .sl (nd.map eI)), (10, .sl (ps.map eI))], []⟩

def stTb1 (a : (List Int) × (List Int) × Nat) : St := stTb a.1 a.2.1 a.2.2

theorem stTb_inj (a a' : (List Int) × (List Int) × Nat) (h : stTb1 a = stTb1 a') : a = a' := by
  simp only [stTb1, stTb] at h
  try simp [strs_inj, ints_inj, bools_inj, u8s_inj, eEnts_inj, eEnt_iff, eLsts_inj, eLst_iff, eSegs_inj, eSeg_iff, eRots_inj, eRot_iff, eBeats_inj, eBeat_iff, eSpans_inj, eSpan_iff, eHoles_inj, eHole_iff] at h
  grind

theorem unstTb (ps : List Int) (nd : List Int) (k : Nat) : unenc stTb1 (St.mk [(89, (vI (↑k : Int))), (88, (vI (↑(List.length ps) : Int))), (87, AV.sl (List.map eI ps)), (17, AV.sl (List.map eI nd)), (10, AV.sl (List.map eI ps))] []) = some (ps, nd, k) := unenc_of stTb_inj (ps, nd, k) rfl

theorem unstTb0 (ps : List Int) (nd : List Int)  : unenc stTb1 (St.mk [(89, (vI (0 : Int))), (88, (vI (↑(List.length ps) : Int))), (87, AV.sl (List.map eI ps)), (17, AV.sl (List.map eI nd)), (10, AV.sl (List.map eI ps))] []) = some (ps, nd, 0) := unenc_of stTb_inj (ps, nd, 0) rfl

def outTb (ps : List Int) (nd : List Int) (k : Nat) : T (Ex × St) := .ret (.exit 2, ⟨[(10, .sl (ps.map eI))], []⟩)

noncomputable def prlTb (ps : List Int) (nd : List Int) (k : Nat) : Bool := decide (ps.length ≤ 1000) && decide (k ≤ ps.length) && F.inAll nd ps

noncomputable def lpTb : Nat × (St → T (Ex × St)) := (17, lpo [89, 88, 87, 17, 10] [] stTb1 (fun a => prlTb a.1 a.2.1 a.2.2) fun a => outTb a.1 a.2.1 a.2.2)

noncomputable def enTop : Env := envH ty noG lks [oKey, oAlv, oCnv, oMn, oMx, oNd, oHas] [] [] [lpTa, lpTb]

theorem enTop_ok : EnvOK Tryd.prog enTop := by
  refine envH_ok lks_ok ty_ok ?_ ?_
  · simp only [List.forall_mem_cons]
    exact ⟨okKey, okAlv, okCnv, okMn, okMx, okNd, okHas, by simp⟩
  · simp

theorem evTaL (sg : List Seg) (by_ : Int) (r : Rot) (ps : List Int) (out : List Int) (k : Nat) : ((exec enTop (loopN Tryd.f3 0) (stTa sg by_ r ps out k)).bind (lessX ([44, 43, 42, 12, 10, 7, 2], [12, 7]) ([12, 10, 7], [12, 7]) ([], []))).val =
  bif decide ((↑k : Int) < (↑(List.length sg) : Int)) then Option.bind (unenc (List.map eSeg) (List.map eSeg sg)) fun (z : List Seg) => bif decide (k < List.length z) then
  Option.bind (unenc encCnv [(vI (IntKind.wrap IntKind.i64 ((List.getD z k (Seg.mk (0 : Int) (0 : Int) (0 : Int) (0 : Int) (0 : Int) (0 : Int) (0 : Int))).begin + (List.getD
  z k (Seg.mk (0 : Int) (0 : Int) (0 : Int) (0 : Int) (0 : Int) (0 : Int) (0 : Int))).lead))), (vI by_), (vI (1000 : Int)), (vI (1 : Int))]) fun (z : Int × Int × Int × Int)
  => bif F.le z.snd.snd.fst (1000 : Int) then bif (F.conv z.fst z.snd.fst z.snd.snd.fst z.snd.snd.snd).snd != (0 : Int) then some (Ex.ret, St.mk [] []) else bif Nat.ble
  ((List.length (List.map eI out) + (1 : Nat)) * (8 : Nat)) (140737488355328 : Nat) && true then some (Ex.normal, St.mk [(44, (vI (IntKind.wrap IntKind.i64 ((↑k : Int) + (1
  : Int))))), (43, (vI (↑(List.length sg) : Int))), (42, AV.sl (List.map eSeg sg)), (12, .own 12), (10, AV.sl (List.map eI ps)), (7, .ptr 7 0 0), (2, (vI by_))] [(12, Blk.mk
  false 3 1 (List.map eI out ++ [[(vI (F.conv z.fst z.snd.fst z.snd.snd.fst z.snd.snd.snd).fst)]])), (7, Blk.mk true 0 0 [[(vI r.begin), (vI r.every), (vI r.lead), AV.sl
  (List.map eU8 r.seed)]])]) else none else none else none else some (Ex.exit (0 : Nat), St.mk [(12, .own 12), (10, AV.sl (List.map eI ps)), (7, .ptr 7 0 0)] [(12, Blk.mk
  false 3 1 (List.map eI out)), (7, Blk.mk true 0 0 [[(vI r.begin), (vI r.every), (vI r.lead), AV.sl (List.map eU8 r.seed)]])]) := (execR_bind _ _ _).symm.trans (by kernel_rfl)

theorem lpTa_ok (sg : List Seg) (by_ : Int) (r : Rot) (ps : List Int) (out : List Int) (k : Nat) (hp : prlTa sg by_ r ps out k = true) : ∀ ex s', (outTa sg by_ r ps out k).val = some (ex, s') → LoopOK enTop (loopN Tryd.f3 0) (stTa sg by_ r ps out k) ex s' := by
  simp only [prlTa, Bool.and_eq_true, decide_eq_true_eq] at hp
  obtain ⟨⟨⟨h1, h2⟩, h3⟩, h4⟩ := hp
  have h4 := List.all_eq_true.1 h4
  refine loop_gen (st := fun a : List Int × Nat => stTa sg by_ r ps a.1 a.2) (out := fun a => outTa sg by_ r ps a.1 a.2) (I := fun a => a.2 ≤ sg.length ∧ a.1.length = a.2) (n := ([44, 43, 42, 12, 10, 7, 2], [12, 7])) (e := ([12, 10, 7], [12, 7])) (r := ([], [])) (fun a => sg.length - a.2) ?_ (out, k) ⟨h2, h3⟩
  rintro ⟨out, k⟩ ⟨hk, ho⟩
  simp only at hk ho
  by_cases hlt : k < sg.length
  · right
    have hy : sg[k]? = some sg[k] := List.getElem?_eq_getElem hlt
    generalize sg[k] = y at hy
    have hc := h4 y (List.mem_of_getElem? hy)
    simp only [F.cvOk, F.bndOk, F.isSum, Bool.and_eq_true, decide_eq_true_eq] at hc
    obtain ⟨⟨⟨⟨c1, c2⟩, c3⟩, c4⟩, c5⟩ := hc
    have hw : IntKind.i64.wrap (y.begin + y.lead) = y.begin + y.lead := wrap_id (by omega) (by omega)
    have hb : Nat.ble ((out.length + 1) * 8) 140737488355328 = true := ble_t (by omega)
    have he : F.le 1000 1000 = true := rfl
    refine ⟨(out ++ [F.bnd y by_], k + 1), ?_, rfl, ⟨by simp only; omega, by simp; omega⟩, by simp only; omega, ?_⟩
    · rw [evTaL]
      simp only [unKey, unAlv, unCnv, unMn, unMx, unNd, unHas, unKeyw, unNdw, preKey1, preAlv1, preCnv1, preMn1, preMx1, preNd1, preHas1, unstTa, unstTb, unstTa0, unstTb0, prlTa, prlTb, outTa, outTb, etaEnt, etaLst, etaSeg, etaRot, etaBeat, etaSpan, etaHole, Option.bind_some, List.length_map, unStrs, unInts, unBools, unU8s, unEnts, unLsts, unSegs, unRots, unBeats, unSpans, unHoles, F.lt, F.le, cond_true, cond_false, Bool.and_true, Bool.true_and, cast_lt hlt, decide_eq_true hlt, next_at hlt (by omega : sg.length ≤ 9223372036854775807), getD_at hy, stTa, hb, hw, he, c4, c5, app1I, bne_self_eq_false]
      try rfl
    · simp only [outTa, drop_at hy, F.bnds, List.map_cons, List.append_assoc, List.singleton_append]
  · have : k = sg.length := by omega
    subst this
    left
    refine ⟨(.exit 0, ⟨[(12, .own 12), (10, .sl (ps.map eI)), (7, .ptr 7 0 0)], [(12, ⟨false, 3, 1, out.map eI⟩), (7, ⟨true, 0, 0, [eRot r]⟩)]⟩), ?_, ?_, by simp, rfl⟩
    · rw [evTaL]; simp [eRot]
    · simp only [outTa, List.drop_length, F.bnds, List.map_nil, List.append_nil]
      rfl

theorem evTbL (ps : List Int) (nd : List Int) (k : Nat) : ((exec enTop (loopN Tryd.f3 1) (stTb ps nd k)).bind (lessX ([89, 88, 87, 17, 10], []) ([10], []) ([], []))).val =
  bif decide ((↑k : Int) < (↑(List.length ps) : Int)) then Option.bind (unenc (List.map eI) (List.map eI ps)) fun (z : List Int) => bif decide (k < List.length z) then
  Option.bind (unenc encHas [AV.sl (List.map eI nd), (vI (List.getD z k (0 : Int)))]) fun (z : List Int × Int) => bif !F.hasI z.snd z.fst then some (Ex.ret, St.mk [] [])
  else some (Ex.normal, St.mk [(89, (vI (IntKind.wrap IntKind.i64 ((↑k : Int) + (1 : Int))))), (88, (vI (↑(List.length ps) : Int))), (87, AV.sl (List.map eI ps)), (17, AV.sl
  (List.map eI nd)), (10, AV.sl (List.map eI ps))] []) else none else some (Ex.exit (2 : Nat), St.mk [(10, AV.sl (List.map eI ps))] []) := (execR_bind _ _ _).symm.trans (by kernel_rfl)

theorem lpTb_ok (ps : List Int) (nd : List Int) (k : Nat) (hp : prlTb ps nd k = true) : ∀ ex s', (outTb ps nd k).val = some (ex, s') → LoopOK enTop (loopN Tryd.f3 1) (stTb ps nd k) ex s' := by
  simp only [prlTb, Bool.and_eq_true, decide_eq_true_eq] at hp
  obtain ⟨⟨h1, h2⟩, h3⟩ := hp
  have h3 := List.all_eq_true.1 h3
  refine loop_gen (st := fun k => stTb ps nd k) (out := fun k => outTb ps nd k) (I := fun k => k ≤ ps.length) (n := ([89, 88, 87, 17, 10], [])) (e := ([10], [])) (r := ([], [])) (fun k => ps.length - k) ?_ k h2
  intro k hk
  by_cases hlt : k < ps.length
  · right
    have hy : ps[k]? = some ps[k] := List.getElem?_eq_getElem hlt
    generalize ps[k] = y at hy
    have hc := h3 y (List.mem_of_getElem? hy)
    refine ⟨k + 1, ?_, rfl, by omega, by omega, rfl⟩
    rw [evTbL]
    simp only [unKey, unAlv, unCnv, unMn, unMx, unNd, unHas, unKeyw, unNdw, preKey1, preAlv1, preCnv1, preMn1, preMx1, preNd1, preHas1, unstTa, unstTb, unstTa0, unstTb0, prlTa, prlTb, outTa, outTb, etaEnt, etaLst, etaSeg, etaRot, etaBeat, etaSpan, etaHole, Option.bind_some, List.length_map, unStrs, unInts, unBools, unU8s, unEnts, unLsts, unSegs, unRots, unBeats, unSpans, unHoles, F.lt, F.le, cond_true, cond_false, Bool.and_true, Bool.true_and, cast_lt hlt, decide_eq_true hlt, next_at hlt (by omega : ps.length ≤ 9223372036854775807), getD_at hy, stTb, hc]
    try rfl
  · have : k = ps.length := by omega
    subst this
    left
    refine ⟨(.exit 2, ⟨[(10, .sl (ps.map eI))], []⟩), ?_, rfl, by simp, rfl⟩
    rw [evTbL]
    simp

end M
end Go.Proofs.YtlemjphdhapfpaaDoor
