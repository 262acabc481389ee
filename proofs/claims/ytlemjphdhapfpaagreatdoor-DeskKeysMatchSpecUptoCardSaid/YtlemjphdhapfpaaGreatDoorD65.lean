/- What is proved here: edges of segments and periods of keys, on plain data (no statement of the seat). -/
import Derived.Test.YtlemjphdhapfpaaGreatDoorD64
namespace Go.Proofs.YtlemjphdhapfpaaGreatDoor
open Go Go.RowKit
set_option linter.unusedVariables false
set_option linter.unusedSimpArgs false

def F.noScale (by_ : Int) : Bool := F.out by_ 1 1000000000

def F.bndOk (s : Seg) : Bool := F.isSum s.begin s.lead (-1000000000000000) 1000000000000000 && decide (0 ≤ s.begin + s.lead)

/-- Where a segment is shown, in milliseconds. -/
def F.bnd (s : Seg) (by_ : Int) : Int := F.scl (s.begin + s.lead) 1000 by_ 1

def F.chkR (r : Rot) : Int :=
  bif F.out r.begin 0 1000000000000000 || F.out r.every 1 1000000000000000 || F.out r.lead 0 1000000000000000 then 1 else bif F.lt 100 r.seed.length then 2 else 0

/-- The period of a time, and the fault. -/
def F.perAt (r : Rot) (t : Int) : Int × Int :=
  bif F.chkR r != 0 then (0, F.chkR r) else bif F.out t 0 1000000000000000 then (0, 1) else bif F.lt t r.begin then (0, 9) else ((t - r.begin) / r.every, 0)

namespace M

theorem seg_i64 {s : Seg} (h : OkA (.agg (eSeg s))) : F.i64B s.begin = true ∧ F.i64B s.lead = true := by
  have h := okA_agg h
  simp only [eSeg, List.forall_mem_cons] at h
  have a1 := okA_int h.2.2.2.1
  have a2 := okA_int h.2.2.2.2.2.2.1
  simp only [F.i64B, Bool.and_eq_true, decide_eq_true_eq]
  exact ⟨a1, a2⟩

noncomputable def enNoS : Env := envH ty noG lks [oOut] [] [] []

theorem enNoS_ok : EnvOK Tryz.prog enNoS := by
  refine envH_ok lks_ok ty_ok ?_ ?_
  · simp only [List.forall_mem_cons]
    exact ⟨okOut, by simp⟩
  · simp

theorem evNoS (n : Int) : (runF enNoS false Tryz.f10 [vI n]).val =
  Option.bind (unenc encOut [(vI n), (vI (1 : Int)), (vI (1000000000 : Int))]) fun (z : Int × Int × Int) => some ((vB (F.out z.fst z.snd.fst z.snd.snd)), []) := (runFR_val).symm.trans (by kernel_rfl)

def encNoS1 (n : Int) : List AV := [vI n]

def encNoS (a : Int) : List AV := encNoS1 a

theorem encNoS_inj (a a' : Int) (h : encNoS a = encNoS a') : a = a' := by
  simp only [encNoS, encNoS1] at h
  try simp [strs_inj, ints_inj, bools_inj, u8s_inj, eEnts_inj, eEnt_iff, eLsts_inj, eLst_iff, eSegs_inj, eSeg_iff, eRots_inj, eRot_iff, eBeats_inj, eBeat_iff, eSpans_inj, eSpan_iff, eHoles_inj, eHole_iff] at h
  grind

theorem unNoS (n : Int) : unenc encNoS ([(vI n)]) = some (n) := unenc_of encNoS_inj (n) rfl

def resNoS1 (n : Int) : AV × Heap := (vB (F.noScale n), [])

def preNoS1 (n : Int) : Bool := true

noncomputable def oNoS : Orc := orc 10 true encNoS (fun a => preNoS1 a) fun a => resNoS1 a

theorem okNoS : OrcOK Tryz.prog noG oNoS := by
  refine mk_ok Tryz.f10 (keep := false) (by kernel_rfl) (by kernel_rfl) enNoS_ok mixed (no_loops (by kernel_rfl)) (by first | exact fun _ _ => ⟨rfl, rfl⟩ | (intro h; cases h)) ?_
  rintro n hpre hok
  show (runF enNoS false _ (encNoS1 _)).val = some (resNoS1 _)
  unfold encNoS1 resNoS1
  rw [evNoS]
  simp only [unOut, preOut1, etaEnt, etaLst, etaSeg, etaRot, etaBeat, etaSpan, etaHole, Option.bind_some, List.length_map, unStrs, unInts, unBools, unU8s, unEnts, unLsts, unSegs, unRots, unBeats, unSpans, unHoles, F.lt, F.le, cond_true, cond_false, Bool.and_true, Bool.true_and, F.noScale]

noncomputable def enBnd : Env := envH ty noG lks [oIsS, oScl] [] [] []

theorem enBnd_ok : EnvOK Tryz.prog enBnd := by
  refine envH_ok lks_ok ty_ok ?_ ?_
  · simp only [List.forall_mem_cons]
    exact ⟨okIsS, okScl, by simp⟩
  · simp

theorem evBnd (s : Seg) (by_ : Int) : (runF enBnd false Tryz.f11 [.agg (eSeg s), vI by_]).val =
  Option.bind (unenc encIsS [(vI s.begin), (vI s.lead), (vI (-1000000000000000 : Int)), (vI (1000000000000000 : Int))]) fun (z : Int × Int × Int × Int) => bif F.i64B z.fst
  && F.i64B z.snd.fst && F.i64B z.snd.snd.fst && F.i64B z.snd.snd.snd then bif !!F.isSum z.fst z.snd.fst z.snd.snd.fst z.snd.snd.snd then bif decide (IntKind.wrap
  IntKind.i64 (s.begin + s.lead) < (0 : Int)) then some (AV.tup [(vI (0 : Int)), (vB false)], []) else Option.bind (unenc encScl [(vI (IntKind.wrap IntKind.i64 (s.begin +
  s.lead))), (vI (1000 : Int)), (vI by_), (vI (1 : Int))]) fun (z : Int × Int × Int × Int) => bif F.i64B z.fst && decide ((0 : Int) ≤ z.snd.fst) && decide (z.snd.fst ≤
  (1000000 : Int)) && decide ((1 : Int) ≤ z.snd.snd.fst) && decide (z.snd.snd.fst ≤ (9223372036854775807 : Int)) && decide (Int.natAbs z.fst * Int.natAbs z.snd.fst <
  (9223372036854775808 : Nat)) then some (AV.tup [(vI (F.scl z.fst z.snd.fst z.snd.snd.fst z.snd.snd.snd)), (vB true)], []) else none else some (AV.tup [(vI (0 : Int)), (vB
  false)], []) else none := (runFR_val).symm.trans (by kernel_rfl)

def encBnd1 (s : Seg) (by_ : Int) : List AV := [.agg (eSeg s), vI by_]

def encBnd (a : Seg × Int) : List AV := encBnd1 a.1 a.2

theorem encBnd_inj (a a' : Seg × Int) (h : encBnd a = encBnd a') : a = a' := by
  simp only [encBnd, encBnd1] at h
  try simp [strs_inj, ints_inj, bools_inj, u8s_inj, eEnts_inj, eEnt_iff, eLsts_inj, eLst_iff, eSegs_inj, eSeg_iff, eRots_inj, eRot_iff, eBeats_inj, eBeat_iff, eSpans_inj, eSpan_iff, eHoles_inj, eHole_iff] at h
  grind

theorem unBnd (s : Seg) (by_ : Int) : unenc encBnd ([AV.agg [(vI s.number), (vI s.fr), (vI s.to), (vI s.begin), (vI s.length), (vI s.bytes), (vI s.lead)], (vI by_)]) = some (s, by_) := unenc_of encBnd_inj (s, by_) rfl

theorem unBndw (s_number : Int) (s_fr : Int) (s_to : Int) (s_begin : Int) (s_length : Int) (s_bytes : Int) (s_lead : Int) (by_ : Int) : unenc encBnd ([AV.agg [(vI s_number), (vI s_fr), (vI s_to), (vI s_begin), (vI s_length), (vI s_bytes), (vI s_lead)], (vI by_)]) = some ((Seg.mk s_number s_fr s_to s_begin s_length s_bytes s_lead), by_) := unenc_of encBnd_inj ((Seg.mk s_number s_fr s_to s_begin s_length s_bytes s_lead), by_) rfl

def resBnd1 (s : Seg) (by_ : Int) : AV × Heap := (.tup [vI (bif F.bndOk s then F.bnd s by_ else 0), vB (F.bndOk s)], [])

def preBnd1 (s : Seg) (by_ : Int) : Bool := !F.noScale by_

noncomputable def oBnd : Orc := orc 11 true encBnd (fun a => preBnd1 a.1 a.2) fun a => resBnd1 a.1 a.2

theorem okBnd : OrcOK Tryz.prog noG oBnd := by
  refine mk_ok Tryz.f11 (keep := false) (by kernel_rfl) (by kernel_rfl) enBnd_ok mixed (no_loops (by kernel_rfl)) (by first | exact fun _ _ => ⟨rfl, rfl⟩ | (intro h; cases h)) ?_
  rintro ⟨s, by_⟩ hpre hok
  show (runF enBnd false _ (encBnd1 _ _)).val = some (resBnd1 _ _)
  unfold encBnd1 resBnd1
  rw [evBnd]
  obtain ⟨g1, g2⟩ := seg_i64 (hok _ (List.mem_cons_self ..))
  have g3 : F.i64B (-1000000000000000) = true := by decide
  have g4 : F.i64B 1000000000000000 = true := by decide
  simp only [preBnd1, F.noScale, F.out, Bool.not_eq_true', Bool.or_eq_false_iff, decide_eq_false_iff_not] at hpre
  simp only [unIsS, unScl, preIsS1, preScl1, etaEnt, etaLst, etaSeg, etaRot, etaBeat, etaSpan, etaHole, Option.bind_some, List.length_map, unStrs, unInts, unBools, unU8s, unEnts, unLsts, unSegs, unRots, unBeats, unSpans, unHoles, F.lt, F.le, cond_true, cond_false, Bool.and_true, Bool.true_and, g1, g2, g3, g4, Bool.and_self]
  unfold F.bndOk F.bnd
  cases h : F.isSum s.begin s.lead (-1000000000000000) 1000000000000000
  · simp
  · simp only [F.isSum, Bool.and_eq_true, decide_eq_true_eq] at h
    have w : IntKind.i64.wrap (s.begin + s.lead) = s.begin + s.lead := wrap_id (by omega) (by omega)
    rw [w]
    by_cases h0 : s.begin + s.lead < 0
    · have h1 : ¬ 0 ≤ s.begin + s.lead := by omega
      simp [h0, h1]
    · have h1 : 0 ≤ s.begin + s.lead := by omega
      have a1 : F.i64B (s.begin + s.lead) = true := by simp only [F.i64B, Bool.and_eq_true, decide_eq_true_eq]; omega
      have a2 : (s.begin + s.lead).natAbs * 1000 < 9223372036854775808 := by omega
      have a3 : (1 : Int) ≤ by_ := by omega
      have a4 : by_ ≤ (9223372036854775807 : Int) := by omega
      simp [h0, h1, a1, a2, a3, a4]

noncomputable def enCkR : Env := envH ty noG lks [oOut] [] [] []

theorem enCkR_ok : EnvOK Tryz.prog enCkR := by
  refine envH_ok lks_ok ty_ok ?_ ?_
  · simp only [List.forall_mem_cons]
    exact ⟨okOut, by simp⟩
  · simp

theorem evCkR (r : Rot) : (runF enCkR false Tryz.f12 [.agg (eRot r)]).val =
  Option.bind (unenc encOut [(vI r.begin), (vI (0 : Int)), (vI (1000000000000000 : Int))]) fun (z : Int × Int × Int) => bif !F.out z.fst z.snd.fst z.snd.snd then Option.bind
  (unenc encOut [(vI r.every), (vI (1 : Int)), (vI (1000000000000000 : Int))]) fun (z : Int × Int × Int) => bif !F.out z.fst z.snd.fst z.snd.snd then Option.bind (unenc
  encOut [(vI r.lead), (vI (0 : Int)), (vI (1000000000000000 : Int))]) fun (z : Int × Int × Int) => bif F.out z.fst z.snd.fst z.snd.snd then some ((vI (1 : Int)), []) else
  bif decide ((100 : Int) < (↑(List.length (List.map eU8 r.seed)) : Int)) then some ((vI (2 : Int)), []) else some ((vI (0 : Int)), []) else some ((vI (1 : Int)), []) else
  some ((vI (1 : Int)), []) := (runFR_val).symm.trans (by kernel_rfl)

def encCkR1 (r : Rot) : List AV := [.agg (eRot r)]

def encCkR (a : Rot) : List AV := encCkR1 a

theorem encCkR_inj (a a' : Rot) (h : encCkR a = encCkR a') : a = a' := by
  simp only [encCkR, encCkR1] at h
  try simp [strs_inj, ints_inj, bools_inj, u8s_inj, eEnts_inj, eEnt_iff, eLsts_inj, eLst_iff, eSegs_inj, eSeg_iff, eRots_inj, eRot_iff, eBeats_inj, eBeat_iff, eSpans_inj, eSpan_iff, eHoles_inj, eHole_iff] at h
  grind

theorem unCkR (r : Rot) : unenc encCkR ([AV.agg [(vI r.begin), (vI r.every), (vI r.lead), AV.sl (List.map eU8 r.seed)]]) = some (r) := unenc_of encCkR_inj (r) rfl

theorem unCkRw (r_begin : Int) (r_every : Int) (r_lead : Int) (r_seed : List Int) : unenc encCkR ([AV.agg [(vI r_begin), (vI r_every), (vI r_lead), AV.sl (List.map eU8 r_seed)]]) = some ((Rot.mk r_begin r_every r_lead r_seed)) := unenc_of encCkR_inj ((Rot.mk r_begin r_every r_lead r_seed)) rfl

def resCkR1 (r : Rot) : AV × Heap := (vI (F.chkR r), [])

def preCkR1 (r : Rot) : Bool := true

noncomputable def oCkR : Orc := orc 12 true encCkR (fun a => preCkR1 a) fun a => resCkR1 a

theorem okCkR : OrcOK Tryz.prog noG oCkR := by
  refine mk_ok Tryz.f12 (keep := false) (by kernel_rfl) (by kernel_rfl) enCkR_ok mixed (no_loops (by kernel_rfl)) (by first | exact fun _ _ => ⟨rfl, rfl⟩ | (intro h; cases h)) ?_
  rintro r hpre hok
  show (runF enCkR false _ (encCkR1 _)).val = some (resCkR1 _)
  unfold encCkR1 resCkR1
  rw [evCkR]
  simp only [unOut, preOut1, etaEnt, etaLst, etaSeg, etaRot, etaBeat, etaSpan, etaHole, Option.bind_some, List.length_map, unStrs, unInts, unBools, unU8s, unEnts, unLsts, unSegs, unRots, unBeats, unSpans, unHoles, F.lt, F.le, cond_true, cond_false, Bool.and_true, Bool.true_and, F.chkR, F.lt]
  cases F.out r.begin 0 1000000000000000 <;> cases F.out r.every 1 1000000000000000 <;> cases F.out r.lead 0 1000000000000000 <;> simp <;> cases decide ((100 : Int) < (r.seed.length : Int)) <;> rfl

noncomputable def enPer : Env := envH ty noG lks [oOut, oCkR] [] [] []

theorem enPer_ok : EnvOK Tryz.prog enPer := by
  refine envH_ok lks_ok ty_ok ?_ ?_
  · simp only [List.forall_mem_cons]
    exact ⟨okOut, okCkR, by simp⟩
  · simp

theorem evPer (r : Rot) (t : Int) : (runF enPer false Tryz.f13 [.agg (eRot r), vI t]).val =
  Option.bind (unenc encCkR [AV.agg [(vI r.begin), (vI r.every), (vI r.lead), AV.sl (List.map eU8 r.seed)]]) fun (z : Rot) => bif F.chkR z != (0 : Int) then some (AV.tup
  [(vI (0 : Int)), (vI (F.chkR z))], []) else Option.bind (unenc encOut [(vI t), (vI (0 : Int)), (vI (1000000000000000 : Int))]) fun (z : Int × Int × Int) => bif F.out z.fst
  z.snd.fst z.snd.snd then some (AV.tup [(vI (0 : Int)), (vI (1 : Int))], []) else bif decide (t < r.begin) then some (AV.tup [(vI (0 : Int)), (vI (9 : Int))], []) else bif
  r.every == (0 : Int) then none else some (AV.tup [(vI (IntKind.wrap IntKind.i64 (Int.tdiv (IntKind.wrap IntKind.i64 (t - r.begin)) r.every))), (vI (0 : Int))], []) := (runFR_val).symm.trans (by kernel_rfl)

def encPer1 (r : Rot) (t : Int) : List AV := [.agg (eRot r), vI t]

def encPer (a : Rot × Int) : List AV := encPer1 a.1 a.2

theorem encPer_inj (a a' : Rot × Int) (h : encPer a = encPer a') : a = a' := by
  simp only [encPer, encPer1] at h
  try simp [strs_inj, ints_inj, bools_inj, u8s_inj, eEnts_inj, eEnt_iff, eLsts_inj, eLst_iff, eSegs_inj, eSeg_iff, eRots_inj, eRot_iff, eBeats_inj, eBeat_iff, eSpans_inj, eSpan_iff, eHoles_inj, eHole_iff] at h
  grind

theorem unPer (r : Rot) (t : Int) : unenc encPer ([AV.agg [(vI r.begin), (vI r.every), (vI r.lead), AV.sl (List.map eU8 r.seed)], (vI t)]) = some (r, t) := unenc_of encPer_inj (r, t) rfl

theorem unPerw (r_begin : Int) (r_every : Int) (r_lead : Int) (r_seed : List Int) (t : Int) : unenc encPer ([AV.agg [(vI r_begin), (vI r_every), (vI r_lead), AV.sl (List.map eU8 r_seed)], (vI t)]) = some ((Rot.mk r_begin r_every r_lead r_seed), t) := unenc_of encPer_inj ((Rot.mk r_begin r_every r_lead r_seed), t) rfl

def resPer1 (r : Rot) (t : Int) : AV × Heap := (.tup [vI (F.perAt r t).1, vI (F.perAt r t).2], [])

def prePer1 (r : Rot) (t : Int) : Bool := true

noncomputable def oPer : Orc := orc 13 true encPer (fun a => prePer1 a.1 a.2) fun a => resPer1 a.1 a.2

theorem okPer : OrcOK Tryz.prog noG oPer := by
  refine mk_ok Tryz.f13 (keep := false) (by kernel_rfl) (by kernel_rfl) enPer_ok mixed (no_loops (by kernel_rfl)) (by first | exact fun _ _ => ⟨rfl, rfl⟩ | (intro h; cases h)) ?_
  rintro ⟨r, t⟩ hpre hok
  show (runF enPer false _ (encPer1 _ _)).val = some (resPer1 _ _)
  unfold encPer1 resPer1
  rw [evPer]
  simp only [unOut, unCkR, unCkRw, preOut1, preCkR1, etaEnt, etaLst, etaSeg, etaRot, etaBeat, etaSpan, etaHole, Option.bind_some, List.length_map, unStrs, unInts, unBools, unU8s, unEnts, unLsts, unSegs, unRots, unBeats, unSpans, unHoles, F.lt, F.le, cond_true, cond_false, Bool.and_true, Bool.true_and, F.perAt, F.lt, bne]
  cases h : F.chkR r == 0
  · simp
  · have h : F.chkR r = 0 := by simpa using h
    have hb : 0 ≤ r.begin ∧ 1 ≤ r.every := by
      unfold F.chkR at h
      cases hc : F.out r.begin 0 1000000000000000 || F.out r.every 1 1000000000000000 || F.out r.lead 0 1000000000000000 with
      | true => rw [hc] at h; simp at h
      | false => simp [F.out] at hc; omega
    cases ho : F.out t 0 1000000000000000
    · simp only [F.out, Bool.or_eq_false_iff, decide_eq_false_iff_not] at ho
      by_cases hl : t < r.begin
      · simp [hl]
      · have w : IntKind.i64.wrap (t - r.begin) = t - r.begin := wrap_id (by omega) (by omega)
        have hd : (t - r.begin) / r.every ≤ t - r.begin := Int.ediv_le_self _ (by omega)
        have hd0 : 0 ≤ (t - r.begin) / r.every := Int.ediv_nonneg (by omega) (by omega)
        have w2 : IntKind.i64.wrap ((t - r.begin) / r.every) = (t - r.begin) / r.every := wrap_id (by omega) (by omega)
        have he : (r.every == 0) = false := by rw [beq_eq_false_iff_ne]; omega
        simp [hl, w, tdiv_nn (show 0 ≤ t - r.begin by omega), w2, he]
    · simp

end M
end Go.Proofs.YtlemjphdhapfpaaGreatDoor
