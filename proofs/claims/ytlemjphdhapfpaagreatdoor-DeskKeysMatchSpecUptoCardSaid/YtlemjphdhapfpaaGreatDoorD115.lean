/- What is proved here: what the reference's rotations, scales and placed return (no statement of the seat). -/
import Derived.Test.YtlemjphdhapfpaaGreatDoorD114
import Derived.Test.YtlemjphdhapfpaaGreatDoorD85
namespace Go.Proofs.YtlemjphdhapfpaaGreatDoor
open Go Go.RowKit
set_option linter.unusedVariables false
set_option linter.unusedSimpArgs false

/-- The place of a number in increasing ones. -/
def F.plK (l : List Int) (n : Int) : Nat → Nat
  | 0 => 0
  | k + 1 => bif decide (n ≤ l.getD k 0) then F.plK l n k else k + 1

theorem F.plK_le (l : List Int) (n : Int) : ∀ k, F.plK l n k ≤ k
  | 0 => Nat.le_refl _
  | k + 1 => by
    have := F.plK_le l n k
    rw [F.plK]
    cases decide (n ≤ l.getD k 0)
    · exact Nat.le_refl _
    · exact Nat.le_succ_of_le this

def F.plcB (l : List Int) (n : Int) : Bool := decide (F.plK l n l.length < l.length) && (l.getD (F.plK l n l.length) 0 == n)

/-- A number put in its place. -/
def F.plc (l : List Int) (n : Int) : List Int := bif F.plcB l n then l else l.take (F.plK l n l.length) ++ n :: l.drop (F.plK l n l.length)

namespace M

theorem evWi8 (n : Int) (l : Int) (h : Int) : (runF en0 false Tryz.f43 [vI n, vI l, vI h]).val =
  some ((vB (bif decide (l ≤ n) then decide (n ≤ h) else false)), []) := (runFR_val).symm.trans (by kernel_rfl)

def encWi81 (n : Int) (l : Int) (h : Int) : List AV := [vI n, vI l, vI h]

def encWi8 (a : Int × Int × Int) : List AV := encWi81 a.1 a.2.1 a.2.2

theorem encWi8_inj (a a' : Int × Int × Int) (h : encWi8 a = encWi8 a') : a = a' := by
  simp only [encWi8, encWi81] at h
  try simp [strs_inj, ints_inj, bools_inj, u8s_inj, eEnts_inj, eEnt_iff, eLsts_inj, eLst_iff, eSegs_inj, eSeg_iff, eRots_inj, eRot_iff, eBeats_inj, eBeat_iff, eSpans_inj, eSpan_iff, eHoles_inj, eHole_iff] at h
  grind

theorem unWi8 (n : Int) (l : Int) (h : Int) : unenc encWi8 ([(vI n), (vI l), (vI h)]) = some (n, l, h) := unenc_of encWi8_inj (n, l, h) rfl

def resWi81 (n : Int) (l : Int) (h : Int) : AV × Heap := (vB (F.within n l h), [])

def preWi81 (n : Int) (l : Int) (h : Int) : Bool := true

noncomputable def oWi8 : Orc := orc 43 true encWi8 (fun a => preWi81 a.1 a.2.1 a.2.2) fun a => resWi81 a.1 a.2.1 a.2.2

theorem okWi8 : OrcOK Tryz.prog noG oWi8 := by
  refine mk_ok Tryz.f43 (keep := false) (by kernel_rfl) (by kernel_rfl) en0_ok mixed (no_loops (by kernel_rfl)) (by first | exact fun _ _ => ⟨rfl, rfl⟩ | (intro h; cases h)) ?_
  rintro ⟨n, l, h⟩ hpre hok
  show (runF en0 false _ (encWi81 _ _ _)).val = some (resWi81 _ _ _)
  unfold encWi81 resWi81
  rw [evWi8]
  simp only [etaEnt, etaLst, etaSeg, etaRot, etaBeat, etaSpan, etaHole, Option.bind_some, List.length_map, unStrs, unInts, unBools, unU8s, unEnts, unLsts, unSegs, unRots, unBeats, unSpans, unHoles, F.lt, F.le, cond_true, cond_false, Bool.and_true, Bool.true_and, F.within]
  cases decide (l ≤ n) <;> rfl

theorem evIsc (n : Int) : (runF en0 false Tryz.f19 [vI n]).val =
  some ((vB (bif decide ((1 : Int) ≤ n) then decide (n ≤ (1000000000 : Int)) else false)), []) := (runFR_val).symm.trans (by kernel_rfl)

def encIsc1 (n : Int) : List AV := [vI n]

def encIsc (a : Int) : List AV := encIsc1 a

theorem encIsc_inj (a a' : Int) (h : encIsc a = encIsc a') : a = a' := by
  simp only [encIsc, encIsc1] at h
  try simp [strs_inj, ints_inj, bools_inj, u8s_inj, eEnts_inj, eEnt_iff, eLsts_inj, eLst_iff, eSegs_inj, eSeg_iff, eRots_inj, eRot_iff, eBeats_inj, eBeat_iff, eSpans_inj, eSpan_iff, eHoles_inj, eHole_iff] at h
  grind

theorem unIsc (n : Int) : unenc encIsc ([(vI n)]) = some (n) := unenc_of encIsc_inj (n) rfl

def resIsc1 (n : Int) : AV × Heap := (vB (!F.noScale n), [])

def preIsc1 (n : Int) : Bool := true

noncomputable def oIsc : Orc := orc 19 true encIsc (fun a => preIsc1 a) fun a => resIsc1 a

theorem okIsc : OrcOK Tryz.prog noG oIsc := by
  refine mk_ok Tryz.f19 (keep := false) (by kernel_rfl) (by kernel_rfl) en0_ok mixed (no_loops (by kernel_rfl)) (by first | exact fun _ _ => ⟨rfl, rfl⟩ | (intro h; cases h)) ?_
  rintro n hpre hok
  show (runF en0 false _ (encIsc1 _)).val = some (resIsc1 _)
  unfold encIsc1 resIsc1
  rw [evIsc]
  simp only [etaEnt, etaLst, etaSeg, etaRot, etaBeat, etaSpan, etaHole, Option.bind_some, List.length_map, unStrs, unInts, unBools, unU8s, unEnts, unLsts, unSegs, unRots, unBeats, unSpans, unHoles, F.lt, F.le, cond_true, cond_false, Bool.and_true, Bool.true_and, F.noScale, F.out]
  have e1 : decide (1 ≤ n) = !decide (n < 1) := by by_cases h : n < 1 <;> simp [h] <;> omega
  have e2 : decide (n ≤ 1000000000) = !decide (1000000000 < n) := by by_cases h : (1000000000 : Int) < n <;> simp [h] <;> omega
  rw [e1, e2]
  cases decide (n < 1) <;> cases decide ((1000000000 : Int) < n) <;> rfl

noncomputable def enRCk : Env := envH ty noG lks [oWi8] [] [] []

theorem enRCk_ok : EnvOK Tryz.prog enRCk := by
  refine envH_ok lks_ok ty_ok ?_ ?_
  · simp only [List.forall_mem_cons]
    exact ⟨okWi8, by simp⟩
  · simp

theorem evRCk (r : Rot) : (runF enRCk false Tryz.f23 [.agg (eRot r)]).val =
  Option.bind (unenc encWi8 [(vI r.begin), (vI (0 : Int)), (vI (1000000000000000 : Int))]) fun (z : Int × Int × Int) => bif !!F.within z.fst z.snd.fst z.snd.snd then
  Option.bind (unenc encWi8 [(vI r.every), (vI (1 : Int)), (vI (1000000000000000 : Int))]) fun (z : Int × Int × Int) => bif !!F.within z.fst z.snd.fst z.snd.snd then
  Option.bind (unenc encWi8 [(vI r.lead), (vI (0 : Int)), (vI (1000000000000000 : Int))]) fun (z : Int × Int × Int) => bif !F.within z.fst z.snd.fst z.snd.snd then some ((vI
  (1 : Int)), []) else bif decide ((100 : Int) < (↑(List.length (List.map eU8 r.seed)) : Int)) then some ((vI (2 : Int)), []) else some ((vI (0 : Int)), []) else some ((vI
  (1 : Int)), []) else some ((vI (1 : Int)), []) := (runFR_val).symm.trans (by kernel_rfl)

def encRCk1 (r : Rot) : List AV := [.agg (eRot r)]

def encRCk (a : Rot) : List AV := encRCk1 a

theorem encRCk_inj (a a' : Rot) (h : encRCk a = encRCk a') : a = a' := by
  simp only [encRCk, encRCk1] at h
  try simp [strs_inj, ints_inj, bools_inj, u8s_inj, eEnts_inj, eEnt_iff, eLsts_inj, eLst_iff, eSegs_inj, eSeg_iff, eRots_inj, eRot_iff, eBeats_inj, eBeat_iff, eSpans_inj, eSpan_iff, eHoles_inj, eHole_iff] at h
  grind

theorem unRCk (r : Rot) : unenc encRCk ([AV.agg [(vI r.begin), (vI r.every), (vI r.lead), AV.sl (List.map eU8 r.seed)]]) = some (r) := unenc_of encRCk_inj (r) rfl

theorem unRCkw (r_begin : Int) (r_every : Int) (r_lead : Int) (r_seed : List Int) : unenc encRCk ([AV.agg [(vI r_begin), (vI r_every), (vI r_lead), AV.sl (List.map eU8 r_seed)]]) = some ((Rot.mk r_begin r_every r_lead r_seed)) := unenc_of encRCk_inj ((Rot.mk r_begin r_every r_lead r_seed)) rfl

def resRCk1 (r : Rot) : AV × Heap := (vI (F.chkR r), [])

def preRCk1 (r : Rot) : Bool := true

noncomputable def oRCk : Orc := orc 23 true encRCk (fun a => preRCk1 a) fun a => resRCk1 a

theorem okRCk : OrcOK Tryz.prog noG oRCk := by
  refine mk_ok Tryz.f23 (keep := false) (by kernel_rfl) (by kernel_rfl) enRCk_ok mixed (no_loops (by kernel_rfl)) (by first | exact fun _ _ => ⟨rfl, rfl⟩ | (intro h; cases h)) ?_
  rintro r hpre hok
  show (runF enRCk false _ (encRCk1 _)).val = some (resRCk1 _)
  unfold encRCk1 resRCk1
  rw [evRCk]
  simp only [unWi8, preWi81, etaEnt, etaLst, etaSeg, etaRot, etaBeat, etaSpan, etaHole, Option.bind_some, List.length_map, unStrs, unInts, unBools, unU8s, unEnts, unLsts, unSegs, unRots, unBeats, unSpans, unHoles, F.lt, F.le, cond_true, cond_false, Bool.and_true, Bool.true_and, F.chkR, F.lt, F.within_eq]
  cases F.out r.begin 0 1000000000000000 <;> cases F.out r.every 1 1000000000000000 <;> cases F.out r.lead 0 1000000000000000 <;> simp <;> cases decide ((100 : Int) < (r.seed.length : Int)) <;> rfl

noncomputable def enRPe : Env := envH ty noG lks [oWi8, oRCk] [] [] []

theorem enRPe_ok : EnvOK Tryz.prog enRPe := by
  refine envH_ok lks_ok ty_ok ?_ ?_
  · simp only [List.forall_mem_cons]
    exact ⟨okWi8, okRCk, by simp⟩
  · simp

theorem evRPe (r : Rot) (t : Int) : (runF enRPe false Tryz.f24 [.agg (eRot r), vI t]).val =
  Option.bind (unenc encRCk [AV.agg [(vI r.begin), (vI r.every), (vI r.lead), AV.sl (List.map eU8 r.seed)]]) fun (z : Rot) => bif F.chkR z != (0 : Int) then some (AV.tup
  [(vI (0 : Int)), (vI (F.chkR z))], []) else Option.bind (unenc encWi8 [(vI t), (vI (0 : Int)), (vI (1000000000000000 : Int))]) fun (z : Int × Int × Int) => bif !F.within
  z.fst z.snd.fst z.snd.snd then some (AV.tup [(vI (0 : Int)), (vI (1 : Int))], []) else bif decide (t < r.begin) then some (AV.tup [(vI (0 : Int)), (vI (9 : Int))], [])
  else bif r.every == (0 : Int) then none else some (AV.tup [(vI (IntKind.wrap IntKind.i64 (Int.tdiv (IntKind.wrap IntKind.i64 (t - r.begin)) r.every))), (vI (0 : Int))],
  []) := (runFR_val).symm.trans (by kernel_rfl)

def encRPe1 (r : Rot) (t : Int) : List AV := [.agg (eRot r), vI t]

def encRPe (a : Rot × Int) : List AV := encRPe1 a.1 a.2

theorem encRPe_inj (a a' : Rot × Int) (h : encRPe a = encRPe a') : a = a' := by
  simp only [encRPe, encRPe1] at h
  try simp [strs_inj, ints_inj, bools_inj, u8s_inj, eEnts_inj, eEnt_iff, eLsts_inj, eLst_iff, eSegs_inj, eSeg_iff, eRots_inj, eRot_iff, eBeats_inj, eBeat_iff, eSpans_inj, eSpan_iff, eHoles_inj, eHole_iff] at h
  grind

theorem unRPe (r : Rot) (t : Int) : unenc encRPe ([AV.agg [(vI r.begin), (vI r.every), (vI r.lead), AV.sl (List.map eU8 r.seed)], (vI t)]) = some (r, t) := unenc_of encRPe_inj (r, t) rfl

theorem unRPew (r_begin : Int) (r_every : Int) (r_lead : Int) (r_seed : List Int) (t : Int) : unenc encRPe ([AV.agg [(vI r_begin), (vI r_every), (vI r_lead), AV.sl (List.map eU8 r_seed)], (vI t)]) = some ((Rot.mk r_begin r_every r_lead r_seed), t) := unenc_of encRPe_inj ((Rot.mk r_begin r_every r_lead r_seed), t) rfl

def resRPe1 (r : Rot) (t : Int) : AV × Heap := (.tup [vI (F.perAt r t).1, vI (F.perAt r t).2], [])

def preRPe1 (r : Rot) (t : Int) : Bool := true

noncomputable def oRPe : Orc := orc 24 true encRPe (fun a => preRPe1 a.1 a.2) fun a => resRPe1 a.1 a.2

theorem okRPe : OrcOK Tryz.prog noG oRPe := by
  refine mk_ok Tryz.f24 (keep := false) (by kernel_rfl) (by kernel_rfl) enRPe_ok mixed (no_loops (by kernel_rfl)) (by first | exact fun _ _ => ⟨rfl, rfl⟩ | (intro h; cases h)) ?_
  rintro ⟨r, t⟩ hpre hok
  show (runF enRPe false _ (encRPe1 _ _)).val = some (resRPe1 _ _)
  unfold encRPe1 resRPe1
  rw [evRPe]
  simp only [unWi8, unRCk, unRCkw, preWi81, preRCk1, etaEnt, etaLst, etaSeg, etaRot, etaBeat, etaSpan, etaHole, Option.bind_some, List.length_map, unStrs, unInts, unBools, unU8s, unEnts, unLsts, unSegs, unRots, unBeats, unSpans, unHoles, F.lt, F.le, cond_true, cond_false, Bool.and_true, Bool.true_and, F.perAt, F.lt, bne, F.within_eq]
  cases h : F.chkR r == 0
  · simp
  · have h : F.chkR r = 0 := by simpa using h
    have hb : 0 ≤ r.begin ∧ 1 ≤ r.every := by
      unfold F.chkR at h
      cases hc : F.out r.begin 0 1000000000000000 || F.out r.every 1 1000000000000000 || F.out r.lead 0 1000000000000000 with
      | true => rw [hc] at h; simp at h
      | false => simp [F.out] at hc; omega
    cases ho : F.out t 0 1000000000000000
    · simp only [F.out, Bool.or_eq_false_iff, decide_eq_false_iff_not] at ho
      by_cases hl : t < r.begin
      · simp [hl]
      · have w : IntKind.i64.wrap (t - r.begin) = t - r.begin := wrap_id (by omega) (by omega)
        have hd : (t - r.begin) / r.every ≤ t - r.begin := Int.ediv_le_self _ (by omega)
        have hd0 : 0 ≤ (t - r.begin) / r.every := Int.ediv_nonneg (by omega) (by omega)
        have w2 : IntKind.i64.wrap ((t - r.begin) / r.every) = (t - r.begin) / r.every := wrap_id (by omega) (by omega)
        have he : (r.every == 0) = false := by rw [beq_eq_false_iff_ne]; omega
        simp [hl, w, tdiv_nn (show 0 ≤ t - r.begin by omega), w2, he]
    · simp

theorem allI (l : List Int) : ((l.map eI).all fun r => (List.length r).beq 1) = true := List.all_eq_true.2 fun r hr => by
  obtain ⟨x, _, rfl⟩ := List.mem_map.1 hr
  rfl

theorem app1J (xs : List Int) (a : Int) : xs.map eI ++ [[vI a]] = (xs ++ [a]).map eI := by simp [eI]

def stPlc (l : List Int) (n : Int) (k : Nat) : St := ⟨[(5, vI k), (1, vI n), (0, .sl (l.map eI))], []⟩

def stPlc1 (a : (List Int) × Int × Nat) : St := stPlc a.1 a.2.1 a.2.2

theorem stPlc_inj (a a' : (List Int) × Int × Nat) (h : stPlc1 a = stPlc1 a') : a = a' := by
  simp only [stPlc1, stPlc] at h
  try simp [strs_inj, ints_inj, bools_inj, u8s_inj, eEnts_inj, eEnt_iff, eLsts_inj, eLst_iff, eSegs_inj, eSeg_iff, eRots_inj, eRot_iff, eBeats_inj, eBeat_iff, eSpans_inj, eSpan_iff, eHoles_inj, eHole_iff] at h
  grind

theorem unstPlc (l : List Int) (n : Int) (k : Nat) : unenc stPlc1 (St.mk [(5, (vI (↑k : Int))), (1, (vI n)), (0, AV.sl (List.map eI l))] []) = some (l, n, k) := unenc_of stPlc_inj (l, n, k) rfl

def outPlc (l : List Int) (n : Int) (k : Nat) : T (Ex × St) := .ret (.exit 0, ⟨[(5, vI (F.plK l n k)), (1, vI n), (0, .sl (l.map eI))], []⟩)

noncomputable def prlPlc (l : List Int) (n : Int) (k : Nat) : Bool := decide (l.length ≤ 100000) && decide (k ≤ l.length)

noncomputable def lpPlc : Nat × (St → T (Ex × St)) := (2, lpo [5, 1, 0] [] stPlc1 (fun a => prlPlc a.1 a.2.1 a.2.2) fun a => outPlc a.1 a.2.1 a.2.2)

noncomputable def enPlc : Env := envH ty noG lks [] [] [] [lpPlc]

theorem enPlc_ok : EnvOK Tryz.prog enPlc := by
  refine envH_ok lks_ok ty_ok ?_ ?_
  · simp
  · simp

theorem evPlcL (l : List Int) (n : Int) (k : Nat) : ((exec enPlc (loopN Tryz.f25 0) (stPlc l n k)).bind (lessX ([5, 1, 0], []) ([5, 1, 0], []) ([], []))).val =
  bif decide ((0 : Int) < (↑k : Int)) then Option.bind (idx (IntKind.wrap IntKind.i64 ((↑k : Int) - (1 : Int)))) fun (z : Nat) => Option.bind (unenc (List.map eI) (List.map
  eI l)) fun (z_1 : List Int) => bif decide (z < List.length z_1) then bif decide (n ≤ List.getD z_1 z (0 : Int)) then some (Ex.normal, St.mk [(5, (vI (IntKind.wrap
  IntKind.i64 ((↑k : Int) - (1 : Int))))), (1, (vI n)), (0, AV.sl (List.map eI l))] []) else some (Ex.exit (0 : Nat), St.mk [(5, (vI (↑k : Int))), (1, (vI n)), (0, AV.sl
  (List.map eI l))] []) else none else some (Ex.exit (0 : Nat), St.mk [(5, (vI (↑k : Int))), (1, (vI n)), (0, AV.sl (List.map eI l))] []) := (execR_bind _ _ _).symm.trans (by kernel_rfl)

theorem lpPlc_ok (l : List Int) (n : Int) (k : Nat) (hp : prlPlc l n k = true) : ∀ ex s', (outPlc l n k).val = some (ex, s') → LoopOK enPlc (loopN Tryz.f25 0) (stPlc l n k) ex s' := by
  simp only [prlPlc, Bool.and_eq_true, decide_eq_true_eq] at hp
  refine loop_gen (st := fun k => stPlc l n k) (out := fun k => outPlc l n k) (I := fun k => k ≤ l.length) (n := ([5, 1, 0], [])) (e := ([5, 1, 0], [])) (r := ([], [])) (fun k => k) ?_ k hp.2
  intro k hk
  have h1 := hp.1
  cases k with
  | zero =>
    left
    refine ⟨(.exit 0, ⟨[(5, vI 0), (1, vI n), (0, .sl (l.map eI))], []⟩), ?_, rfl, by simp, rfl⟩
    rw [evPlcL]
    simp
  | succ j =>
    have hlt : j < l.length := hk
    have hy : l[j]? = some l[j] := List.getElem?_eq_getElem hlt
    have hg : l.getD j 0 = l[j] := by simp [hy]
    generalize l[j] = y at hy hg
    have hz : decide ((0 : Int) < ((j + 1 : Nat) : Int)) = true := decide_eq_true (by omega)
    have hw : IntKind.i64.wrap (((j + 1 : Nat) : Int) - 1) = (j : Int) := by rw [wrap_id (by omega) (by omega)]; omega
    have hi : idx ((j : Nat) : Int) = some j := idx_n (by omega)
    cases hc : decide (n ≤ y)
    · left
      refine ⟨(.exit 0, ⟨[(5, vI (j + 1 : Nat)), (1, vI n), (0, .sl (l.map eI))], []⟩), ?_, ?_, by simp, rfl⟩
      · rw [evPlcL]
        simp only [unstPlc, prlPlc, outPlc, etaEnt, etaLst, etaSeg, etaRot, etaBeat, etaSpan, etaHole, Option.bind_some, List.length_map, unStrs, unInts, unBools, unU8s, unEnts, unLsts, unSegs, unRots, unBeats, unSpans, unHoles, F.lt, F.le, cond_true, cond_false, Bool.and_true, Bool.true_and, hz, hw, hi, decide_eq_true hlt, getD_at hy, hc]
      · simp only [outPlc, F.plK, hg, hc]
        rfl
    · right
      refine ⟨j, ?_, rfl, by omega, by omega, ?_⟩
      · rw [evPlcL]
        simp only [unstPlc, prlPlc, outPlc, etaEnt, etaLst, etaSeg, etaRot, etaBeat, etaSpan, etaHole, Option.bind_some, List.length_map, unStrs, unInts, unBools, unU8s, unEnts, unLsts, unSegs, unRots, unBeats, unSpans, unHoles, F.lt, F.le, cond_true, cond_false, Bool.and_true, Bool.true_and, hz, hw, hi, decide_eq_true hlt, getD_at hy, hc, stPlc]
      · simp only [outPlc, F.plK, hg, hc, cond_true]

theorem evPlc (l : List Int) (n : Int) : (runF enPlc false Tryz.f25 [.sl (l.map eI), vI n]).val =
  Option.bind (unenc stPlc1 (St.mk [(5, (vI (↑(List.length (List.map eI l)) : Int))), (1, (vI n)), (0, AV.sl (List.map eI l))] [])) fun (z : List Int × Int × Nat) => bif
  decide (List.length z.fst ≤ (100000 : Nat)) && decide (z.snd.snd ≤ List.length z.fst) && true then bif decide ((↑(F.plK z.fst z.snd.fst z.snd.snd) : Int) < (↑(List.length
  (List.map eI z.fst)) : Int)) then Option.bind (unenc (List.map eI) (List.map eI z.fst)) fun (z_1 : List Int) => bif decide (F.plK z.fst z.snd.fst z.snd.snd < List.length
  z_1) then bif List.getD z_1 (F.plK z.fst z.snd.fst z.snd.snd) (0 : Int) == z.snd.fst then some (AV.sl (List.map eI z.fst), []) else bif Nat.ble (0 : Nat) (F.plK z.fst
  z.snd.fst z.snd.snd) && Nat.ble (F.plK z.fst z.snd.fst z.snd.snd) (List.length (List.map eI z.fst)) && List.all (List.map eI z.fst) fun (r : Row) => Nat.beq (List.length
  r) (1 : Nat) then bif Nat.ble (((0 : Nat) + List.length (List.take (F.plK z.fst z.snd.fst z.snd.snd) (List.map eI z.fst))) * (8 : Nat)) (140737488355328 : Nat) && List.all
  (List.take (F.plK z.fst z.snd.fst z.snd.snd) (List.map eI z.fst)) fun (r : Row) => Nat.beq (List.length r) (TI.mk false (1 : Nat) [] [AV.e0] (3 : Nat) (1 : Nat) (8 : Nat)
  [(vI (0 : Int))] none (4 : Nat) []).esize then bif Nat.ble ((List.length (List.take (F.plK z.fst z.snd.fst z.snd.snd) (List.map eI z.fst)) + (1 : Nat)) * (8 : Nat))
  (140737488355328 : Nat) && true then bif Nat.ble (F.plK z.fst z.snd.fst z.snd.snd) (List.length (List.map eI z.fst)) && Nat.ble (List.length (List.map eI z.fst))
  (List.length (List.map eI z.fst)) && List.all (List.map eI z.fst) fun (r : Row) => Nat.beq (List.length r) (1 : Nat) then bif Nat.ble ((List.length (List.take (F.plK z.fst
  z.snd.fst z.snd.snd) (List.map eI z.fst) ++ [[(vI z.snd.fst)]]) + List.length (List.drop (F.plK z.fst z.snd.fst z.snd.snd) (List.map eI z.fst))) * (8 : Nat))
  (140737488355328 : Nat) && List.all (List.drop (F.plK z.fst z.snd.fst z.snd.snd) (List.map eI z.fst)) fun (r : Row) => Nat.beq (List.length r) (TI.mk false (1 : Nat) []
  [AV.e0] (3 : Nat) (1 : Nat) (8 : Nat) [(vI (0 : Int))] none (4 : Nat) []).esize then some (AV.sl (List.take (F.plK z.fst z.snd.fst z.snd.snd) (List.map eI z.fst) ++ [[(vI
  z.snd.fst)]] ++ List.drop (F.plK z.fst z.snd.fst z.snd.snd) (List.map eI z.fst)), []) else none else none else none else none else none else none else bif Nat.ble (0 :
  Nat) (F.plK z.fst z.snd.fst z.snd.snd) && Nat.ble (F.plK z.fst z.snd.fst z.snd.snd) (List.length (List.map eI z.fst)) && List.all (List.map eI z.fst) fun (r : Row) =>
  Nat.beq (List.length r) (1 : Nat) then bif Nat.ble (((0 : Nat) + List.length (List.take (F.plK z.fst z.snd.fst z.snd.snd) (List.map eI z.fst))) * (8 : Nat))
  (140737488355328 : Nat) && List.all (List.take (F.plK z.fst z.snd.fst z.snd.snd) (List.map eI z.fst)) fun (r : Row) => Nat.beq (List.length r) (TI.mk false (1 : Nat) []
  [AV.e0] (3 : Nat) (1 : Nat) (8 : Nat) [(vI (0 : Int))] none (4 : Nat) []).esize then bif Nat.ble ((List.length (List.take (F.plK z.fst z.snd.fst z.snd.snd) (List.map eI
  z.fst)) + (1 : Nat)) * (8 : Nat)) (140737488355328 : Nat) && true then bif Nat.ble (F.plK z.fst z.snd.fst z.snd.snd) (List.length (List.map eI z.fst)) && Nat.ble
  (List.length (List.map eI z.fst)) (List.length (List.map eI z.fst)) && List.all (List.map eI z.fst) fun (r : Row) => Nat.beq (List.length r) (1 : Nat) then bif Nat.ble
  ((List.length (List.take (F.plK z.fst z.snd.fst z.snd.snd) (List.map eI z.fst) ++ [[(vI z.snd.fst)]]) + List.length (List.drop (F.plK z.fst z.snd.fst z.snd.snd) (List.map
  eI z.fst))) * (8 : Nat)) (140737488355328 : Nat) && List.all (List.drop (F.plK z.fst z.snd.fst z.snd.snd) (List.map eI z.fst)) fun (r : Row) => Nat.beq (List.length r)
  (TI.mk false (1 : Nat) [] [AV.e0] (3 : Nat) (1 : Nat) (8 : Nat) [(vI (0 : Int))] none (4 : Nat) []).esize then some (AV.sl (List.take (F.plK z.fst z.snd.fst z.snd.snd)
  (List.map eI z.fst) ++ [[(vI z.snd.fst)]] ++ List.drop (F.plK z.fst z.snd.fst z.snd.snd) (List.map eI z.fst)), []) else none else none else none else none else none else
  none := (runFR_val).symm.trans (by kernel_rfl)

def encPlc1 (l : List Int) (n : Int) : List AV := [.sl (l.map eI), vI n]

def encPlc (a : (List Int) × Int) : List AV := encPlc1 a.1 a.2

theorem encPlc_inj (a a' : (List Int) × Int) (h : encPlc a = encPlc a') : a = a' := by
  simp only [encPlc, encPlc1] at h
  try simp [strs_inj, ints_inj, bools_inj, u8s_inj, eEnts_inj, eEnt_iff, eLsts_inj, eLst_iff, eSegs_inj, eSeg_iff, eRots_inj, eRot_iff, eBeats_inj, eBeat_iff, eSpans_inj, eSpan_iff, eHoles_inj, eHole_iff] at h
  grind

theorem unPlc (l : List Int) (n : Int) : unenc encPlc ([AV.sl (List.map eI l), (vI n)]) = some (l, n) := unenc_of encPlc_inj (l, n) rfl

def resPlc1 (l : List Int) (n : Int) : AV × Heap := (.sl ((F.plc l n).map eI), [])

def prePlc1 (l : List Int) (n : Int) : Bool := decide (l.length ≤ 100000)

noncomputable def oPlc : Orc := orc 25 false encPlc (fun a => prePlc1 a.1 a.2) fun a => resPlc1 a.1 a.2

theorem okPlc : OrcOK Tryz.prog noG oPlc := by
  refine mk_ok Tryz.f25 (keep := false) (by kernel_rfl) (by kernel_rfl) enPlc_ok mixed (one_loop (x0 := loopN Tryz.f25 0) (by kernel_rfl) (lpo_ok ?_)) (by first | exact fun _ _ => ⟨rfl, rfl⟩ | (intro h; cases h)) ?_
  · rintro ⟨l, n, k⟩ hp
    exact lpPlc_ok l n k hp
  rintro ⟨l, n⟩ hpre hok
  show (runF enPlc false _ (encPlc1 _ _)).val = some (resPlc1 _ _)
  unfold encPlc1 resPlc1
  rw [evPlc]
  have hx : l.length ≤ 100000 := of_decide_eq_true hpre
  have hk := F.plK_le l n l.length
  have hi : idx (F.plK l n l.length : Int) = some (F.plK l n l.length) := idx_n (by omega)
  simp only [unstPlc, prlPlc, outPlc, etaEnt, etaLst, etaSeg, etaRot, etaBeat, etaSpan, etaHole, Option.bind_some, List.length_map, unStrs, unInts, unBools, unU8s, unEnts, unLsts, unSegs, unRots, unBeats, unSpans, unHoles, F.lt, F.le, cond_true, cond_false, Bool.and_true, Bool.true_and, hx, Nat.le_refl, decide_true, hi]
  simp only [← List.map_take, ← List.map_drop, allI, List.length_map, app1J, ← List.map_append]
  have b1 := ble_t (Nat.zero_le (F.plK l n l.length))
  have b2 := ble_t hk
  have b3 := ble_t (Nat.le_refl l.length)
  have b4 : Nat.ble ((0 + (l.take (F.plK l n l.length)).length) * 8) 140737488355328 = true := ble_t (by rw [List.length_take]; omega)
  have b5 : Nat.ble (((l.take (F.plK l n l.length)).length + 1) * 8) 140737488355328 = true := ble_t (by rw [List.length_take]; omega)
  have b6 : Nat.ble (((l.take (F.plK l n l.length) ++ [n]).length + (l.drop (F.plK l n l.length)).length) * 8) 140737488355328 = true := ble_t (by rw [List.length_append, List.length_take, List.length_drop, List.length_singleton]; omega)
  simp only [b1, b2, b3, b4, b5, b6, Bool.and_self, cond_true]
  unfold F.plc F.plcB
  by_cases h : F.plK l n l.length < l.length
  · rw [decide_eq_true h, decide_eq_true (by omega : (F.plK l n l.length : Int) < (l.length : Int))]
    cases l.getD (F.plK l n l.length) 0 == n
    · simp
    · simp
  · rw [decide_eq_false h, decide_eq_false (by omega : ¬ (F.plK l n l.length : Int) < (l.length : Int))]
    simp

end M
end Go.Proofs.YtlemjphdhapfpaaGreatDoor
