/- What is proved here: what the parts of Report of the program return on plain data (no statement of the seat). -/
import Derived.Test.YtnkaadiofjoacaaB11
import Derived.Test.YtnkaadiofjoacaaB60
namespace Go.Proofs.Ytnkaadiofjoacaa
open Go Go.RowKit
set_option linter.unusedVariables false
set_option linter.unusedSimpArgs false
set_option maxHeartbeats 1000000

/-- The number of the first of a list that is asked for. -/
def F.findI {α : Type} (p : α → Bool) (k : Nat) : List α → Option Nat
  | [] => none
  | y :: l => bif p y then some k else F.findI p (k + 1) l

def F.idxI (o : Option Nat) : Int := bif F.found o then ((F.got o 0 : Nat) : Int) else -1

theorem F.idx_any {α : Type} (p : α → Bool) (k : Nat) (l : List α) : decide (0 ≤ F.idxI (F.findI p k l)) = l.any p := by
  have h : F.found (F.findI p k l) = l.any p := by
    induction l generalizing k with
    | nil => rfl
    | cons y l ih =>
      simp only [F.findI, List.any_cons]
      cases p y
      · simp only [cond_false, Bool.false_or]; exact ih (k + 1)
      · rfl
  unfold F.idxI
  rw [h]
  cases l.any p
  · rfl
  · simp only [cond_true]; exact decide_eq_true (by omega)


namespace F

/-- The fault of beats, quiet and a span. -/
def spanF (l : List Beat) (q : Int) (w : Span) : Int :=
  bif quietF l q != 0 then quietF l q else bif F.out w.fr 0 2000000000000 || F.out w.to 0 2000000000000 then 1 else bif decide (w.to ≤ w.fr) then 8 else 0

/-- A stay and a span have a time in common. -/
def meets (w : Span) (s : Stay) : Bool := decide (max s.sp.fr w.fr < min s.sp.to w.to)

def least (l : List Int) (m : Nat) : Int := bif l.length == 0 then 0 else l.getD ((l.length * m + 999) / 1000 - 1) 0

def ratio (x y : Nat) : Ratio := bif y == 0 then ⟨0, 1⟩ else ⟨((x / Nat.gcd x y : Nat) : Int), ((y / Nat.gcd x y : Nat) : Int)⟩

theorem chk3 {l : List Beat} (h : checkB l = 0) : l.length ≤ 3000 := by
  unfold checkB at h
  by_cases h2 : 3000 < l.length
  · rw [decide_eq_true h2, cond_true] at h; cases h
  · omega

end F

namespace M

noncomputable def enSpf : Env := envH ty noG lks [oQuF, oOut] [] [] []

theorem enSpf_ok : EnvOK Try.prog enSpf := by
  refine envH_ok lks_ok ty_ok ?_ ?_
  · simp only [List.forall_mem_cons]
    exact ⟨okQuF, okOut, by simp⟩
  · simp

theorem evSpf (l : List Beat) (q : Int) (w : Span) : (runF enSpf false Try.f22 [.sl (l.map eBeat), vI q, .agg (eSpan w)]).val =
  Option.bind (unenc encQuF [AV.sl (List.map eBeat l), (vI q)]) fun (z : List Beat × Int) => bif F.quietF z.fst z.snd != (0 : Int) then some ((vI (F.quietF z.fst z.snd)),
  []) else Option.bind (unenc encOut [(vI w.fr), (vI (0 : Int)), (vI (2000000000000 : Int))]) fun (z : Int × Int × Int) => bif !F.out z.fst z.snd.fst z.snd.snd then
  Option.bind (unenc encOut [(vI w.to), (vI (0 : Int)), (vI (2000000000000 : Int))]) fun (z : Int × Int × Int) => bif F.out z.fst z.snd.fst z.snd.snd then some ((vI (1 :
  Int)), []) else bif decide (w.to ≤ w.fr) then some ((vI (8 : Int)), []) else some ((vI (0 : Int)), []) else some ((vI (1 : Int)), []) := (runFR_val).symm.trans (by kernel_rfl)

def encSpf1 (l : List Beat) (q : Int) (w : Span) : List AV := [.sl (l.map eBeat), vI q, .agg (eSpan w)]

def encSpf (a : (List Beat) × Int × Span) : List AV := encSpf1 a.1 a.2.1 a.2.2

theorem encSpf_inj (a a' : (List Beat) × Int × Span) (h : encSpf a = encSpf a') : a = a' := by
  simp only [encSpf, encSpf1] at h
  try simp [strs_inj, ints_inj, bools_inj, eL_eIs_inj, eBeats_inj, eBeat_iff, eL_eBeats_inj, eSpans_inj, eSpan_iff, eHoles_inj, eHole_iff, eLevels_inj, eLevel_iff, eFigss_inj, eFigs_iff, eRatios_inj, eRatio_iff, eReps_inj, eRep_iff, eStays_inj, eStay_iff] at h
  grind

theorem unSpf (l : List Beat) (q : Int) (w : Span) : unenc encSpf ([AV.sl (List.map eBeat l), (vI q), AV.agg [(vI w.fr), (vI w.to)]]) = some (l, q, w) := unenc_of encSpf_inj (l, q, w) rfl

theorem unSpfw (l : List Beat) (q : Int) (w_fr : Int) (w_to : Int) : unenc encSpf ([AV.sl (List.map eBeat l), (vI q), AV.agg [(vI w_fr), (vI w_to)]]) = some (l, q, (Span.mk w_fr w_to)) := unenc_of encSpf_inj (l, q, (Span.mk w_fr w_to)) rfl

def resSpf1 (l : List Beat) (q : Int) (w : Span) : AV × Heap := (vI (F.spanF l q w), [])

def preSpf1 (l : List Beat) (q : Int) (w : Span) : Bool := true

noncomputable def oSpf : Orc := orc 22 true encSpf (fun a => preSpf1 a.1 a.2.1 a.2.2) fun a => resSpf1 a.1 a.2.1 a.2.2

theorem okSpf : OrcOK Try.prog noG oSpf := by
  refine mk_ok Try.f22 (keep := false) (by kernel_rfl) (by kernel_rfl) enSpf_ok mixed (no_loops (by kernel_rfl)) (by first | exact fun _ _ => ⟨rfl, rfl⟩ | (intro h; cases h)) ?_
  rintro ⟨l, q, w⟩ hpre hok
  show (runF enSpf false _ (encSpf1 _ _ _)).val = some (resSpf1 _ _ _)
  unfold encSpf1 resSpf1
  rw [evSpf]
  simp only [unQuF, unOut, preQuF1, preOut1, etaBeat, etaSpan, etaHole, etaLevel, etaFigs, etaRatio, etaRep, etaStay, Option.bind_some, List.length_map, unStrs, unInts, unBools, uneL_eIs, unBeats, uneL_eBeats, unSpans, unHoles, unLevels, unFigss, unRatios, unReps, unStays, F.lt, F.le, cond_true, cond_false, Bool.and_true, Bool.true_and, F.spanF]
  cases F.quietF l q != 0
  · cases F.out w.fr 0 2000000000000
    · cases F.out w.to 0 2000000000000
      · cases decide (w.to ≤ w.fr) <;> rfl
      · rfl
    · rfl
  · rfl

theorem evRc1 (s : Stay) (w : Span) : (runF en0 false Try.f38 [.agg (eStay s), .pel (eSpan w) 0]).val =
  some ((vB (decide (max s.sp.fr w.fr < min s.sp.to w.to))), []) := (runFR_val).symm.trans (by kernel_rfl)

def encRc11 (s : Stay) (w : Span) : List AV := [.agg (eStay s), .pel (eSpan w) 0]

def encRc1 (a : Stay × Span) : List AV := encRc11 a.1 a.2

theorem encRc1_inj (a a' : Stay × Span) (h : encRc1 a = encRc1 a') : a = a' := by
  simp only [encRc1, encRc11] at h
  try simp [strs_inj, ints_inj, bools_inj, eL_eIs_inj, eBeats_inj, eBeat_iff, eL_eBeats_inj, eSpans_inj, eSpan_iff, eHoles_inj, eHole_iff, eLevels_inj, eLevel_iff, eFigss_inj, eFigs_iff, eRatios_inj, eRatio_iff, eReps_inj, eRep_iff, eStays_inj, eStay_iff] at h
  grind

theorem unRc1 (s : Stay) (w : Span) : unenc encRc1 ([AV.agg [(vS s.beat.session), (vI s.beat.no), (vI s.beat.time), (vI s.beat.state), (vI s.beat.rate), (vI s.sp.fr), (vI s.sp.to)], AV.pel [(vI w.fr), (vI w.to)] (0 : Nat)]) = some (s, w) := unenc_of encRc1_inj (s, w) rfl

theorem unRc1w (s_beat : Beat) (s_sp : Span) (w_fr : Int) (w_to : Int) : unenc encRc1 ([AV.agg [(vS s_beat.session), (vI s_beat.no), (vI s_beat.time), (vI s_beat.state), (vI s_beat.rate), (vI s_sp.fr), (vI s_sp.to)], AV.pel [(vI w_fr), (vI w_to)] (0 : Nat)]) = some ((Stay.mk s_beat s_sp), (Span.mk w_fr w_to)) := unenc_of encRc1_inj ((Stay.mk s_beat s_sp), (Span.mk w_fr w_to)) rfl

def resRc11 (s : Stay) (w : Span) : AV × Heap := (vB (F.meets w s), [])

def preRc11 (s : Stay) (w : Span) : Bool := true

noncomputable def oRc1 : Orc := orc 38 true encRc1 (fun a => preRc11 a.1 a.2) fun a => resRc11 a.1 a.2

theorem okRc1 : OrcOK Try.prog noG oRc1 := by
  refine mk_ok Try.f38 (keep := false) (by kernel_rfl) (by kernel_rfl) en0_ok mixed (no_loops (by kernel_rfl)) (by first | exact fun _ _ => ⟨rfl, rfl⟩ | (intro h; cases h)) ?_
  rintro ⟨s, w⟩ hpre hok
  show (runF en0 false _ (encRc11 _ _)).val = some (resRc11 _ _)
  unfold encRc11 resRc11
  rw [evRc1]
  rfl

def stIst (l : List Stay) (w : Span) (k : Nat) : St := ⟨[(8, vI k), (7, vI l.length), (1, .fn 38 [.pel (eSpan w) 0]), (0, .sl (l.map eStay))], []⟩

def stIst1 (a : (List Stay) × Span × Nat) : St := stIst a.1 a.2.1 a.2.2

theorem stIst_inj (a a' : (List Stay) × Span × Nat) (h : stIst1 a = stIst1 a') : a = a' := by
  simp only [stIst1, stIst] at h
  try simp [strs_inj, ints_inj, bools_inj, eL_eIs_inj, eBeats_inj, eBeat_iff, eL_eBeats_inj, eSpans_inj, eSpan_iff, eHoles_inj, eHole_iff, eLevels_inj, eLevel_iff, eFigss_inj, eFigs_iff, eRatios_inj, eRatio_iff, eReps_inj, eRep_iff, eStays_inj, eStay_iff] at h
  grind

theorem unstIst (l : List Stay) (w : Span) (k : Nat) : unenc stIst1 (St.mk [(8, (vI (↑k : Int))), (7, (vI (↑(List.length l) : Int))), (1, AV.fn (38 : FuncId) [AV.pel [(vI w.fr), (vI w.to)] (0 : Nat)]), (0, AV.sl (List.map eStay l))] []) = some (l, w, k) := unenc_of stIst_inj (l, w, k) rfl

theorem unstIst0 (l : List Stay) (w : Span)  : unenc stIst1 (St.mk [(8, (vI (0 : Int))), (7, (vI (↑(List.length l) : Int))), (1, AV.fn (38 : FuncId) [AV.pel [(vI w.fr), (vI w.to)] (0 : Nat)]), (0, AV.sl (List.map eStay l))] []) = some (l, w, 0) := unenc_of stIst_inj (l, w, 0) rfl

def outIst (l : List Stay) (w : Span) (k : Nat) : T (Ex × St) := .ifB (F.found (F.findI (F.meets w) k (l.drop k))) (.ret (.ret, ⟨[(4, vI ((F.got (F.findI (F.meets w) k (l.drop k)) 0 : Nat) : Int))], []⟩)) (.ret (.exit 0, ⟨[], []⟩))

noncomputable def prlIst (l : List Stay) (w : Span) (k : Nat) : Bool := decide (l.length ≤ 9223372036854775807) && decide (k ≤ l.length)

noncomputable def lpIst : Nat × (St → T (Ex × St)) := (2, lpo [8, 7, 1, 0] [] stIst1 (fun a => prlIst a.1 a.2.1 a.2.2) fun a => outIst a.1 a.2.1 a.2.2)

noncomputable def enIst : Env := envH ty noG lks [oRc1] [] [] [lpIst]

theorem enIst_ok : EnvOK Try.prog enIst := by
  refine envH_ok lks_ok ty_ok ?_ ?_
  · simp only [List.forall_mem_cons]
    exact ⟨okRc1, by simp⟩
  · simp

theorem evIstL (l : List Stay) (w : Span) (k : Nat) : ((exec enIst (loopN Try.f53 0) (stIst l w k)).bind (lessX ([8, 7, 1, 0], []) ([], []) ([4], []))).val =
  bif decide ((↑k : Int) < (↑(List.length l) : Int)) then Option.bind (unenc (List.map eStay) (List.map eStay l)) fun (z : List Stay) => bif decide (k < List.length z) then
  Option.bind (unenc encRc1 [AV.agg [(vS (List.getD z k (Stay.mk (Beat.mk (ByteArray.mk (Array.mk [])) (0 : Int) (0 : Int) (0 : Int) (0 : Int)) (Span.mk (0 : Int) (0 :
  Int)))).beat.session), (vI (List.getD z k (Stay.mk (Beat.mk (ByteArray.mk (Array.mk [])) (0 : Int) (0 : Int) (0 : Int) (0 : Int)) (Span.mk (0 : Int) (0 : Int)))).beat.no),
  (vI (List.getD z k (Stay.mk (Beat.mk (ByteArray.mk (Array.mk [])) (0 : Int) (0 : Int) (0 : Int) (0 : Int)) (Span.mk (0 : Int) (0 : Int)))).beat.time), (vI (List.getD z k
  (Stay.mk (Beat.mk (ByteArray.mk (Array.mk [])) (0 : Int) (0 : Int) (0 : Int) (0 : Int)) (Span.mk (0 : Int) (0 : Int)))).beat.state), (vI (List.getD z k (Stay.mk (Beat.mk
  (ByteArray.mk (Array.mk [])) (0 : Int) (0 : Int) (0 : Int) (0 : Int)) (Span.mk (0 : Int) (0 : Int)))).beat.rate), (vI (List.getD z k (Stay.mk (Beat.mk (ByteArray.mk
  (Array.mk [])) (0 : Int) (0 : Int) (0 : Int) (0 : Int)) (Span.mk (0 : Int) (0 : Int)))).sp.fr), (vI (List.getD z k (Stay.mk (Beat.mk (ByteArray.mk (Array.mk [])) (0 : Int)
  (0 : Int) (0 : Int) (0 : Int)) (Span.mk (0 : Int) (0 : Int)))).sp.to)], AV.pel [(vI w.fr), (vI w.to)] (0 : Nat)]) fun (z : Stay × Span) => bif F.meets z.snd z.fst then
  some (Ex.ret, St.mk [(4, (vI (↑k : Int)))] []) else some (Ex.normal, St.mk [(8, (vI (IntKind.wrap IntKind.i64 ((↑k : Int) + (1 : Int))))), (7, (vI (↑(List.length l) :
  Int))), (1, AV.fn (38 : FuncId) [AV.pel [(vI w.fr), (vI w.to)] (0 : Nat)]), (0, AV.sl (List.map eStay l))] []) else none else some (Ex.exit (0 : Nat), St.mk [] []) := (execR_bind _ _ _).symm.trans (by kernel_rfl)

theorem lpIst_ok (l : List Stay) (w : Span) (k : Nat) (hp : prlIst l w k = true) : ∀ ex s', (outIst l w k).val = some (ex, s') → LoopOK enIst (loopN Try.f53 0) (stIst l w k) ex s' := by
  simp only [prlIst, Bool.and_eq_true, decide_eq_true_eq] at hp
  refine loop_gen (st := stIst l w) (out := outIst l w) (I := fun k => k ≤ l.length) (n := ([8, 7, 1, 0], [])) (e := ([], [])) (r := ([4], [])) (fun k => l.length - k) ?_ k hp.2
  intro k hk
  by_cases hlt : k < l.length
  · have hy : l[k]? = some l[k] := List.getElem?_eq_getElem hlt
    generalize l[k] = y at hy
    have hd := drop_at hy
    cases hc : (F.meets w) y
    · right
      refine ⟨k + 1, ?_, rfl, hlt, by omega, ?_⟩
      · rw [evIstL]
        simp only [unRc1, unRc1w, preRc11, unstIst, unstIst0, prlIst, outIst, etaBeat, etaSpan, etaHole, etaLevel, etaFigs, etaRatio, etaRep, etaStay, Option.bind_some, List.length_map, unStrs, unInts, unBools, uneL_eIs, unBeats, uneL_eBeats, unSpans, unHoles, unLevels, unFigss, unRatios, unReps, unStays, F.lt, F.le, cond_true, cond_false, Bool.and_true, Bool.true_and, cast_lt hlt, decide_eq_true hlt, next_at hlt hp.1, getD_at hy, hc, stIst]
        try rfl
      · simp only [outIst, hd, F.findI, hc, cond_false]
    · left
      refine ⟨(.ret, ⟨[(4, vI k)], []⟩), ?_, ?_, by simp, rfl⟩
      · rw [evIstL]
        simp only [unRc1, unRc1w, preRc11, unstIst, unstIst0, prlIst, outIst, etaBeat, etaSpan, etaHole, etaLevel, etaFigs, etaRatio, etaRep, etaStay, Option.bind_some, List.length_map, unStrs, unInts, unBools, uneL_eIs, unBeats, uneL_eBeats, unSpans, unHoles, unLevels, unFigss, unRatios, unReps, unStays, F.lt, F.le, cond_true, cond_false, Bool.and_true, Bool.true_and, cast_lt hlt, decide_eq_true hlt, next_at hlt hp.1, getD_at hy, hc, stIst]
      · simp only [outIst, hd, F.findI, hc, cond_true, F.found, F.got]
        rfl
  · have : k = l.length := by omega
    subst this
    left
    refine ⟨(.exit 0, ⟨[], []⟩), ?_, ?_, by simp, rfl⟩
    · rw [evIstL]; simp
    · simp [outIst, F.findI, F.found, T.val]

theorem evIst (l : List Stay) (w : Span) : (runF enIst false Try.f53 [.sl (l.map eStay), .fn 38 [.pel (eSpan w) 0]]).val =
  Option.bind (unenc stIst1 (St.mk [(8, (vI (0 : Int))), (7, (vI (↑(List.length (List.map eStay l)) : Int))), (1, AV.fn (38 : FuncId) [AV.pel [(vI w.fr), (vI w.to)] (0 :
  Nat)]), (0, AV.sl (List.map eStay l))] [])) fun (z : List Stay × Span × Nat) => bif decide (List.length z.fst ≤ (9223372036854775807 : Nat)) && decide (z.snd.snd ≤
  List.length z.fst) && true then bif F.found (F.findI (F.meets z.snd.fst) z.snd.snd (List.drop z.snd.snd z.fst)) then some ((vI (↑(F.got (F.findI (F.meets z.snd.fst)
  z.snd.snd (List.drop z.snd.snd z.fst)) (0 : Nat)) : Int)), []) else some ((vI (-1 : Int)), []) else none := (runFR_val).symm.trans (by kernel_rfl)

def encIst1 (l : List Stay) (w : Span) : List AV := [.sl (l.map eStay), .fn 38 [.pel (eSpan w) 0]]

def encIst (a : (List Stay) × Span) : List AV := encIst1 a.1 a.2

theorem encIst_inj (a a' : (List Stay) × Span) (h : encIst a = encIst a') : a = a' := by
  simp only [encIst, encIst1] at h
  try simp [strs_inj, ints_inj, bools_inj, eL_eIs_inj, eBeats_inj, eBeat_iff, eL_eBeats_inj, eSpans_inj, eSpan_iff, eHoles_inj, eHole_iff, eLevels_inj, eLevel_iff, eFigss_inj, eFigs_iff, eRatios_inj, eRatio_iff, eReps_inj, eRep_iff, eStays_inj, eStay_iff] at h
  grind

theorem unIst (l : List Stay) (w : Span) : unenc encIst ([AV.sl (List.map eStay l), AV.fn (38 : FuncId) [AV.pel [(vI w.fr), (vI w.to)] (0 : Nat)]]) = some (l, w) := unenc_of encIst_inj (l, w) rfl

theorem unIstw (l : List Stay) (w_fr : Int) (w_to : Int) : unenc encIst ([AV.sl (List.map eStay l), AV.fn (38 : FuncId) [AV.pel [(vI w_fr), (vI w_to)] (0 : Nat)]]) = some (l, (Span.mk w_fr w_to)) := unenc_of encIst_inj (l, (Span.mk w_fr w_to)) rfl

def resIst1 (l : List Stay) (w : Span) : AV × Heap := (vI (F.idxI (F.findI (F.meets w) 0 l)), [])

def preIst1 (l : List Stay) (w : Span) : Bool := true

noncomputable def oIst : Orc := orc 53 true encIst (fun a => preIst1 a.1 a.2) fun a => resIst1 a.1 a.2

theorem okIst : OrcOK Try.prog noG oIst := by
  refine mk_ok Try.f53 (keep := false) (by kernel_rfl) (by kernel_rfl) enIst_ok mixed (one_loop (x0 := loopN Try.f53 0) (by kernel_rfl) (lpo_ok ?_)) (by first | exact fun _ _ => ⟨rfl, rfl⟩ | (intro h; cases h)) ?_
  · rintro ⟨l, w, k⟩ hp
    exact lpIst_ok l w k hp
  rintro ⟨l, w⟩ hpre hok
  show (runF enIst false _ (encIst1 _ _)).val = some (resIst1 _ _)
  unfold encIst1 resIst1
  rw [evIst]
  have hx : l.length ≤ 9223372036854775807 := by simpa using (okA_sl (hok _ (List.mem_cons_self ..))).1
  simp only [unRc1, unRc1w, preRc11, unstIst, unstIst0, prlIst, outIst, etaBeat, etaSpan, etaHole, etaLevel, etaFigs, etaRatio, etaRep, etaStay, Option.bind_some, List.length_map, unStrs, unInts, unBools, uneL_eIs, unBeats, uneL_eBeats, unSpans, unHoles, unLevels, unFigss, unRatios, unReps, unStays, F.lt, F.le, cond_true, cond_false, Bool.and_true, Bool.true_and, hx, List.drop_zero, Nat.zero_le, decide_true, F.idxI]
  cases F.found (F.findI (F.meets w) 0 l) <;> rfl

noncomputable def enIstC : Env := envH ty noG lks [oIst] [] [] []

theorem enIstC_ok : EnvOK Try.prog enIstC := by
  refine envH_ok lks_ok ty_ok ?_ ?_
  · simp only [List.forall_mem_cons]
    exact ⟨okIst, by simp⟩
  · simp

theorem evIstC (l : List Stay) (w : Span) : (runF enIstC false Try.f37 [.sl (l.map eStay), .fn 38 [.pel (eSpan w) 0]]).val =
  Option.bind (unenc encIst [AV.sl (List.map eStay l), AV.fn (38 : FuncId) [AV.pel [(vI w.fr), (vI w.to)] (0 : Nat)]]) fun (z : List Stay × Span) => some ((vB (decide ((0 :
  Int) ≤ F.idxI (F.findI (F.meets z.snd) (0 : Nat) z.fst)))), []) := (runFR_val).symm.trans (by kernel_rfl)

def encIstC1 (l : List Stay) (w : Span) : List AV := [.sl (l.map eStay), .fn 38 [.pel (eSpan w) 0]]

def encIstC (a : (List Stay) × Span) : List AV := encIstC1 a.1 a.2

theorem encIstC_inj (a a' : (List Stay) × Span) (h : encIstC a = encIstC a') : a = a' := by
  simp only [encIstC, encIstC1] at h
  try simp [strs_inj, ints_inj, bools_inj, eL_eIs_inj, eBeats_inj, eBeat_iff, eL_eBeats_inj, eSpans_inj, eSpan_iff, eHoles_inj, eHole_iff, eLevels_inj, eLevel_iff, eFigss_inj, eFigs_iff, eRatios_inj, eRatio_iff, eReps_inj, eRep_iff, eStays_inj, eStay_iff] at h
  grind

theorem unIstC (l : List Stay) (w : Span) : unenc encIstC ([AV.sl (List.map eStay l), AV.fn (38 : FuncId) [AV.pel [(vI w.fr), (vI w.to)] (0 : Nat)]]) = some (l, w) := unenc_of encIstC_inj (l, w) rfl

theorem unIstCw (l : List Stay) (w_fr : Int) (w_to : Int) : unenc encIstC ([AV.sl (List.map eStay l), AV.fn (38 : FuncId) [AV.pel [(vI w_fr), (vI w_to)] (0 : Nat)]]) = some (l, (Span.mk w_fr w_to)) := unenc_of encIstC_inj (l, (Span.mk w_fr w_to)) rfl

def resIstC1 (l : List Stay) (w : Span) : AV × Heap := (vB (l.any (F.meets w)), [])

def preIstC1 (l : List Stay) (w : Span) : Bool := true

noncomputable def oIstC : Orc := orc 37 true encIstC (fun a => preIstC1 a.1 a.2) fun a => resIstC1 a.1 a.2

theorem okIstC : OrcOK Try.prog noG oIstC := by
  refine mk_ok Try.f37 (keep := false) (by kernel_rfl) (by kernel_rfl) enIstC_ok mixed (no_loops (by kernel_rfl)) (by first | exact fun _ _ => ⟨rfl, rfl⟩ | (intro h; cases h)) ?_
  rintro ⟨l, w⟩ hpre hok
  show (runF enIstC false _ (encIstC1 _ _)).val = some (resIstC1 _ _)
  unfold encIstC1 resIstC1
  rw [evIstC]
  simp only [unIst, unIstw, preIst1, etaBeat, etaSpan, etaHole, etaLevel, etaFigs, etaRatio, etaRep, etaStay, Option.bind_some, List.length_map, unStrs, unInts, unBools, uneL_eIs, unBeats, uneL_eBeats, unSpans, unHoles, unLevels, unFigss, unRatios, unReps, unStays, F.lt, F.le, cond_true, cond_false, Bool.and_true, Bool.true_and, F.idx_any]


theorem evLea (l : List Int) (m : Nat) : (runF en0 false Try.f40 [.sl (l.map eI), vI m]).val =
  bif (↑(List.length (List.map eI l)) : Int) == (0 : Int) then some ((vI (0 : Int)), []) else Option.bind (idx (IntKind.wrap IntKind.i64 (IntKind.wrap IntKind.i64 (Int.tdiv
  (IntKind.wrap IntKind.i64 (IntKind.wrap IntKind.i64 ((↑(List.length (List.map eI l)) : Int) * (↑m : Int)) + (999 : Int))) (1000 : Int)) - (1 : Int)))) fun (z : Nat) =>
  Option.bind (unenc (List.map eI) (List.map eI l)) fun (z_1 : List Int) => bif decide (z < List.length z_1) then some ((vI (List.getD z_1 z (0 : Int))), []) else none := (runFR_val).symm.trans (by kernel_rfl)

def encLea1 (l : List Int) (m : Nat) : List AV := [.sl (l.map eI), vI m]

def encLea (a : (List Int) × Nat) : List AV := encLea1 a.1 a.2

theorem encLea_inj (a a' : (List Int) × Nat) (h : encLea a = encLea a') : a = a' := by
  simp only [encLea, encLea1] at h
  try simp [strs_inj, ints_inj, bools_inj, eL_eIs_inj, eBeats_inj, eBeat_iff, eL_eBeats_inj, eSpans_inj, eSpan_iff, eHoles_inj, eHole_iff, eLevels_inj, eLevel_iff, eFigss_inj, eFigs_iff, eRatios_inj, eRatio_iff, eReps_inj, eRep_iff, eStays_inj, eStay_iff] at h
  grind

theorem unLea (l : List Int) (m : Nat) : unenc encLea ([AV.sl (List.map eI l), (vI (↑m : Int))]) = some (l, m) := unenc_of encLea_inj (l, m) rfl

def resLea1 (l : List Int) (m : Nat) : AV × Heap := (vI (F.least l m), [])

def preLea1 (l : List Int) (m : Nat) : Bool := decide (l.length ≤ 3000 ∧ 1 ≤ m ∧ m ≤ 1000)

noncomputable def oLea : Orc := orc 40 true encLea (fun a => preLea1 a.1 a.2) fun a => resLea1 a.1 a.2

theorem okLea : OrcOK Try.prog noG oLea := by
  refine mk_ok Try.f40 (keep := false) (by kernel_rfl) (by kernel_rfl) en0_ok mixed (no_loops (by kernel_rfl)) (by first | exact fun _ _ => ⟨rfl, rfl⟩ | (intro h; cases h)) ?_
  rintro ⟨l, m⟩ hpre hok
  show (runF en0 false _ (encLea1 _ _)).val = some (resLea1 _ _)
  unfold encLea1 resLea1
  rw [evLea]
  simp only [preLea1, decide_eq_true_eq] at hpre
  obtain ⟨h1, h2, h3⟩ := hpre
  rw [List.length_map]
  by_cases h0 : l.length = 0
  · rw [h0]
    simp only [F.least, h0]
    rfl
  · have e0 : ((l.length : Int) == 0) = false := by rw [beq_eq_false_iff_ne]; omega
    have e1 : (l.length == 0) = false := beq_eq_false_iff_ne.2 h0
    have hp1 : l.length * 1 ≤ l.length * m := Nat.mul_le_mul_left _ h2
    have hp2 : l.length * m ≤ l.length * 1000 := Nat.mul_le_mul_left _ h3
    simp only [F.least, e0, e1, cond_false]
    rw [← Int.natCast_mul]
    generalize l.length * m = p at hp1 hp2
    have w1 : IntKind.i64.wrap (IntKind.i64.wrap (p : Int) + 999) = ((p + 999 : Nat) : Int) := by rw [wrap_id (n := (p : Int)) (by omega) (by omega), wrap_id (by omega) (by omega)]; omega
    have w2 : (((p + 999 : Nat) : Int)).tdiv 1000 = (((p + 999) / 1000 : Nat) : Int) := rfl
    have w3 : IntKind.i64.wrap ((((p + 999) / 1000 : Nat) : Int)) = (((p + 999) / 1000 : Nat) : Int) := wrap_id (by omega) (by omega)
    rw [w1, w2, w3, w_sub1 (by omega) (by omega), idxN]
    have hlt : (p + 999) / 1000 - 1 < l.length := by omega
    simp only [Option.bind_some, unInts, decide_eq_true hlt, cond_true]

def stRat (x : Nat) (y : Nat) (a : Nat) (b : Nat) : St := ⟨[(6, vI b), (5, vI a), (4, .ptr 4 0 0), (1, vI y), (0, vI x)], [(4, ⟨true, 0, 0, [[vI 0, vI 0]]⟩)]⟩

def stRat1 (a : Nat × Nat × Nat × Nat) : St := stRat a.1 a.2.1 a.2.2.1 a.2.2.2

theorem stRat_inj (a a' : Nat × Nat × Nat × Nat) (h : stRat1 a = stRat1 a') : a = a' := by
  simp only [stRat1, stRat] at h
  try simp [strs_inj, ints_inj, bools_inj, eL_eIs_inj, eBeats_inj, eBeat_iff, eL_eBeats_inj, eSpans_inj, eSpan_iff, eHoles_inj, eHole_iff, eLevels_inj, eLevel_iff, eFigss_inj, eFigs_iff, eRatios_inj, eRatio_iff, eReps_inj, eRep_iff, eStays_inj, eStay_iff] at h
  grind

theorem unstRat (x : Nat) (y : Nat) (a : Nat) (b : Nat) : unenc stRat1 (St.mk [(6, (vI (↑b : Int))), (5, (vI (↑a : Int))), (4, .ptr 4 0 0), (1, (vI (↑y : Int))), (0, (vI (↑x : Int)))] [(4, Blk.mk true 0 0 [[(vI (0 : Int)), (vI (0 : Int))]])]) = some (x, y, a, b) := unenc_of stRat_inj (x, y, a, b) rfl

def outRat (x : Nat) (y : Nat) (a : Nat) (b : Nat) : T (Ex × St) := .ret (.exit 0, ⟨[(5, vI (Nat.gcd a b)), (4, .ptr 4 0 0), (1, vI y), (0, vI x)], [(4, ⟨true, 0, 0, [[vI 0, vI 0]]⟩)]⟩)

noncomputable def prlRat (x : Nat) (y : Nat) (a : Nat) (b : Nat) : Bool := decide (a ≤ 9223372036854775807 ∧ b ≤ 9223372036854775807)

noncomputable def lpRat : Nat × (St → T (Ex × St)) := (2, lpo [6, 5, 4, 1, 0] [4] stRat1 (fun a => prlRat a.1 a.2.1 a.2.2.1 a.2.2.2) fun a => outRat a.1 a.2.1 a.2.2.1 a.2.2.2)

noncomputable def enRat : Env := envH ty noG lks [] [] [] [lpRat]

theorem enRat_ok : EnvOK Try.prog enRat := by
  refine envH_ok lks_ok ty_ok ?_ ?_
  · simp
  · simp

theorem w_nat {n : Nat} (h : n ≤ 9223372036854775807) : IntKind.i64.wrap (n : Int) = (n : Int) := wrap_id (by omega) (by omega)

theorem ratE {b : Nat} : ((b : Int) == 0) = (b == 0) := by
  by_cases h : b = 0
  · subst h; rfl
  · rw [beq_eq_false_iff_ne.2 h, beq_eq_false_iff_ne]; omega

theorem evRatL (x : Nat) (y : Nat) (a : Nat) (b : Nat) : ((exec enRat (loopN Try.f41 0) (stRat x y a b)).bind (lessX ([6, 5, 4, 1, 0], [4]) ([5, 4, 1, 0], [4]) ([], []))).val =
  bif (↑b : Int) != (0 : Int) then bif (↑b : Int) == (0 : Int) then none else some (Ex.normal, St.mk [(6, (vI (Int.tmod (↑a : Int) (↑b : Int)))), (5, (vI (↑b : Int))), (4,
  .ptr 4 0 0), (1, (vI (↑y : Int))), (0, (vI (↑x : Int)))] [(4, Blk.mk true 0 0 [[(vI (0 : Int)), (vI (0 : Int))]])]) else some (Ex.exit (0 : Nat), St.mk [(5, (vI (↑a :
  Int))), (4, .ptr 4 0 0), (1, (vI (↑y : Int))), (0, (vI (↑x : Int)))] [(4, Blk.mk true 0 0 [[(vI (0 : Int)), (vI (0 : Int))]])]) := (execR_bind _ _ _).symm.trans (by kernel_rfl)

theorem lpRat_ok (x : Nat) (y : Nat) (a : Nat) (b : Nat) (hp : prlRat x y a b = true) : ∀ ex s', (outRat x y a b).val = some (ex, s') → LoopOK enRat (loopN Try.f41 0) (stRat x y a b) ex s' := by
  simp only [prlRat, Bool.and_eq_true, decide_eq_true_eq] at hp
  refine loop_gen (st := fun s : Nat × Nat => stRat x y s.1 s.2) (out := fun s => outRat x y s.1 s.2) (I := fun s => s.1 ≤ 9223372036854775807 ∧ s.2 ≤ 9223372036854775807) (n := ([6, 5, 4, 1, 0], [4])) (e := ([5, 4, 1, 0], [4])) (r := ([], [])) (fun s => s.2) ?_ (a, b) hp
  rintro ⟨a, b⟩ ⟨h1, h2⟩
  simp only at h1 h2
  by_cases h0 : b = 0
  · subst h0
    left
    refine ⟨_, ?_, rfl, by simp, rfl⟩
    rw [evRatL]
    simp only [Nat.gcd_zero_right]
    rfl
  · right
    have hm : a % b < b := Nat.mod_lt _ (by omega)
    refine ⟨(b, a % b), ?_, rfl, ⟨h2, by simp only; omega⟩, hm, ?_⟩
    · rw [evRatL]
      have e1 : ((b : Int) == 0) = false := by rw [beq_eq_false_iff_ne]; omega
      have e2 : ((b : Int) != 0) = true := by rw [bne, e1]; rfl
      simp only [e1, e2, cond_true, cond_false, ← Int.ofNat_tmod, stRat]
    · simp only [outRat]
      rw [Nat.gcd_comm a b, Nat.gcd_rec b a, Nat.gcd_comm (a % b) b]

theorem evRat (x : Nat) (y : Nat) : (runF enRat false Try.f41 [vI x, vI y]).val =
  Option.bind (unenc stRat1 (St.mk [(6, (vI (↑y : Int))), (5, (vI (↑x : Int))), (4, .ptr 4 0 0), (1, (vI (↑y : Int))), (0, (vI (↑x : Int)))] [(4, Blk.mk true 0 0 [[(vI (0 :
  Int)), (vI (0 : Int))]])])) fun (z : Nat × Nat × Nat × Nat) => bif decide (z.snd.snd.fst ≤ (9223372036854775807 : Nat) ∧ z.snd.snd.snd ≤ (9223372036854775807 : Nat)) &&
  true then bif (↑z.snd.fst : Int) == (0 : Int) then some (AV.agg [(vI (0 : Int)), (vI (1 : Int))], []) else bif (↑(Nat.gcd z.snd.snd.fst z.snd.snd.snd) : Int) == (0 : Int)
  then none else bif (↑(Nat.gcd z.snd.snd.fst z.snd.snd.snd) : Int) == (0 : Int) then none else some (AV.agg [(vI (IntKind.wrap IntKind.i64 (Int.tdiv (↑z.fst : Int)
  (↑(Nat.gcd z.snd.snd.fst z.snd.snd.snd) : Int)))), (vI (IntKind.wrap IntKind.i64 (Int.tdiv (↑z.snd.fst : Int) (↑(Nat.gcd z.snd.snd.fst z.snd.snd.snd) : Int))))], []) else
  none := (runFR_val).symm.trans (by kernel_rfl)

def encRat1 (x : Nat) (y : Nat) : List AV := [vI x, vI y]

def encRat (a : Nat × Nat) : List AV := encRat1 a.1 a.2

theorem encRat_inj (a a' : Nat × Nat) (h : encRat a = encRat a') : a = a' := by
  simp only [encRat, encRat1] at h
  try simp [strs_inj, ints_inj, bools_inj, eL_eIs_inj, eBeats_inj, eBeat_iff, eL_eBeats_inj, eSpans_inj, eSpan_iff, eHoles_inj, eHole_iff, eLevels_inj, eLevel_iff, eFigss_inj, eFigs_iff, eRatios_inj, eRatio_iff, eReps_inj, eRep_iff, eStays_inj, eStay_iff] at h
  grind

theorem unRat (x : Nat) (y : Nat) : unenc encRat ([(vI (↑x : Int)), (vI (↑y : Int))]) = some (x, y) := unenc_of encRat_inj (x, y) rfl

def resRat1 (x : Nat) (y : Nat) : AV × Heap := (.agg (eRatio (F.ratio x y)), [])

def preRat1 (x : Nat) (y : Nat) : Bool := decide (x ≤ 9223372036854775807 ∧ y ≤ 9223372036854775807)

noncomputable def oRat : Orc := orc 41 true encRat (fun a => preRat1 a.1 a.2) fun a => resRat1 a.1 a.2

theorem okRat : OrcOK Try.prog noG oRat := by
  refine mk_ok Try.f41 (keep := false) (by kernel_rfl) (by kernel_rfl) enRat_ok mixed (one_loop (x0 := loopN Try.f41 0) (by kernel_rfl) (lpo_ok ?_)) (by first | exact fun _ _ => ⟨rfl, rfl⟩ | (intro h; cases h)) ?_
  · rintro ⟨x, y, a, b⟩ hp
    exact lpRat_ok x y a b hp
  rintro ⟨x, y⟩ hpre hok
  show (runF enRat false _ (encRat1 _ _)).val = some (resRat1 _ _)
  unfold encRat1 resRat1
  rw [evRat]
  simp only [preRat1, decide_eq_true_eq] at hpre
  obtain ⟨h1, h2⟩ := hpre
  simp only [unstRat, prlRat, outRat, etaBeat, etaSpan, etaHole, etaLevel, etaFigs, etaRatio, etaRep, etaStay, Option.bind_some, List.length_map, unStrs, unInts, unBools, uneL_eIs, unBeats, uneL_eBeats, unSpans, unHoles, unLevels, unFigss, unRatios, unReps, unStays, F.lt, F.le, cond_true, cond_false, Bool.and_true, Bool.true_and, h1, h2, and_self, decide_true]
  by_cases h0 : y = 0
  · subst h0; rfl
  · have hg : 0 < Nat.gcd x y := Nat.gcd_pos_of_pos_right x (by omega)
    have e1 : ((y : Int) == 0) = false := by rw [beq_eq_false_iff_ne]; omega
    have e2 : (((Nat.gcd x y : Nat) : Int) == 0) = false := by rw [beq_eq_false_iff_ne]; omega
    have e3 : (y == 0) = false := beq_eq_false_iff_ne.2 h0
    have d1 : x / Nat.gcd x y ≤ x := Nat.div_le_self ..
    have d2 : y / Nat.gcd x y ≤ y := Nat.div_le_self ..
    simp only [e1, e2, cond_false, ← Int.ofNat_tdiv, F.ratio, e3]
    rw [w_nat (n := x / Nat.gcd x y) (by omega), w_nat (n := y / Nat.gcd x y) (by omega)]
    rfl

end M
end Go.Proofs.Ytnkaadiofjoacaa
