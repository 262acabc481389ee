/- What is proved here: Watched and Peak of the reference, and the law DeskWatchedMatchesSpec on plain data (no statement of the seat). -/
import Derived.Test.YtnkaadiofjoacaaB106
import Derived.Test.YtnkaadiofjoacaaB95
namespace Go.Proofs.Ytnkaadiofjoacaa
open Go Go.RowKit
set_option linter.unusedVariables false
set_option linter.unusedSimpArgs false
set_option maxHeartbeats 1000000

namespace F

theorem rl_eq {l : List Beat} {q : Int} (h : quietF l q = 0) : rlevels q l = levels q l := by
  have hc := (quietF_ok h).1
  have hl := chk3 hc
  have := spansR_len (q := q) (checkB_sorted hc).1
  exact rlevels_eq hc hl (by omega)

end F

namespace M

noncomputable def enRWt : Env := envH ty noG lks [oRqF, oRlv] [] [] []

theorem enRWt_ok : EnvOK Try.prog enRWt := by
  refine envH_ok lks_ok ty_ok ?_ ?_
  · simp only [List.forall_mem_cons]
    exact ⟨okRqF, okRlv, by simp⟩
  · simp

theorem evRWt (l : List Beat) (q : Int) : (runF enRWt false Try.f13 [.sl (l.map eBeat), vI q]).val =
  Option.bind (unenc encRqF [AV.sl (List.map eBeat l), (vI q)]) fun (z : List Beat × Int) => bif F.quietF z.fst z.snd != (0 : Int) then some (AV.tup [AV.sl [], (vI (F.quietF
  z.fst z.snd))], []) else Option.bind (unenc encRlv [AV.sl (List.map eBeat l), (vI q)]) fun (z : List Beat × Int) => bif F.checkB z.fst == (0 : Int) && decide (List.length
  z.fst ≤ (3000 : Nat)) then some (AV.tup [AV.sl (List.map eLevel (F.rlevels z.snd z.fst)), (vI (0 : Int))], []) else none := (runFR_val).symm.trans (by kernel_rfl)

def encRWt1 (l : List Beat) (q : Int) : List AV := [.sl (l.map eBeat), vI q]

def encRWt (a : (List Beat) × Int) : List AV := encRWt1 a.1 a.2

theorem encRWt_inj (a a' : (List Beat) × Int) (h : encRWt a = encRWt a') : a = a' := by
  simp only [encRWt, encRWt1] at h
  try simp [strs_inj, ints_inj, bools_inj, eL_eIs_inj, eBeats_inj, eBeat_iff, eL_eBeats_inj, eSpans_inj, eSpan_iff, eHoles_inj, eHole_iff, eLevels_inj, eLevel_iff, eFigss_inj, eFigs_iff, eRatios_inj, eRatio_iff, eReps_inj, eRep_iff, eStays_inj, eStay_iff] at h
  grind

theorem unRWt (l : List Beat) (q : Int) : unenc encRWt ([AV.sl (List.map eBeat l), (vI q)]) = some (l, q) := unenc_of encRWt_inj (l, q) rfl

def resRWt1 (l : List Beat) (q : Int) : AV × Heap := (.tup [.sl ((F.watched l q).1.map eLevel), vI (F.watched l q).2], [])

def preRWt1 (l : List Beat) (q : Int) : Bool := true

noncomputable def oRWt : Orc := orc 13 false encRWt (fun a => preRWt1 a.1 a.2) fun a => resRWt1 a.1 a.2

theorem okRWt : OrcOK Try.prog noG oRWt := by
  refine mk_ok Try.f13 (keep := false) (by kernel_rfl) (by kernel_rfl) enRWt_ok mixed (no_loops (by kernel_rfl)) (by first | exact fun _ _ => ⟨rfl, rfl⟩ | (intro h; cases h)) ?_
  rintro ⟨l, q⟩ hpre hok
  show (runF enRWt false _ (encRWt1 _ _)).val = some (resRWt1 _ _)
  unfold encRWt1 resRWt1
  rw [evRWt]
  simp only [unRqF, unRlv, preRqF1, preRlv1, etaBeat, etaSpan, etaHole, etaLevel, etaFigs, etaRatio, etaRep, etaStay, Option.bind_some, List.length_map, unStrs, unInts, unBools, uneL_eIs, unBeats, uneL_eBeats, unSpans, unHoles, unLevels, unFigss, unRatios, unReps, unStays, F.lt, F.le, cond_true, cond_false, Bool.and_true, Bool.true_and, F.watched]
  cases h : F.quietF l q != 0
  · have h0 : F.quietF l q = 0 := by simpa using h
    have hl1 : decide (l.length ≤ 3000) = true := decide_eq_true (F.quiet_len h)
    have hc : (F.checkB l == 0) = true := by simpa using (F.quietF_ok h0).1
    simp only [hl1, hc, cond_false, cond_true, F.rl_eq h0, Bool.and_self]
  · rfl

def stRPk (L : List Level) (w : Span) (a : Level) (k : Nat) : St := ⟨[(27, vI k), (26, vI L.length), (25, .sl (L.map eLevel)), (9, .ptr 9 0 0), (6, .ptr 6 0 0), (5, .ptr 5 0 0)], [(9, ⟨true, 0, 0, [eLevel a]⟩), (6, ⟨true, 0, 0, [[vI 0, vI 0]]⟩), (5, ⟨true, 0, 0, [eSpan w]⟩)]⟩

def stRPk1 (a : (List Level) × Span × Level × Nat) : St := stRPk a.1 a.2.1 a.2.2.1 a.2.2.2

theorem stRPk_inj (a a' : (List Level) × Span × Level × Nat) (h : stRPk1 a = stRPk1 a') : a = a' := by
  simp only [stRPk1, stRPk] at h
  try simp [strs_inj, ints_inj, bools_inj, eL_eIs_inj, eBeats_inj, eBeat_iff, eL_eBeats_inj, eSpans_inj, eSpan_iff, eHoles_inj, eHole_iff, eLevels_inj, eLevel_iff, eFigss_inj, eFigs_iff, eRatios_inj, eRatio_iff, eReps_inj, eRep_iff, eStays_inj, eStay_iff] at h
  grind

theorem unstRPk (L : List Level) (w : Span) (a : Level) (k : Nat) : unenc stRPk1 (St.mk [(27, (vI (↑k : Int))), (26, (vI (↑(List.length L) : Int))), (25, AV.sl (List.map eLevel L)), (9, .ptr 9 0 0), (6, .ptr 6 0 0), (5, .ptr 5 0 0)] [(9, Blk.mk true 0 0
  [[(vI a.time), (vI a.many)]]), (6, Blk.mk true 0 0 [[(vI (0 : Int)), (vI (0 : Int))]]), (5, Blk.mk true 0 0 [[(vI w.fr), (vI w.to)]])]) = some (L, w, a, k) := unenc_of stRPk_inj (L, w, a, k) rfl

theorem unstRPk0 (L : List Level) (w : Span)  : unenc stRPk1 (St.mk [(27, (vI (0 : Int))), (26, (vI (↑(List.length L) : Int))), (25, AV.sl (List.map eLevel L)), (9, .ptr 9 0 0), (6, .ptr 6 0 0), (5, .ptr 5 0 0)] [(9, Blk.mk true 0 0
  [[(vI w.fr), (vI (0 : Int))]]), (6, Blk.mk true 0 0 [[(vI (0 : Int)), (vI (0 : Int))]]), (5, Blk.mk true 0 0 [[(vI w.fr), (vI w.to)]])]) = some (L, w, (Level.mk w.fr 0), 0) := unenc_of stRPk_inj (L, w, (Level.mk w.fr 0), 0) rfl

def outRPk (L : List Level) (w : Span) (a : Level) (k : Nat) : T (Ex × St) := .ret (.exit 0, ⟨[(9, .ptr 9 0 0), (6, .ptr 6 0 0)], [(9, ⟨true, 0, 0, [eLevel ((L.drop k).foldl (F.peakS w) a)]⟩), (6, ⟨true, 0, 0, [[vI 0, vI 0]]⟩)]⟩)

noncomputable def prlRPk (L : List Level) (w : Span) (a : Level) (k : Nat) : Bool := decide (L.length ≤ 9223372036854775807) && decide (k ≤ L.length)

noncomputable def lpRPk : Nat × (St → T (Ex × St)) := (6, lpo [27, 26, 25, 9, 6, 5] [9, 6, 5] stRPk1 (fun a => prlRPk a.1 a.2.1 a.2.2.1 a.2.2.2) fun a => outRPk a.1 a.2.1 a.2.2.1 a.2.2.2)

noncomputable def enRPk : Env := envH ty noG lks [oWnd, oRlv] [] [] [lpRPk]

theorem enRPk_ok : EnvOK Try.prog enRPk := by
  refine envH_ok lks_ok ty_ok ?_ ?_
  · simp only [List.forall_mem_cons]
    exact ⟨okWnd, okRlv, by simp⟩
  · simp

theorem evRPkL (L : List Level) (w : Span) (a : Level) (k : Nat) : ((exec enRPk (loopN Try.f15 0) (stRPk L w a k)).bind (lessX ([27, 26, 25, 9, 6, 5], [9, 6, 5]) ([9, 6], [9, 6]) ([], []))).val =
  bif decide ((↑k : Int) < (↑(List.length L) : Int)) then Option.bind (unenc (List.map eLevel) (List.map eLevel L)) fun (z : List Level) => bif decide (k < List.length z)
  then bif decide ((List.getD z k (Level.mk (0 : Int) (0 : Int))).time ≤ w.fr) then some (Ex.normal, St.mk [(27, (vI (IntKind.wrap IntKind.i64 ((↑k : Int) + (1 : Int))))),
  (26, (vI (↑(List.length L) : Int))), (25, AV.sl (List.map eLevel L)), (9, .ptr 9 0 0), (6, .ptr 6 0 0), (5, .ptr 5 0 0)] [(9, Blk.mk true 0 0 [[(vI a.time), (vI (List.getD
  z k (Level.mk (0 : Int) (0 : Int))).many)]]), (6, Blk.mk true 0 0 [[(vI (0 : Int)), (vI (0 : Int))]]), (5, Blk.mk true 0 0 [[(vI w.fr), (vI w.to)]])]) else bif bif decide
  ((List.getD z k (Level.mk (0 : Int) (0 : Int))).time < w.to) then decide (a.many < (List.getD z k (Level.mk (0 : Int) (0 : Int))).many) else false then some (Ex.normal,
  St.mk [(27, (vI (IntKind.wrap IntKind.i64 ((↑k : Int) + (1 : Int))))), (26, (vI (↑(List.length L) : Int))), (25, AV.sl (List.map eLevel L)), (9, .ptr 9 0 0), (6, .ptr 6 0
  0), (5, .ptr 5 0 0)] [(9, Blk.mk true 0 0 [[(vI (List.getD z k (Level.mk (0 : Int) (0 : Int))).time), (vI (List.getD z k (Level.mk (0 : Int) (0 : Int))).many)]]), (6,
  Blk.mk true 0 0 [[(vI (0 : Int)), (vI (0 : Int))]]), (5, Blk.mk true 0 0 [[(vI w.fr), (vI w.to)]])]) else some (Ex.normal, St.mk [(27, (vI (IntKind.wrap IntKind.i64 ((↑k :
  Int) + (1 : Int))))), (26, (vI (↑(List.length L) : Int))), (25, AV.sl (List.map eLevel L)), (9, .ptr 9 0 0), (6, .ptr 6 0 0), (5, .ptr 5 0 0)] [(9, Blk.mk true 0 0 [[(vI
  a.time), (vI a.many)]]), (6, Blk.mk true 0 0 [[(vI (0 : Int)), (vI (0 : Int))]]), (5, Blk.mk true 0 0 [[(vI w.fr), (vI w.to)]])]) else none else some (Ex.exit (0 : Nat),
  St.mk [(9, .ptr 9 0 0), (6, .ptr 6 0 0)] [(9, Blk.mk true 0 0 [[(vI a.time), (vI a.many)]]), (6, Blk.mk true 0 0 [[(vI (0 : Int)), (vI (0 : Int))]])]) := (execR_bind _ _ _).symm.trans (by kernel_rfl)

theorem lpRPk_ok (L : List Level) (w : Span) (a : Level) (k : Nat) (hp : prlRPk L w a k = true) : ∀ ex s', (outRPk L w a k).val = some (ex, s') → LoopOK enRPk (loopN Try.f15 0) (stRPk L w a k) ex s' := by
  simp only [prlRPk, Bool.and_eq_true, decide_eq_true_eq] at hp
  obtain ⟨h1, h2⟩ := hp
  refine loop_fold (xs := L) (st := fun a k => stRPk L w a k) (f := F.peakS w) (fin := fun a => (.exit 0, ⟨[(9, .ptr 9 0 0), (6, .ptr 6 0 0)], [(9, ⟨true, 0, 0, [eLevel a]⟩), (6, ⟨true, 0, 0, [[vI 0, vI 0]]⟩)]⟩)) (I := fun _ _ => True) (n := ([27, 26, 25, 9, 6, 5], [9, 6, 5])) (e := ([9, 6], [9, 6])) (r := ([], [])) ?_ (fun _ => ⟨by simp, rfl⟩) (fun _ _ => rfl) ?_ a k h2 trivial
  · intro a _
    rw [evRPkL]; simp
    rfl
  · intro a k y hy _
    have hlt := lt_at hy
    refine ⟨?_, trivial⟩
    rw [evRPkL]
    simp only [unWnd, unRlv, unWndw, preWnd1, preRlv1, unstRPk, unstRPk0, prlRPk, outRPk, etaBeat, etaSpan, etaHole, etaLevel, etaFigs, etaRatio, etaRep, etaStay, Option.bind_some, List.length_map, unStrs, unInts, unBools, uneL_eIs, unBeats, uneL_eBeats, unSpans, unHoles, unLevels, unFigss, unRatios, unReps, unStays, F.lt, F.le, cond_true, cond_false, Bool.and_true, Bool.true_and, cast_lt hlt, decide_eq_true hlt, next_at hlt h1, getD_at hy, stRPk, F.peakS, F.le, F.lt]
    cases decide (y.time ≤ w.fr) <;> cases decide (y.time < w.to) <;> cases decide (a.many < y.many) <;> rfl

theorem evRPk (l : List Beat) (q : Int) (w : Span) : (runF enRPk false Try.f15 [.sl (l.map eBeat), vI q, .agg (eSpan w)]).val =
  Option.bind (unenc encWnd [AV.sl (List.map eBeat l), (vI q), AV.agg [(vI w.fr), (vI w.to)]]) fun (z : List Beat × Int × Span) => bif F.spanF z.fst z.snd.fst z.snd.snd !=
  (0 : Int) then some (AV.tup [AV.agg [(vI (0 : Int)), (vI (0 : Int))], (vI (F.spanF z.fst z.snd.fst z.snd.snd))], []) else Option.bind (unenc encRlv [AV.sl (List.map eBeat
  l), (vI q)]) fun (z : List Beat × Int) => bif F.checkB z.fst == (0 : Int) && decide (List.length z.fst ≤ (3000 : Nat)) then Option.bind (unenc stRPk1 (St.mk [(27, (vI (0 :
  Int))), (26, (vI (↑(List.length (List.map eLevel (F.rlevels z.snd z.fst))) : Int))), (25, AV.sl (List.map eLevel (F.rlevels z.snd z.fst))), (9, .ptr 9 0 0), (6, .ptr 6 0
  0), (5, .ptr 5 0 0)] [(9, Blk.mk true 0 0 [[(vI w.fr), (vI (0 : Int))]]), (6, Blk.mk true 0 0 [[(vI (0 : Int)), (vI (0 : Int))]]), (5, Blk.mk true 0 0 [[(vI w.fr), (vI
  w.to)]])])) fun (z : List Level × Span × Level × Nat) => bif decide (List.length z.fst ≤ (9223372036854775807 : Nat)) && decide (z.snd.snd.snd ≤ List.length z.fst) && true
  then some (AV.tup [AV.agg [(vI (List.foldl (F.peakS z.snd.fst) z.snd.snd.fst (List.drop z.snd.snd.snd z.fst)).time), (vI (List.foldl (F.peakS z.snd.fst) z.snd.snd.fst
  (List.drop z.snd.snd.snd z.fst)).many)], (vI (0 : Int))], []) else none else none := (runFR_val).symm.trans (by kernel_rfl)

def encRPk1 (l : List Beat) (q : Int) (w : Span) : List AV := [.sl (l.map eBeat), vI q, .agg (eSpan w)]

def encRPk (a : (List Beat) × Int × Span) : List AV := encRPk1 a.1 a.2.1 a.2.2

theorem encRPk_inj (a a' : (List Beat) × Int × Span) (h : encRPk a = encRPk a') : a = a' := by
  simp only [encRPk, encRPk1] at h
  try simp [strs_inj, ints_inj, bools_inj, eL_eIs_inj, eBeats_inj, eBeat_iff, eL_eBeats_inj, eSpans_inj, eSpan_iff, eHoles_inj, eHole_iff, eLevels_inj, eLevel_iff, eFigss_inj, eFigs_iff, eRatios_inj, eRatio_iff, eReps_inj, eRep_iff, eStays_inj, eStay_iff] at h
  grind

theorem unRPk (l : List Beat) (q : Int) (w : Span) : unenc encRPk ([AV.sl (List.map eBeat l), (vI q), AV.agg [(vI w.fr), (vI w.to)]]) = some (l, q, w) := unenc_of encRPk_inj (l, q, w) rfl

theorem unRPkw (l : List Beat) (q : Int) (w_fr : Int) (w_to : Int) : unenc encRPk ([AV.sl (List.map eBeat l), (vI q), AV.agg [(vI w_fr), (vI w_to)]]) = some (l, q, (Span.mk w_fr w_to)) := unenc_of encRPk_inj (l, q, (Span.mk w_fr w_to)) rfl

def resRPk1 (l : List Beat) (q : Int) (w : Span) : AV × Heap := (.tup [.agg (eLevel (F.peak l q w).1), vI (F.peak l q w).2], [])

def preRPk1 (l : List Beat) (q : Int) (w : Span) : Bool := true

noncomputable def oRPk : Orc := orc 15 false encRPk (fun a => preRPk1 a.1 a.2.1 a.2.2) fun a => resRPk1 a.1 a.2.1 a.2.2

theorem okRPk : OrcOK Try.prog noG oRPk := by
  refine mk_ok Try.f15 (keep := false) (by kernel_rfl) (by kernel_rfl) enRPk_ok mixed (one_loop (x0 := loopN Try.f15 0) (by kernel_rfl) (lpo_ok ?_)) (by first | exact fun _ _ => ⟨rfl, rfl⟩ | (intro h; cases h)) ?_
  · rintro ⟨L, w, a, k⟩ hp
    exact lpRPk_ok L w a k hp
  rintro ⟨l, q, w⟩ hpre hok
  show (runF enRPk false _ (encRPk1 _ _ _)).val = some (resRPk1 _ _ _)
  unfold encRPk1 resRPk1
  rw [evRPk]
  simp only [unWnd, unRlv, unWndw, preWnd1, preRlv1, unstRPk, unstRPk0, prlRPk, outRPk, etaBeat, etaSpan, etaHole, etaLevel, etaFigs, etaRatio, etaRep, etaStay, Option.bind_some, List.length_map, unStrs, unInts, unBools, uneL_eIs, unBeats, uneL_eBeats, unSpans, unHoles, unLevels, unFigss, unRatios, unReps, unStays, F.lt, F.le, cond_true, cond_false, Bool.and_true, Bool.true_and, F.peak, List.drop_zero, Nat.zero_le, decide_true, F.peakA]
  cases h : F.spanF l q w != 0
  · have h0 := (F.span_ok (l := l) (q := q) (w := w) (by simpa using h)).1
    have hl := F.span_len h
    have hl1 : decide (l.length ≤ 3000) = true := decide_eq_true hl
    have hc : (F.checkB l == 0) = true := by simpa using (F.quietF_ok h0).1
    have hl2 : decide ((F.levels q l).length ≤ 9223372036854775807) = true := decide_eq_true (by have := F.levels_len q l; omega)
    simp only [hl1, hl2, hc, cond_false, cond_true, F.rl_eq h0, Bool.and_self]
    rfl
  · rfl

noncomputable def enLWm : Env := envH ty noG lks [oWtc, oRWt, oEqLv, oPk, oRPk, oWrk] [] [] []

theorem enLWm_ok : EnvOK Try.prog enLWm := by
  refine envH_ok lks_ok ty_ok ?_ ?_
  · simp only [List.forall_mem_cons]
    exact ⟨okWtc, okRWt, okEqLv, okPk, okRPk, okWrk, by simp⟩
  · simp

theorem evLWm (l : List Beat) (q : Int) (w : Span) : (runF enLWm false Try.f4 [.sl (l.map eBeat), vI q, .agg (eSpan w)]).val =
  Option.bind (unenc encWtc [AV.sl (List.map eBeat l), (vI q)]) fun (z : List Beat × Int) => Option.bind (unenc encRWt [AV.sl (List.map eBeat l), (vI q)]) fun (z_1 : List
  Beat × Int) => bif !(F.watched z.fst z.snd).snd != (F.watched z_1.fst z_1.snd).snd then Option.bind (unenc encEqLv [AV.sl (List.map eLevel (F.watched z.fst z.snd).fst),
  AV.sl (List.map eLevel (F.watched z_1.fst z_1.snd).fst)]) fun (z : List Level × List Level) => bif !F.eqL eqLevel z.fst z.snd then some ((vB false), []) else Option.bind
  (unenc encPk [AV.sl (List.map eBeat l), (vI q), AV.agg [(vI w.fr), (vI w.to)]]) fun (z : List Beat × Int × Span) => Option.bind (unenc encRPk [AV.sl (List.map eBeat l),
  (vI q), AV.agg [(vI w.fr), (vI w.to)]]) fun (z_2 : List Beat × Int × Span) => bif bif (F.peak z.fst z.snd.fst z.snd.snd).snd == (F.peak z_2.fst z_2.snd.fst
  z_2.snd.snd).snd then (F.peak z.fst z.snd.fst z.snd.snd).fst.time == (F.peak z_2.fst z_2.snd.fst z_2.snd.snd).fst.time && ((F.peak z.fst z.snd.fst z.snd.snd).fst.many ==
  (F.peak z_2.fst z_2.snd.fst z_2.snd.snd).fst.many && true) else false then Option.bind (unenc encWrk []) fun (z : Unit) => some ((vB true), []) else some ((vB false), [])
  else some ((vB false), []) := (runFR_val).symm.trans (by kernel_rfl)

def encLWm1 (l : List Beat) (q : Int) (w : Span) : List AV := [.sl (l.map eBeat), vI q, .agg (eSpan w)]

def encLWm (a : (List Beat) × Int × Span) : List AV := encLWm1 a.1 a.2.1 a.2.2

theorem encLWm_inj (a a' : (List Beat) × Int × Span) (h : encLWm a = encLWm a') : a = a' := by
  simp only [encLWm, encLWm1] at h
  try simp [strs_inj, ints_inj, bools_inj, eL_eIs_inj, eBeats_inj, eBeat_iff, eL_eBeats_inj, eSpans_inj, eSpan_iff, eHoles_inj, eHole_iff, eLevels_inj, eLevel_iff, eFigss_inj, eFigs_iff, eRatios_inj, eRatio_iff, eReps_inj, eRep_iff, eStays_inj, eStay_iff] at h
  grind

theorem unLWm (l : List Beat) (q : Int) (w : Span) : unenc encLWm ([AV.sl (List.map eBeat l), (vI q), AV.agg [(vI w.fr), (vI w.to)]]) = some (l, q, w) := unenc_of encLWm_inj (l, q, w) rfl

theorem unLWmw (l : List Beat) (q : Int) (w_fr : Int) (w_to : Int) : unenc encLWm ([AV.sl (List.map eBeat l), (vI q), AV.agg [(vI w_fr), (vI w_to)]]) = some (l, q, (Span.mk w_fr w_to)) := unenc_of encLWm_inj (l, q, (Span.mk w_fr w_to)) rfl

def resLWm1 (l : List Beat) (q : Int) (w : Span) : AV × Heap := (vB true, [])

def preLWm1 (l : List Beat) (q : Int) (w : Span) : Bool := true

noncomputable def oLWm : Orc := orc 4 false encLWm (fun a => preLWm1 a.1 a.2.1 a.2.2) fun a => resLWm1 a.1 a.2.1 a.2.2

theorem okLWm : OrcOK Try.prog noG oLWm := by
  refine mk_ok Try.f4 (keep := false) (by kernel_rfl) (by kernel_rfl) enLWm_ok mixed (no_loops (by kernel_rfl)) (by first | exact fun _ _ => ⟨rfl, rfl⟩ | (intro h; cases h)) ?_
  rintro ⟨l, q, w⟩ hpre hok
  show (runF enLWm false _ (encLWm1 _ _ _)).val = some (resLWm1 _ _ _)
  unfold encLWm1 resLWm1
  rw [evLWm]
  simp only [unWtc, unRWt, unEqLv, unPk, unRPk, unWrk, unPkw, unRPkw, preWtc1, preRWt1, preEqLv1, prePk1, preRPk1, preWrk1, etaBeat, etaSpan, etaHole, etaLevel, etaFigs, etaRatio, etaRep, etaStay, Option.bind_some, List.length_map, unStrs, unInts, unBools, uneL_eIs, unBeats, uneL_eBeats, unSpans, unHoles, unLevels, unFigss, unRatios, unReps, unStays, F.lt, F.le, cond_true, cond_false, Bool.and_true, Bool.true_and, bne_self_eq_false, beq_self_eq_true, F.eqL_refl eqLevel_refl, Bool.not_true, Bool.not_false]

end M
end Go.Proofs.Ytnkaadiofjoacaa
