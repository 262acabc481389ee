/- What is proved here: what Watched, Peak, LevelAt and Turn return on plain data (no statement of the seat). -/
import Derived.Test.YtnkaadiofjoacaaB92
import Derived.Test.YtnkaadiofjoacaaB94
namespace Go.Proofs.Ytnkaadiofjoacaa
open Go Go.RowKit
set_option linter.unusedVariables false
set_option linter.unusedSimpArgs false
set_option maxHeartbeats 1000000

namespace F

def watched (l : List Beat) (q : Int) : List Level × Int := bif quietF l q != 0 then ([], quietF l q) else (levels q l, 0)

theorem quiet_len {l : List Beat} {q : Int} (h : (quietF l q != 0) = false) : l.length ≤ 3000 := chk3 (quietF_ok (by simpa using h)).1

theorem span_ok {l : List Beat} {q : Int} {w : Span} (h : spanF l q w = 0) : quietF l q = 0 ∧ 0 ≤ w.fr ∧ w.fr < w.to ∧ w.to ≤ 2000000000000 := by
  unfold spanF at h
  by_cases h1 : quietF l q = 0
  · have e : (quietF l q != 0) = false := by simp [h1]
    rw [e, cond_false] at h
    cases ho : F.out w.fr 0 2000000000000
    · cases ho2 : F.out w.to 0 2000000000000
      · rw [ho, ho2, Bool.or_self, cond_false] at h
        cases hd : decide (w.to ≤ w.fr)
        · have := of_decide_eq_false hd
          simp [F.out] at ho ho2
          exact ⟨h1, by omega, by omega, by omega⟩
        · rw [hd, cond_true] at h; cases h
      · rw [ho, ho2, Bool.or_true, cond_true] at h; cases h
    · rw [ho, Bool.true_or, cond_true] at h; cases h
  · have e : (quietF l q != 0) = true := by simp [h1]
    rw [e, cond_true] at h
    exact absurd h h1

theorem span_len {l : List Beat} {q : Int} {w : Span} (h : (spanF l q w != 0) = false) : l.length ≤ 3000 := chk3 (quietF_ok (span_ok (by simpa using h)).1).1

def peak (l : List Beat) (q : Int) (w : Span) : Level × Int := bif spanF l q w != 0 then (⟨0, 0⟩, spanF l q w) else (peakA w (levels q l), 0)

def turn (x n : Int) : Int := bif lt (Int.tmod x n) 0 then IntKind.i64.wrap (Int.tmod x n + n) else Int.tmod x n

end F

namespace M

noncomputable def enWtc : Env := envH ty noG lks [oQuF, oLvs] [] [] []

theorem enWtc_ok : EnvOK Try.prog enWtc := by
  refine envH_ok lks_ok ty_ok ?_ ?_
  · simp only [List.forall_mem_cons]
    exact ⟨okQuF, okLvs, by simp⟩
  · simp

theorem evWtc (l : List Beat) (q : Int) : (runF enWtc false Try.f6 [.sl (l.map eBeat), vI q]).val =
  Option.bind (unenc encQuF [AV.sl (List.map eBeat l), (vI q)]) fun (z : List Beat × Int) => bif F.quietF z.fst z.snd != (0 : Int) then some (AV.tup [AV.sl [], (vI (F.quietF
  z.fst z.snd))], []) else Option.bind (unenc encLvs [AV.sl (List.map eBeat l), (vI q)]) fun (z : List Beat × Int) => bif decide (List.length z.fst ≤ (3000 : Nat)) then some
  (AV.tup [AV.sl (List.map eLevel (F.levels z.snd z.fst)), (vI (0 : Int))], []) else none := (runFR_val).symm.trans (by kernel_rfl)

def encWtc1 (l : List Beat) (q : Int) : List AV := [.sl (l.map eBeat), vI q]

def encWtc (a : (List Beat) × Int) : List AV := encWtc1 a.1 a.2

theorem encWtc_inj (a a' : (List Beat) × Int) (h : encWtc a = encWtc a') : a = a' := by
  simp only [encWtc, encWtc1] at h
  try simp [strs_inj, ints_inj, bools_inj, eL_eIs_inj, eBeats_inj, eBeat_iff, eL_eBeats_inj, eSpans_inj, eSpan_iff, eHoles_inj, eHole_iff, eLevels_inj, eLevel_iff, eFigss_inj, eFigs_iff, eRatios_inj, eRatio_iff, eReps_inj, eRep_iff, eStays_inj, eStay_iff] at h
  grind

theorem unWtc (l : List Beat) (q : Int) : unenc encWtc ([AV.sl (List.map eBeat l), (vI q)]) = some (l, q) := unenc_of encWtc_inj (l, q) rfl

def resWtc1 (l : List Beat) (q : Int) : AV × Heap := (.tup [.sl ((F.watched l q).1.map eLevel), vI (F.watched l q).2], [])

def preWtc1 (l : List Beat) (q : Int) : Bool := true

noncomputable def oWtc : Orc := orc 6 false encWtc (fun a => preWtc1 a.1 a.2) fun a => resWtc1 a.1 a.2

theorem okWtc : OrcOK Try.prog noG oWtc := by
  refine mk_ok Try.f6 (keep := false) (by kernel_rfl) (by kernel_rfl) enWtc_ok mixed (no_loops (by kernel_rfl)) (by first | exact fun _ _ => ⟨rfl, rfl⟩ | (intro h; cases h)) ?_
  rintro ⟨l, q⟩ hpre hok
  show (runF enWtc false _ (encWtc1 _ _)).val = some (resWtc1 _ _)
  unfold encWtc1 resWtc1
  rw [evWtc]
  simp only [unQuF, unLvs, preQuF1, preLvs1, etaBeat, etaSpan, etaHole, etaLevel, etaFigs, etaRatio, etaRep, etaStay, Option.bind_some, List.length_map, unStrs, unInts, unBools, uneL_eIs, unBeats, uneL_eBeats, unSpans, unHoles, unLevels, unFigss, unRatios, unReps, unStays, F.lt, F.le, cond_true, cond_false, Bool.and_true, Bool.true_and, F.watched]
  cases h : F.quietF l q != 0
  · have hl1 : decide (l.length ≤ 3000) = true := decide_eq_true (F.quiet_len h)
    simp only [hl1, cond_false, cond_true]
  · rfl

def stLvAt (L : List Level) (t : Int) (n : Int) (k : Nat) : St := ⟨[(10, vI k), (9, vI L.length), (8, .sl (L.map eLevel)), (5, vI n), (1, vI t)], []⟩

def stLvAt1 (a : (List Level) × Int × Int × Nat) : St := stLvAt a.1 a.2.1 a.2.2.1 a.2.2.2

theorem stLvAt_inj (a a' : (List Level) × Int × Int × Nat) (h : stLvAt1 a = stLvAt1 a') : a = a' := by
  simp only [stLvAt1, stLvAt] at h
  try simp [strs_inj, ints_inj, bools_inj, eL_eIs_inj, eBeats_inj, eBeat_iff, eL_eBeats_inj, eSpans_inj, eSpan_iff, eHoles_inj, eHole_iff, eLevels_inj, eLevel_iff, eFigss_inj, eFigs_iff, eRatios_inj, eRatio_iff, eReps_inj, eRep_iff, eStays_inj, eStay_iff] at h
  grind

theorem unstLvAt (L : List Level) (t : Int) (n : Int) (k : Nat) : unenc stLvAt1 (St.mk [(10, (vI (↑k : Int))), (9, (vI (↑(List.length L) : Int))), (8, AV.sl (List.map eLevel L)), (5, (vI n)), (1, (vI t))] []) = some (L, t, n, k) := unenc_of stLvAt_inj (L, t, n, k) rfl

theorem unstLvAt0 (L : List Level) (t : Int)  : unenc stLvAt1 (St.mk [(10, (vI (0 : Int))), (9, (vI (↑(List.length L) : Int))), (8, AV.sl (List.map eLevel L)), (5, (vI (0 : Int))), (1, (vI t))] []) = some (L, t, 0, 0) := unenc_of stLvAt_inj (L, t, 0, 0) rfl

def outLvAt (L : List Level) (t : Int) (n : Int) (k : Nat) : T (Ex × St) := .ret (.exit 0, ⟨[(5, vI ((L.drop k).foldl (F.levS t) n))], []⟩)

noncomputable def prlLvAt (L : List Level) (t : Int) (n : Int) (k : Nat) : Bool := decide (L.length ≤ 9223372036854775807) && decide (k ≤ L.length)

noncomputable def lpLvAt : Nat × (St → T (Ex × St)) := (3, lpo [10, 9, 8, 5, 1] [] stLvAt1 (fun a => prlLvAt a.1 a.2.1 a.2.2.1 a.2.2.2) fun a => outLvAt a.1 a.2.1 a.2.2.1 a.2.2.2)

noncomputable def enLvAt : Env := envH ty noG lks [] [] [] [lpLvAt]

theorem enLvAt_ok : EnvOK Try.prog enLvAt := by
  refine envH_ok lks_ok ty_ok ?_ ?_
  · simp
  · simp

theorem evLvAtL (L : List Level) (t : Int) (n : Int) (k : Nat) : ((exec enLvAt (loopN Try.f12 0) (stLvAt L t n k)).bind (lessX ([10, 9, 8, 5, 1], []) ([5], []) ([], []))).val =
  bif decide ((↑k : Int) < (↑(List.length L) : Int)) then Option.bind (unenc (List.map eLevel) (List.map eLevel L)) fun (z : List Level) => bif decide (k < List.length z)
  then bif decide ((List.getD z k (Level.mk (0 : Int) (0 : Int))).time ≤ t) then some (Ex.normal, St.mk [(10, (vI (IntKind.wrap IntKind.i64 ((↑k : Int) + (1 : Int))))), (9,
  (vI (↑(List.length L) : Int))), (8, AV.sl (List.map eLevel L)), (5, (vI (List.getD z k (Level.mk (0 : Int) (0 : Int))).many)), (1, (vI t))] []) else some (Ex.normal, St.mk
  [(10, (vI (IntKind.wrap IntKind.i64 ((↑k : Int) + (1 : Int))))), (9, (vI (↑(List.length L) : Int))), (8, AV.sl (List.map eLevel L)), (5, (vI n)), (1, (vI t))] []) else
  none else some (Ex.exit (0 : Nat), St.mk [(5, (vI n))] []) := (execR_bind _ _ _).symm.trans (by kernel_rfl)

theorem lpLvAt_ok (L : List Level) (t : Int) (n : Int) (k : Nat) (hp : prlLvAt L t n k = true) : ∀ ex s', (outLvAt L t n k).val = some (ex, s') → LoopOK enLvAt (loopN Try.f12 0) (stLvAt L t n k) ex s' := by
  simp only [prlLvAt, Bool.and_eq_true, decide_eq_true_eq] at hp
  obtain ⟨h1, h2⟩ := hp
  refine loop_fold (xs := L) (st := fun a k => stLvAt L t a k) (f := F.levS t) (fin := fun a => (.exit 0, ⟨[(5, vI a)], []⟩)) (I := fun _ _ => True) (n := ([10, 9, 8, 5, 1], [])) (e := ([5], [])) (r := ([], [])) ?_ (fun _ => ⟨by simp, rfl⟩) (fun _ _ => rfl) ?_ n k h2 trivial
  · intro n _
    rw [evLvAtL]; simp
  · intro n k y hy _
    have hlt := lt_at hy
    refine ⟨?_, trivial⟩
    rw [evLvAtL]
    simp only [unstLvAt, unstLvAt0, prlLvAt, outLvAt, etaBeat, etaSpan, etaHole, etaLevel, etaFigs, etaRatio, etaRep, etaStay, Option.bind_some, List.length_map, unStrs, unInts, unBools, uneL_eIs, unBeats, uneL_eBeats, unSpans, unHoles, unLevels, unFigss, unRatios, unReps, unStays, F.lt, F.le, cond_true, cond_false, Bool.and_true, Bool.true_and, cast_lt hlt, decide_eq_true hlt, next_at hlt h1, getD_at hy, stLvAt, F.levS, F.le]
    cases decide (y.time ≤ t) <;> rfl

theorem evLvAt (L : List Level) (t : Int) : (runF enLvAt false Try.f12 [.sl (L.map eLevel), vI t]).val =
  Option.bind (unenc stLvAt1 (St.mk [(10, (vI (0 : Int))), (9, (vI (↑(List.length (List.map eLevel L)) : Int))), (8, AV.sl (List.map eLevel L)), (5, (vI (0 : Int))), (1, (vI
  t))] [])) fun (z : List Level × Int × Int × Nat) => bif decide (List.length z.fst ≤ (9223372036854775807 : Nat)) && decide (z.snd.snd.snd ≤ List.length z.fst) && true then
  some ((vI (List.foldl (F.levS z.snd.fst) z.snd.snd.fst (List.drop z.snd.snd.snd z.fst))), []) else none := (runFR_val).symm.trans (by kernel_rfl)

def encLvAt1 (L : List Level) (t : Int) : List AV := [.sl (L.map eLevel), vI t]

def encLvAt (a : (List Level) × Int) : List AV := encLvAt1 a.1 a.2

theorem encLvAt_inj (a a' : (List Level) × Int) (h : encLvAt a = encLvAt a') : a = a' := by
  simp only [encLvAt, encLvAt1] at h
  try simp [strs_inj, ints_inj, bools_inj, eL_eIs_inj, eBeats_inj, eBeat_iff, eL_eBeats_inj, eSpans_inj, eSpan_iff, eHoles_inj, eHole_iff, eLevels_inj, eLevel_iff, eFigss_inj, eFigs_iff, eRatios_inj, eRatio_iff, eReps_inj, eRep_iff, eStays_inj, eStay_iff] at h
  grind

theorem unLvAt (L : List Level) (t : Int) : unenc encLvAt ([AV.sl (List.map eLevel L), (vI t)]) = some (L, t) := unenc_of encLvAt_inj (L, t) rfl

def resLvAt1 (L : List Level) (t : Int) : AV × Heap := (vI (F.levAt L t), [])

def preLvAt1 (L : List Level) (t : Int) : Bool := true

noncomputable def oLvAt : Orc := orc 12 true encLvAt (fun a => preLvAt1 a.1 a.2) fun a => resLvAt1 a.1 a.2

theorem okLvAt : OrcOK Try.prog noG oLvAt := by
  refine mk_ok Try.f12 (keep := false) (by kernel_rfl) (by kernel_rfl) enLvAt_ok mixed (one_loop (x0 := loopN Try.f12 0) (by kernel_rfl) (lpo_ok ?_)) (by first | exact fun _ _ => ⟨rfl, rfl⟩ | (intro h; cases h)) ?_
  · rintro ⟨L, t, n, k⟩ hp
    exact lpLvAt_ok L t n k hp
  rintro ⟨L, t⟩ hpre hok
  show (runF enLvAt false _ (encLvAt1 _ _)).val = some (resLvAt1 _ _)
  unfold encLvAt1 resLvAt1
  rw [evLvAt]
  have hx : L.length ≤ 9223372036854775807 := by simpa using (okA_sl (hok _ (List.mem_cons_self ..))).1
  simp only [unstLvAt, unstLvAt0, prlLvAt, outLvAt, etaBeat, etaSpan, etaHole, etaLevel, etaFigs, etaRatio, etaRep, etaStay, Option.bind_some, List.length_map, unStrs, unInts, unBools, uneL_eIs, unBeats, uneL_eBeats, unSpans, unHoles, unLevels, unFigss, unRatios, unReps, unStays, F.lt, F.le, cond_true, cond_false, Bool.and_true, Bool.true_and, hx, List.drop_zero, Nat.zero_le, decide_true, F.levAt]

def stPk (L : List Level) (w : Span) (a : Level) (k : Nat) : St := ⟨[(27, vI k), (26, vI L.length), (25, .sl (L.map eLevel)), (9, .ptr 9 0 0), (6, .ptr 6 0 0), (5, .ptr 5 0 0)], [(9, ⟨true, 0, 0, [eLevel a]⟩), (6, ⟨true, 0, 0, [[vI 0, vI 0]]⟩), (5, ⟨true, 0, 0, [eSpan w]⟩)]⟩

def stPk1 (a : (List Level) × Span × Level × Nat) : St := stPk a.1 a.2.1 a.2.2.1 a.2.2.2

theorem stPk_inj (a a' : (List Level) × Span × Level × Nat) (h : stPk1 a = stPk1 a') : a = a' := by
  simp only [stPk1, stPk] at h
  try simp [strs_inj, ints_inj, bools_inj, eL_eIs_inj, eBeats_inj, eBeat_iff, eL_eBeats_inj, eSpans_inj, eSpan_iff, eHoles_inj, eHole_iff, eLevels_inj, eLevel_iff, eFigss_inj, eFigs_iff, eRatios_inj, eRatio_iff, eReps_inj, eRep_iff, eStays_inj, eStay_iff] at h
  grind

theorem unstPk (L : List Level) (w : Span) (a : Level) (k : Nat) : unenc stPk1 (St.mk [(27, (vI (↑k : Int))), (26, (vI (↑(List.length L) : Int))), (25, AV.sl (List.map eLevel L)), (9, .ptr 9 0 0), (6, .ptr 6 0 0), (5, .ptr 5 0 0)] [(9, Blk.mk true 0 0
  [[(vI a.time), (vI a.many)]]), (6, Blk.mk true 0 0 [[(vI (0 : Int)), (vI (0 : Int))]]), (5, Blk.mk true 0 0 [[(vI w.fr), (vI w.to)]])]) = some (L, w, a, k) := unenc_of stPk_inj (L, w, a, k) rfl

theorem unstPk0 (L : List Level) (w : Span)  : unenc stPk1 (St.mk [(27, (vI (0 : Int))), (26, (vI (↑(List.length L) : Int))), (25, AV.sl (List.map eLevel L)), (9, .ptr 9 0 0), (6, .ptr 6 0 0), (5, .ptr 5 0 0)] [(9, Blk.mk true 0 0
  [[(vI w.fr), (vI (0 : Int))]]), (6, Blk.mk true 0 0 [[(vI (0 : Int)), (vI (0 : Int))]]), (5, Blk.mk true 0 0 [[(vI w.fr), (vI w.to)]])]) = some (L, w, (Level.mk w.fr 0), 0) := unenc_of stPk_inj (L, w, (Level.mk w.fr 0), 0) rfl

def outPk (L : List Level) (w : Span) (a : Level) (k : Nat) : T (Ex × St) := .ret (.exit 0, ⟨[(9, .ptr 9 0 0), (6, .ptr 6 0 0)], [(9, ⟨true, 0, 0, [eLevel ((L.drop k).foldl (F.peakS w) a)]⟩), (6, ⟨true, 0, 0, [[vI 0, vI 0]]⟩)]⟩)

noncomputable def prlPk (L : List Level) (w : Span) (a : Level) (k : Nat) : Bool := decide (L.length ≤ 9223372036854775807) && decide (k ≤ L.length)

noncomputable def lpPk : Nat × (St → T (Ex × St)) := (6, lpo [27, 26, 25, 9, 6, 5] [9, 6, 5] stPk1 (fun a => prlPk a.1 a.2.1 a.2.2.1 a.2.2.2) fun a => outPk a.1 a.2.1 a.2.2.1 a.2.2.2)

noncomputable def enPk : Env := envH ty noG lks [oSpf, oLvs] [] [] [lpPk]

theorem enPk_ok : EnvOK Try.prog enPk := by
  refine envH_ok lks_ok ty_ok ?_ ?_
  · simp only [List.forall_mem_cons]
    exact ⟨okSpf, okLvs, by simp⟩
  · simp

theorem evPkL (L : List Level) (w : Span) (a : Level) (k : Nat) : ((exec enPk (loopN Try.f7 0) (stPk L w a k)).bind (lessX ([27, 26, 25, 9, 6, 5], [9, 6, 5]) ([9, 6], [9, 6]) ([], []))).val =
  bif decide ((↑k : Int) < (↑(List.length L) : Int)) then Option.bind (unenc (List.map eLevel) (List.map eLevel L)) fun (z : List Level) => bif decide (k < List.length z)
  then bif decide ((List.getD z k (Level.mk (0 : Int) (0 : Int))).time ≤ w.fr) then some (Ex.normal, St.mk [(27, (vI (IntKind.wrap IntKind.i64 ((↑k : Int) + (1 : Int))))),
  (26, (vI (↑(List.length L) : Int))), (25, AV.sl (List.map eLevel L)), (9, .ptr 9 0 0), (6, .ptr 6 0 0), (5, .ptr 5 0 0)] [(9, Blk.mk true 0 0 [[(vI a.time), (vI (List.getD
  z k (Level.mk (0 : Int) (0 : Int))).many)]]), (6, Blk.mk true 0 0 [[(vI (0 : Int)), (vI (0 : Int))]]), (5, Blk.mk true 0 0 [[(vI w.fr), (vI w.to)]])]) else bif bif decide
  ((List.getD z k (Level.mk (0 : Int) (0 : Int))).time < w.to) then decide (a.many < (List.getD z k (Level.mk (0 : Int) (0 : Int))).many) else false then some (Ex.normal,
  St.mk [(27, (vI (IntKind.wrap IntKind.i64 ((↑k : Int) + (1 : Int))))), (26, (vI (↑(List.length L) : Int))), (25, AV.sl (List.map eLevel L)), (9, .ptr 9 0 0), (6, .ptr 6 0
  0), (5, .ptr 5 0 0)] [(9, Blk.mk true 0 0 [[(vI (List.getD z k (Level.mk (0 : Int) (0 : Int))).time), (vI (List.getD z k (Level.mk (0 : Int) (0 : Int))).many)]]), (6,
  Blk.mk true 0 0 [[(vI (0 : Int)), (vI (0 : Int))]]), (5, Blk.mk true 0 0 [[(vI w.fr), (vI w.to)]])]) else some (Ex.normal, St.mk [(27, (vI (IntKind.wrap IntKind.i64 ((↑k :
  Int) + (1 : Int))))), (26, (vI (↑(List.length L) : Int))), (25, AV.sl (List.map eLevel L)), (9, .ptr 9 0 0), (6, .ptr 6 0 0), (5, .ptr 5 0 0)] [(9, Blk.mk true 0 0 [[(vI
  a.time), (vI a.many)]]), (6, Blk.mk true 0 0 [[(vI (0 : Int)), (vI (0 : Int))]]), (5, Blk.mk true 0 0 [[(vI w.fr), (vI w.to)]])]) else none else some (Ex.exit (0 : Nat),
  St.mk [(9, .ptr 9 0 0), (6, .ptr 6 0 0)] [(9, Blk.mk true 0 0 [[(vI a.time), (vI a.many)]]), (6, Blk.mk true 0 0 [[(vI (0 : Int)), (vI (0 : Int))]])]) := (execR_bind _ _ _).symm.trans (by kernel_rfl)

theorem lpPk_ok (L : List Level) (w : Span) (a : Level) (k : Nat) (hp : prlPk L w a k = true) : ∀ ex s', (outPk L w a k).val = some (ex, s') → LoopOK enPk (loopN Try.f7 0) (stPk L w a k) ex s' := by
  simp only [prlPk, Bool.and_eq_true, decide_eq_true_eq] at hp
  obtain ⟨h1, h2⟩ := hp
  refine loop_fold (xs := L) (st := fun a k => stPk L w a k) (f := F.peakS w) (fin := fun a => (.exit 0, ⟨[(9, .ptr 9 0 0), (6, .ptr 6 0 0)], [(9, ⟨true, 0, 0, [eLevel a]⟩), (6, ⟨true, 0, 0, [[vI 0, vI 0]]⟩)]⟩)) (I := fun _ _ => True) (n := ([27, 26, 25, 9, 6, 5], [9, 6, 5])) (e := ([9, 6], [9, 6])) (r := ([], [])) ?_ (fun _ => ⟨by simp, rfl⟩) (fun _ _ => rfl) ?_ a k h2 trivial
  · intro a _
    rw [evPkL]; simp
    rfl
  · intro a k y hy _
    have hlt := lt_at hy
    refine ⟨?_, trivial⟩
    rw [evPkL]
    simp only [unSpf, unLvs, unSpfw, preSpf1, preLvs1, unstPk, unstPk0, prlPk, outPk, etaBeat, etaSpan, etaHole, etaLevel, etaFigs, etaRatio, etaRep, etaStay, Option.bind_some, List.length_map, unStrs, unInts, unBools, uneL_eIs, unBeats, uneL_eBeats, unSpans, unHoles, unLevels, unFigss, unRatios, unReps, unStays, F.lt, F.le, cond_true, cond_false, Bool.and_true, Bool.true_and, cast_lt hlt, decide_eq_true hlt, next_at hlt h1, getD_at hy, stPk, F.peakS, F.le, F.lt]
    cases decide (y.time ≤ w.fr) <;> cases decide (y.time < w.to) <;> cases decide (a.many < y.many) <;> rfl

theorem evPk (l : List Beat) (q : Int) (w : Span) : (runF enPk false Try.f7 [.sl (l.map eBeat), vI q, .agg (eSpan w)]).val =
  Option.bind (unenc encSpf [AV.sl (List.map eBeat l), (vI q), AV.agg [(vI w.fr), (vI w.to)]]) fun (z : List Beat × Int × Span) => bif F.spanF z.fst z.snd.fst z.snd.snd !=
  (0 : Int) then some (AV.tup [AV.agg [(vI (0 : Int)), (vI (0 : Int))], (vI (F.spanF z.fst z.snd.fst z.snd.snd))], []) else Option.bind (unenc encLvs [AV.sl (List.map eBeat
  l), (vI q)]) fun (z : List Beat × Int) => bif decide (List.length z.fst ≤ (3000 : Nat)) then Option.bind (unenc stPk1 (St.mk [(27, (vI (0 : Int))), (26, (vI (↑(List.length
  (List.map eLevel (F.levels z.snd z.fst))) : Int))), (25, AV.sl (List.map eLevel (F.levels z.snd z.fst))), (9, .ptr 9 0 0), (6, .ptr 6 0 0), (5, .ptr 5 0 0)] [(9, Blk.mk
  true 0 0 [[(vI w.fr), (vI (0 : Int))]]), (6, Blk.mk true 0 0 [[(vI (0 : Int)), (vI (0 : Int))]]), (5, Blk.mk true 0 0 [[(vI w.fr), (vI w.to)]])])) fun (z : List Level ×
  Span × Level × Nat) => bif decide (List.length z.fst ≤ (9223372036854775807 : Nat)) && decide (z.snd.snd.snd ≤ List.length z.fst) && true then some (AV.tup [AV.agg [(vI
  (List.foldl (F.peakS z.snd.fst) z.snd.snd.fst (List.drop z.snd.snd.snd z.fst)).time), (vI (List.foldl (F.peakS z.snd.fst) z.snd.snd.fst (List.drop z.snd.snd.snd
  z.fst)).many)], (vI (0 : Int))], []) else none else none := (runFR_val).symm.trans (by kernel_rfl)

def encPk1 (l : List Beat) (q : Int) (w : Span) : List AV := [.sl (l.map eBeat), vI q, .agg (eSpan w)]

def encPk (a : (List Beat) × Int × Span) : List AV := encPk1 a.1 a.2.1 a.2.2

theorem encPk_inj (a a' : (List Beat) × Int × Span) (h : encPk a = encPk a') : a = a' := by
  simp only [encPk, encPk1] at h
  try simp [strs_inj, ints_inj, bools_inj, eL_eIs_inj, eBeats_inj, eBeat_iff, eL_eBeats_inj, eSpans_inj, eSpan_iff, eHoles_inj, eHole_iff, eLevels_inj, eLevel_iff, eFigss_inj, eFigs_iff, eRatios_inj, eRatio_iff, eReps_inj, eRep_iff, eStays_inj, eStay_iff] at h
  grind

theorem unPk (l : List Beat) (q : Int) (w : Span) : unenc encPk ([AV.sl (List.map eBeat l), (vI q), AV.agg [(vI w.fr), (vI w.to)]]) = some (l, q, w) := unenc_of encPk_inj (l, q, w) rfl

theorem unPkw (l : List Beat) (q : Int) (w_fr : Int) (w_to : Int) : unenc encPk ([AV.sl (List.map eBeat l), (vI q), AV.agg [(vI w_fr), (vI w_to)]]) = some (l, q, (Span.mk w_fr w_to)) := unenc_of encPk_inj (l, q, (Span.mk w_fr w_to)) rfl

def resPk1 (l : List Beat) (q : Int) (w : Span) : AV × Heap := (.tup [.agg (eLevel (F.peak l q w).1), vI (F.peak l q w).2], [])

def prePk1 (l : List Beat) (q : Int) (w : Span) : Bool := true

noncomputable def oPk : Orc := orc 7 false encPk (fun a => prePk1 a.1 a.2.1 a.2.2) fun a => resPk1 a.1 a.2.1 a.2.2

theorem okPk : OrcOK Try.prog noG oPk := by
  refine mk_ok Try.f7 (keep := false) (by kernel_rfl) (by kernel_rfl) enPk_ok mixed (one_loop (x0 := loopN Try.f7 0) (by kernel_rfl) (lpo_ok ?_)) (by first | exact fun _ _ => ⟨rfl, rfl⟩ | (intro h; cases h)) ?_
  · rintro ⟨L, w, a, k⟩ hp
    exact lpPk_ok L w a k hp
  rintro ⟨l, q, w⟩ hpre hok
  show (runF enPk false _ (encPk1 _ _ _)).val = some (resPk1 _ _ _)
  unfold encPk1 resPk1
  rw [evPk]
  simp only [unSpf, unLvs, unSpfw, preSpf1, preLvs1, unstPk, unstPk0, prlPk, outPk, etaBeat, etaSpan, etaHole, etaLevel, etaFigs, etaRatio, etaRep, etaStay, Option.bind_some, List.length_map, unStrs, unInts, unBools, uneL_eIs, unBeats, uneL_eBeats, unSpans, unHoles, unLevels, unFigss, unRatios, unReps, unStays, F.lt, F.le, cond_true, cond_false, Bool.and_true, Bool.true_and, F.peak, List.drop_zero, Nat.zero_le, decide_true, F.peakA]
  cases h : F.spanF l q w != 0
  · have hl := F.span_len h
    have hl1 : decide (l.length ≤ 3000) = true := decide_eq_true hl
    have hl2 : decide ((F.levels q l).length ≤ 9223372036854775807) = true := decide_eq_true (by have := F.levels_len q l; omega)
    simp only [hl1, hl2, cond_false, cond_true]
    rfl
  · rfl

noncomputable def enTrn : Env := envH ty noG lks [] [] [] []

theorem enTrn_ok : EnvOK Try.prog enTrn := by
  refine envH_ok lks_ok ty_ok ?_ ?_
  · simp
  · simp

theorem evTrn (x : Int) (n : Int) : (runF enTrn false Try.f9 [vI x, vI n]).val =
  bif n == (0 : Int) then none else bif decide (Int.tmod x n < (0 : Int)) then some ((vI (IntKind.wrap IntKind.i64 (Int.tmod x n + n))), []) else some ((vI (Int.tmod x n)),
  []) := (runFR_val).symm.trans (by kernel_rfl)

def encTrn1 (x : Int) (n : Int) : List AV := [vI x, vI n]

def encTrn (a : Int × Int) : List AV := encTrn1 a.1 a.2

theorem encTrn_inj (a a' : Int × Int) (h : encTrn a = encTrn a') : a = a' := by
  simp only [encTrn, encTrn1] at h
  try simp [strs_inj, ints_inj, bools_inj, eL_eIs_inj, eBeats_inj, eBeat_iff, eL_eBeats_inj, eSpans_inj, eSpan_iff, eHoles_inj, eHole_iff, eLevels_inj, eLevel_iff, eFigss_inj, eFigs_iff, eRatios_inj, eRatio_iff, eReps_inj, eRep_iff, eStays_inj, eStay_iff] at h
  grind

theorem unTrn (x : Int) (n : Int) : unenc encTrn ([(vI x), (vI n)]) = some (x, n) := unenc_of encTrn_inj (x, n) rfl

def resTrn1 (x : Int) (n : Int) : AV × Heap := (vI (F.turn x n), [])

def preTrn1 (x : Int) (n : Int) : Bool := decide (0 < n)

noncomputable def oTrn : Orc := orc 9 true encTrn (fun a => preTrn1 a.1 a.2) fun a => resTrn1 a.1 a.2

theorem okTrn : OrcOK Try.prog noG oTrn := by
  refine mk_ok Try.f9 (keep := false) (by kernel_rfl) (by kernel_rfl) enTrn_ok mixed (no_loops (by kernel_rfl)) (by first | exact fun _ _ => ⟨rfl, rfl⟩ | (intro h; cases h)) ?_
  rintro ⟨x, n⟩ hpre hok
  show (runF enTrn false _ (encTrn1 _ _)).val = some (resTrn1 _ _)
  unfold encTrn1 resTrn1
  rw [evTrn]
  simp only [preTrn1, decide_eq_true_eq] at hpre
  have h0 : (n == 0) = false := beq_eq_false_iff_ne.2 (by omega)
  simp only [etaBeat, etaSpan, etaHole, etaLevel, etaFigs, etaRatio, etaRep, etaStay, Option.bind_some, List.length_map, unStrs, unInts, unBools, uneL_eIs, unBeats, uneL_eBeats, unSpans, unHoles, unLevels, unFigss, unRatios, unReps, unStays, F.lt, F.le, cond_true, cond_false, Bool.and_true, Bool.true_and, F.turn, F.lt, h0]
  cases decide (Int.tmod x n < 0) <;> rfl

noncomputable def enSsX : Env := envH ty noG lks [oSsn] [] [] []

theorem enSsX_ok : EnvOK Try.prog enSsX := by
  refine envH_ok lks_ok ty_ok ?_ ?_
  · simp only [List.forall_mem_cons]
    exact ⟨okSsn, by simp⟩
  · simp

theorem evSsX (l : List Beat) : (runF enSsX false Try.f10 [.sl (l.map eBeat)]).val =
  Option.bind (unenc encSsn [AV.sl (List.map eBeat l)]) fun (z : List Beat) => bif decide (List.length z ≤ (3000 : Nat)) then some (AV.sl (List.map eStr (F.sess z)), [])
  else none := (runFR_val).symm.trans (by kernel_rfl)

def encSsX1 (l : List Beat) : List AV := [.sl (l.map eBeat)]

def encSsX (a : (List Beat)) : List AV := encSsX1 a

theorem encSsX_inj (a a' : (List Beat)) (h : encSsX a = encSsX a') : a = a' := by
  simp only [encSsX, encSsX1] at h
  try simp [strs_inj, ints_inj, bools_inj, eL_eIs_inj, eBeats_inj, eBeat_iff, eL_eBeats_inj, eSpans_inj, eSpan_iff, eHoles_inj, eHole_iff, eLevels_inj, eLevel_iff, eFigss_inj, eFigs_iff, eRatios_inj, eRatio_iff, eReps_inj, eRep_iff, eStays_inj, eStay_iff] at h
  grind

theorem unSsX (l : List Beat) : unenc encSsX ([AV.sl (List.map eBeat l)]) = some (l) := unenc_of encSsX_inj (l) rfl

def resSsX1 (l : List Beat) : AV × Heap := (.sl ((F.sess l).map eStr), [])

def preSsX1 (l : List Beat) : Bool := decide (l.length ≤ 3000)

noncomputable def oSsX : Orc := orc 10 false encSsX (fun a => preSsX1 a) fun a => resSsX1 a

theorem okSsX : OrcOK Try.prog noG oSsX := by
  refine mk_ok Try.f10 (keep := false) (by kernel_rfl) (by kernel_rfl) enSsX_ok mixed (no_loops (by kernel_rfl)) (by first | exact fun _ _ => ⟨rfl, rfl⟩ | (intro h; cases h)) ?_
  rintro l hpre hok
  show (runF enSsX false _ (encSsX1 _)).val = some (resSsX1 _)
  unfold encSsX1 resSsX1
  rw [evSsX]
  simp only [preSsX1, decide_eq_true_eq] at hpre
  simp only [unSsn, preSsn1, etaBeat, etaSpan, etaHole, etaLevel, etaFigs, etaRatio, etaRep, etaStay, Option.bind_some, List.length_map, unStrs, unInts, unBools, uneL_eIs, unBeats, uneL_eBeats, unSpans, unHoles, unLevels, unFigss, unRatios, unReps, unStays, F.lt, F.le, cond_true, cond_false, Bool.and_true, Bool.true_and, decide_eq_true hpre]

end M
end Go.Proofs.Ytnkaadiofjoacaa
