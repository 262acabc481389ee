/- What is proved here: what Figures and Report of the reference return on plain data; the law DeskFiguresMatchSpec (no statement of the seat). -/
import Derived.Test.YtnkaadiofjoacaaB87
namespace Go.Proofs.Ytnkaadiofjoacaa
open Go Go.RowKit
set_option linter.unusedVariables false
set_option linter.unusedSimpArgs false
set_option maxHeartbeats 1000000

namespace M

noncomputable def enRFi : Env := envH ty noG lks [oRqF, oSes, oROf, oRfg] [] [] []

theorem enRFi_ok : EnvOK Try.prog enRFi := by
  refine envH_ok lks_ok ty_ok ?_ ?_
  · simp only [List.forall_mem_cons]
    exact ⟨okRqF, okSes, okROf, okRfg, by simp⟩
  · simp

theorem evRFi (l : List Beat) (q : Int) (x : ByteArray) : (runF enRFi false Try.f17 [.sl (l.map eBeat), vI q, vS x]).val =
  Option.bind (unenc encRqF [AV.sl (List.map eBeat l), (vI q)]) fun (z : List Beat × Int) => bif F.quietF z.fst z.snd != (0 : Int) then some (AV.tup [AV.agg [(vI (0 : Int)),
  (vI (0 : Int)), (vI (0 : Int)), (vI (0 : Int)), (vI (0 : Int)), (vI (0 : Int)), (vI (0 : Int)), (vB false)], (vI (F.quietF z.fst z.snd))], []) else Option.bind (unenc
  encSes [(vS x)]) fun (z : ByteArray) => bif !F.isName z then some (AV.tup [AV.agg [(vI (0 : Int)), (vI (0 : Int)), (vI (0 : Int)), (vI (0 : Int)), (vI (0 : Int)), (vI (0 :
  Int)), (vI (0 : Int)), (vB false)], (vI (5 : Int))], []) else Option.bind (unenc encROf [AV.sl (List.map eBeat l), (vS x)]) fun (z : List Beat × ByteArray) => bif decide
  (List.length z.fst ≤ (3000 : Nat)) then bif (↑(List.length (List.map eBeat (F.ofA z.snd [] z.fst))) : Int) == (0 : Int) then some (AV.tup [AV.agg [(vI (0 : Int)), (vI (0 :
  Int)), (vI (0 : Int)), (vI (0 : Int)), (vI (0 : Int)), (vI (0 : Int)), (vI (0 : Int)), (vB false)], (vI (9 : Int))], []) else Option.bind (unenc encRfg [AV.sl (List.map
  eBeat (F.ofA z.snd [] z.fst)), (vI q)]) fun (z : List Beat × Int) => bif decide (List.length z.fst ≤ (3000 : Nat)) && List.all z.fst F.okR then some (AV.tup [AV.agg [(vI
  (F.rfM z.snd z.fst).fst.wait), (vI (F.rfM z.snd z.fst).fst.played), (vI (F.rfM z.snd z.fst).fst.stalled), (vI (F.rfM z.snd z.fst).fst.paused), (vI (F.rfM z.snd
  z.fst).fst.stalls), (vI (F.rfM z.snd z.fst).fst.changes), (vI (IntKind.wrap IntKind.i64 (Int.tdiv (F.rfM z.snd z.fst).snd (1000 : Int)))), (vB (F.rfM z.snd
  z.fst).fst.ended)], (vI (0 : Int))], []) else none else none := (runFR_val).symm.trans (by kernel_rfl)

def encRFi1 (l : List Beat) (q : Int) (x : ByteArray) : List AV := [.sl (l.map eBeat), vI q, vS x]

def encRFi (a : (List Beat) × Int × ByteArray) : List AV := encRFi1 a.1 a.2.1 a.2.2

theorem encRFi_inj (a a' : (List Beat) × Int × ByteArray) (h : encRFi a = encRFi a') : a = a' := by
  simp only [encRFi, encRFi1] at h
  try simp [strs_inj, ints_inj, bools_inj, eBeats_inj, eBeat_iff, eL_eBeats_inj, eSpans_inj, eSpan_iff, eHoles_inj, eHole_iff, eLevels_inj, eLevel_iff, eFigss_inj, eFigs_iff, eRatios_inj, eRatio_iff, eReps_inj, eRep_iff, eStays_inj, eStay_iff] at h
  grind

theorem unRFi (l : List Beat) (q : Int) (x : ByteArray) : unenc encRFi ([AV.sl (List.map eBeat l), (vI q), (vS x)]) = some (l, q, x) := unenc_of encRFi_inj (l, q, x) rfl

def resRFi1 (l : List Beat) (q : Int) (x : ByteArray) : AV × Heap := (.tup [.agg (eFigs (F.figures l q x).1), vI (F.figures l q x).2], [])

def preRFi1 (l : List Beat) (q : Int) (x : ByteArray) : Bool := true

noncomputable def oRFi : Orc := orc 17 true encRFi (fun a => preRFi1 a.1 a.2.1 a.2.2) fun a => resRFi1 a.1 a.2.1 a.2.2

theorem okRFi : OrcOK Try.prog noG oRFi := by
  refine mk_ok Try.f17 (keep := false) (by kernel_rfl) (by kernel_rfl) enRFi_ok mixed (no_loops (by kernel_rfl)) (by first | exact fun _ _ => ⟨rfl, rfl⟩ | (intro h; cases h)) ?_
  rintro ⟨l, q, x⟩ hpre hok
  show (runF enRFi false _ (encRFi1 _ _ _)).val = some (resRFi1 _ _ _)
  unfold encRFi1 resRFi1
  rw [evRFi]
  simp only [unRqF, unSes, unROf, unRfg, preRqF1, preSes1, preROf1, preRfg1, etaBeat, etaSpan, etaHole, etaLevel, etaFigs, etaRatio, etaRep, etaStay, Option.bind_some, List.length_map, unStrs, unInts, unBools, unBeats, uneL_eBeats, unSpans, unHoles, unLevels, unFigss, unRatios, unReps, unStays, F.lt, F.le, cond_true, cond_false, Bool.and_true, Bool.true_and, F.figures, F.sesF]
  by_cases h1 : F.quietF l q = 0
  case neg => rw [bne1 h1]; simp only [cond_true, bne1 h1]; rfl
  rw [bne0 h1]
  simp only [cond_false]
  obtain ⟨hc, hq1, hq2⟩ := F.quietF_ok h1
  cases F.isName x
  · rfl
  simp only [Bool.not_true, Bool.not_false, cond_true, cond_false]
  have hl := F.chk3 hc
  have hol := F.ofA_len x l []
  simp only [List.length_nil, Nat.zero_add] at hol
  have hol3 : (F.ofA x [] l).length ≤ 3000 := by omega
  have hokr := F.okR_all (l := F.ofA x [] l) fun b hb => (F.checkB_sorted hc).2 b (F.ofA_mem hb).1
  simp only [unRqF, unSes, unROf, unRfg, preRqF1, preSes1, preROf1, preRfg1, etaBeat, etaSpan, etaHole, etaLevel, etaFigs, etaRatio, etaRep, etaStay, Option.bind_some, List.length_map, unStrs, unInts, unBools, unBeats, uneL_eBeats, unSpans, unHoles, unLevels, unFigss, unRatios, unReps, unStays, F.lt, F.le, cond_true, cond_false, Bool.and_true, Bool.true_and, decide_eq_true hl]
  by_cases h2 : F.ofA x [] l = []
  · rw [h2]; rfl
  · have e1 : ((((F.ofA x [] l).length : Nat) : Int) == 0) = false := by
      rw [beq_eq_false_iff_ne]
      intro e
      exact h2 (List.length_eq_zero_iff.1 (by omega))
    have e2 : (F.ofA x [] l).isEmpty = false := by
      cases h : F.ofA x [] l with
      | nil => exact absurd h h2
      | cons y r => rfl
    have e3 := F.rfigs_eq (q := q) hc hq1 hq2 h2
    have e4 : ((0 : Int) != 0) = false := rfl
    simp only [unRqF, unSes, unROf, unRfg, preRqF1, preSes1, preROf1, preRfg1, etaBeat, etaSpan, etaHole, etaLevel, etaFigs, etaRatio, etaRep, etaStay, Option.bind_some, List.length_map, unStrs, unInts, unBools, unBeats, uneL_eBeats, unSpans, unHoles, unLevels, unFigss, unRatios, unReps, unStays, F.lt, F.le, cond_true, cond_false, Bool.and_true, Bool.true_and, e1, e2, e4, decide_eq_true hol3, hokr, ← e3]
    rfl

def stRr1 (l : List Beat) (q : Int) (w : Span) (ns : List ByteArray) (i : Nat) (n1 : Int) (n2 : Int) (ws : List Int) (p : Int) (s : Int) (b : Int) : St := ⟨[(32, vI i), (31, vI ns.length), (30, .sl (ns.map eStr)), (13, vI b), (12, vI p), (11, vI s), (10, .own 10), (9, .ptr 9 0 0), (6, .ptr 6 0 0), (5, .ptr 5 0 0), (1, vI q), (0, .sl (l.map eBeat))], [(10, ⟨false, 3, 1, ws.map eI⟩), (9, ⟨true, 0, 0, [[vI n1, vI n2, vI 0, vI 0, vI 0, vI 0, vI 0, vI 0]]⟩), (6, ⟨true, 0, 0, [[vI 0, vI 0, vI 0, vI 0, vI 0, vI 0, vI 0, vI 0]]⟩), (5, ⟨true, 0, 0, [eSpan w]⟩)]⟩

def stRr11 (a : (List Beat) × Int × Span × (List ByteArray) × Nat × Int × Int × (List Int) × Int × Int × Int) : St := stRr1 a.1 a.2.1 a.2.2.1 a.2.2.2.1 a.2.2.2.2.1 a.2.2.2.2.2.1 a.2.2.2.2.2.2.1 a.2.2.2.2.2.2.2.1 a.2.2.2.2.2.2.2.2.1 a.2.2.2.2.2.2.2.2.2.1 a.2.2.2.2.2.2.2.2.2.2

theorem stRr1_inj (a a' : (List Beat) × Int × Span × (List ByteArray) × Nat × Int × Int × (List Int) × Int × Int × Int) (h : stRr11 a = stRr11 a') : a = a' := by
  simp only [stRr11, stRr1] at h
  try simp [strs_inj, ints_inj, bools_inj, eBeats_inj, eBeat_iff, eL_eBeats_inj, eSpans_inj, eSpan_iff, eHoles_inj, eHole_iff, eLevels_inj, eLevel_iff, eFigss_inj, eFigs_iff, eRatios_inj, eRatio_iff, eReps_inj, eRep_iff, eStays_inj, eStay_iff] at h
  grind

theorem unstRr1 (l : List Beat) (q : Int) (w : Span) (ns : List ByteArray) (i : Nat) (n1 : Int) (n2 : Int) (ws : List Int) (p : Int) (s : Int) (b : Int) : unenc stRr11 (St.mk [(32, (vI (↑i : Int))), (31, (vI (↑(List.length ns) : Int))), (30, AV.sl (List.map eStr ns)), (13, (vI b)), (12, (vI p)), (11, (vI s)), (10, .own 10), (9, .ptr 9 0
  0), (6, .ptr 6 0 0), (5, .ptr 5 0 0), (1, (vI q)), (0, AV.sl (List.map eBeat l))] [(10, Blk.mk false 3 1 (List.map eI ws)), (9, Blk.mk true 0 0 [[(vI n1), (vI n2), (vI (0
  : Int)), (vI (0 : Int)), (vI (0 : Int)), (vI (0 : Int)), (vI (0 : Int)), (vI (0 : Int))]]), (6, Blk.mk true 0 0 [[(vI (0 : Int)), (vI (0 : Int)), (vI (0 : Int)), (vI (0 :
  Int)), (vI (0 : Int)), (vI (0 : Int)), (vI (0 : Int)), (vI (0 : Int))]]), (5, Blk.mk true 0 0 [[(vI w.fr), (vI w.to)]])]) = some (l, q, w, ns, i, n1, n2, ws, p, s, b) := unenc_of stRr1_inj (l, q, w, ns, i, n1, n2, ws, p, s, b) rfl

theorem unstRr10 (l : List Beat) (q : Int) (w : Span) (ns : List ByteArray)  : unenc stRr11 (St.mk [(32, (vI (0 : Int))), (31, (vI (↑(List.length ns) : Int))), (30, AV.sl (List.map eStr ns)), (13, (vI (0 : Int))), (12, (vI (0 : Int))), (11, (vI (0 : Int))), (10,
  .own 10), (9, .ptr 9 0 0), (6, .ptr 6 0 0), (5, .ptr 5 0 0), (1, (vI q)), (0, AV.sl (List.map eBeat l))] [(10, Blk.mk false 3 1 []), (9, Blk.mk true 0 0 [[(vI (0 : Int)),
  (vI (0 : Int)), (vI (0 : Int)), (vI (0 : Int)), (vI (0 : Int)), (vI (0 : Int)), (vI (0 : Int)), (vI (0 : Int))]]), (6, Blk.mk true 0 0 [[(vI (0 : Int)), (vI (0 : Int)),
  (vI (0 : Int)), (vI (0 : Int)), (vI (0 : Int)), (vI (0 : Int)), (vI (0 : Int)), (vI (0 : Int))]]), (5, Blk.mk true 0 0 [[(vI w.fr), (vI w.to)]])]) = some (l, q, w, ns, 0, 0, 0, [], 0, 0, 0) := unenc_of stRr1_inj (l, q, w, ns, 0, 0, 0, [], 0, 0, 0) rfl

def outRr1 (l : List Beat) (q : Int) (w : Span) (ns : List ByteArray) (i : Nat) (n1 : Int) (n2 : Int) (ws : List Int) (p : Int) (s : Int) (b : Int) : T (Ex × St) := .ret (.exit 0, ⟨[(13, vI ((ns.drop i).foldl (F.repRS q w l) (n1, n2, ws, p, s, b)).2.2.2.2.2), (12, vI ((ns.drop i).foldl (F.repRS q w l) (n1, n2, ws, p, s, b)).2.2.2.1), (11, vI ((ns.drop i).foldl (F.repRS q w l) (n1, n2, ws, p, s, b)).2.2.2.2.1), (10, .own 10), (9, .ptr 9 0 0), (6, .ptr 6 0 0)], [(10, ⟨false, 3, 1, ((ns.drop i).foldl (F.repRS q w l) (n1, n2, ws, p, s, b)).2.2.1.map eI⟩), (9, ⟨true, 0, 0, [[vI ((ns.drop i).foldl (F.repRS q w l) (n1, n2, ws, p, s, b)).1, vI ((ns.drop i).foldl (F.repRS q w l) (n1, n2, ws, p, s, b)).2.1, vI 0, vI 0, vI 0, vI 0, vI 0, vI 0]]⟩), (6, ⟨true, 0, 0, [[vI 0, vI 0, vI 0, vI 0, vI 0, vI 0, vI 0, vI 0]]⟩)]⟩)

noncomputable def prlRr1 (l : List Beat) (q : Int) (w : Span) (ns : List ByteArray) (i : Nat) (n1 : Int) (n2 : Int) (ws : List Int) (p : Int) (s : Int) (b : Int) : Bool := decide (F.checkB l = 0 ∧ 1 ≤ q ∧ q ≤ 1000000 ∧ w.fr < w.to ∧ ns = F.sess l ∧ i = 0 ∧ n1 = 0 ∧ n2 = 0 ∧ ws = [] ∧ p = 0 ∧ s = 0 ∧ b = 0)

noncomputable def lpRr1 : Nat × (St → T (Ex × St)) := (8, lpo [32, 31, 30, 13, 12, 11, 10, 9, 6, 5, 1, 0] [10, 9, 6, 5] stRr11 (fun a => prlRr1 a.1 a.2.1 a.2.2.1 a.2.2.2.1 a.2.2.2.2.1 a.2.2.2.2.2.1 a.2.2.2.2.2.2.1 a.2.2.2.2.2.2.2.1 a.2.2.2.2.2.2.2.2.1 a.2.2.2.2.2.2.2.2.2.1 a.2.2.2.2.2.2.2.2.2.2) fun a => outRr1 a.1 a.2.1 a.2.2.1 a.2.2.2.1 a.2.2.2.2.1 a.2.2.2.2.2.1 a.2.2.2.2.2.2.1 a.2.2.2.2.2.2.2.1 a.2.2.2.2.2.2.2.2.1 a.2.2.2.2.2.2.2.2.2.1 a.2.2.2.2.2.2.2.2.2.2)

def stRr2 (l : List Beat) (q : Int) (w : Span) (ns : List ByteArray) (i : Nat) (n1 : Int) (n2 : Int) (ws : List Int) (p : Int) (s : Int) (b : Int) (x : ByteArray) (xs : List Span) (j : Nat) (h : Bool) : St := ⟨[(41, vI j), (40, vI xs.length), (39, .sl (xs.map eSpan)), (32, vI i), (31, vI ns.length), (30, .sl (ns.map eStr)), (16, vB h), (15, vS x), (13, vI b), (12, vI p), (11, vI s), (10, .own 10), (9, .ptr 9 0 0), (6, .ptr 6 0 0), (5, .ptr 5 0 0), (1, vI q), (0, .sl (l.map eBeat))], [(10, ⟨false, 3, 1, ws.map eI⟩), (9, ⟨true, 0, 0, [[vI n1, vI n2, vI 0, vI 0, vI 0, vI 0, vI 0, vI 0]]⟩), (6, ⟨true, 0, 0, [[vI 0, vI 0, vI 0, vI 0, vI 0, vI 0, vI 0, vI 0]]⟩), (5, ⟨true, 0, 0, [eSpan w]⟩)]⟩

def stRr21 (a : (List Beat) × Int × Span × (List ByteArray) × Nat × Int × Int × (List Int) × Int × Int × Int × ByteArray × (List Span) × Nat × Bool) : St := stRr2 a.1 a.2.1 a.2.2.1 a.2.2.2.1 a.2.2.2.2.1 a.2.2.2.2.2.1 a.2.2.2.2.2.2.1 a.2.2.2.2.2.2.2.1 a.2.2.2.2.2.2.2.2.1 a.2.2.2.2.2.2.2.2.2.1 a.2.2.2.2.2.2.2.2.2.2.1 a.2.2.2.2.2.2.2.2.2.2.2.1 a.2.2.2.2.2.2.2.2.2.2.2.2.1 a.2.2.2.2.2.2.2.2.2.2.2.2.2.1 a.2.2.2.2.2.2.2.2.2.2.2.2.2.2

theorem stRr2_inj (a a' : (List Beat) × Int × Span × (List ByteArray) × Nat × Int × Int × (List Int) × Int × Int × Int × ByteArray × (List Span) × Nat × Bool) (h : stRr21 a = stRr21 a') : a = a' := by
  simp only [stRr21, stRr2] at h
  try simp [strs_inj, ints_inj, bools_inj, eBeats_inj, eBeat_iff, eL_eBeats_inj, eSpans_inj, eSpan_iff, eHoles_inj, eHole_iff, eLevels_inj, eLevel_iff, eFigss_inj, eFigs_iff, eRatios_inj, eRatio_iff, eReps_inj, eRep_iff, eStays_inj, eStay_iff] at h
  grind

theorem unstRr2 (l : List Beat) (q : Int) (w : Span) (ns : List ByteArray) (i : Nat) (n1 : Int) (n2 : Int) (ws : List Int) (p : Int) (s : Int) (b : Int) (x : ByteArray) (xs : List Span) (j : Nat) (h : Bool) : unenc stRr21 (St.mk [(41, (vI (↑j : Int))), (40, (vI (↑(List.length xs) : Int))), (39, AV.sl (List.map eSpan xs)), (32, (vI (↑i : Int))), (31, (vI (↑(List.length ns) : Int))), (30,
  AV.sl (List.map eStr ns)), (16, (vB h)), (15, (vS x)), (13, (vI b)), (12, (vI p)), (11, (vI s)), (10, .own 10), (9, .ptr 9 0 0), (6, .ptr 6 0 0), (5, .ptr 5 0 0), (1, (vI
  q)), (0, AV.sl (List.map eBeat l))] [(10, Blk.mk false 3 1 (List.map eI ws)), (9, Blk.mk true 0 0 [[(vI n1), (vI n2), (vI (0 : Int)), (vI (0 : Int)), (vI (0 : Int)), (vI
  (0 : Int)), (vI (0 : Int)), (vI (0 : Int))]]), (6, Blk.mk true 0 0 [[(vI (0 : Int)), (vI (0 : Int)), (vI (0 : Int)), (vI (0 : Int)), (vI (0 : Int)), (vI (0 : Int)), (vI (0
  : Int)), (vI (0 : Int))]]), (5, Blk.mk true 0 0 [[(vI w.fr), (vI w.to)]])]) = some (l, q, w, ns, i, n1, n2, ws, p, s, b, x, xs, j, h) := unenc_of stRr2_inj (l, q, w, ns, i, n1, n2, ws, p, s, b, x, xs, j, h) rfl

theorem unstRr20 (l : List Beat) (q : Int) (w : Span) (ns : List ByteArray) (i : Nat) (n1 : Int) (n2 : Int) (ws : List Int) (p : Int) (s : Int) (b : Int) (x : ByteArray) (xs : List Span)  : unenc stRr21 (St.mk [(41, (vI (0 : Int))), (40, (vI (↑(List.length xs) : Int))), (39, AV.sl (List.map eSpan xs)), (32, (vI (↑i : Int))), (31, (vI (↑(List.length ns) : Int))), (30, AV.sl
  (List.map eStr ns)), (16, (vB false)), (15, (vS x)), (13, (vI b)), (12, (vI p)), (11, (vI s)), (10, .own 10), (9, .ptr 9 0 0), (6, .ptr 6 0 0), (5, .ptr 5 0 0), (1, (vI
  q)), (0, AV.sl (List.map eBeat l))] [(10, Blk.mk false 3 1 (List.map eI ws)), (9, Blk.mk true 0 0 [[(vI n1), (vI n2), (vI (0 : Int)), (vI (0 : Int)), (vI (0 : Int)), (vI
  (0 : Int)), (vI (0 : Int)), (vI (0 : Int))]]), (6, Blk.mk true 0 0 [[(vI (0 : Int)), (vI (0 : Int)), (vI (0 : Int)), (vI (0 : Int)), (vI (0 : Int)), (vI (0 : Int)), (vI (0
  : Int)), (vI (0 : Int))]]), (5, Blk.mk true 0 0 [[(vI w.fr), (vI w.to)]])]) = some (l, q, w, ns, i, n1, n2, ws, p, s, b, x, xs, 0, false) := unenc_of stRr2_inj (l, q, w, ns, i, n1, n2, ws, p, s, b, x, xs, 0, false) rfl

def outRr2 (l : List Beat) (q : Int) (w : Span) (ns : List ByteArray) (i : Nat) (n1 : Int) (n2 : Int) (ws : List Int) (p : Int) (s : Int) (b : Int) (x : ByteArray) (xs : List Span) (j : Nat) (h : Bool) : T (Ex × St) := .ret (.exit 2, ⟨[(32, vI i), (31, vI ns.length), (30, .sl (ns.map eStr)), (16, vB (h || (xs.drop j).any (F.ov w))), (15, vS x), (13, vI b), (12, vI p), (11, vI s), (10, .own 10), (9, .ptr 9 0 0), (6, .ptr 6 0 0), (5, .ptr 5 0 0), (1, vI q), (0, .sl (l.map eBeat))], [(10, ⟨false, 3, 1, ws.map eI⟩), (9, ⟨true, 0, 0, [[vI n1, vI n2, vI 0, vI 0, vI 0, vI 0, vI 0, vI 0]]⟩), (6, ⟨true, 0, 0, [[vI 0, vI 0, vI 0, vI 0, vI 0, vI 0, vI 0, vI 0]]⟩), (5, ⟨true, 0, 0, [eSpan w]⟩)]⟩)

noncomputable def prlRr2 (l : List Beat) (q : Int) (w : Span) (ns : List ByteArray) (i : Nat) (n1 : Int) (n2 : Int) (ws : List Int) (p : Int) (s : Int) (b : Int) (x : ByteArray) (xs : List Span) (j : Nat) (h : Bool) : Bool := decide (xs.length ≤ 3000 ∧ j ≤ xs.length)

noncomputable def lpRr2 : Nat × (St → T (Ex × St)) := (12, lpo [41, 40, 39, 32, 31, 30, 16, 15, 13, 12, 11, 10, 9, 6, 5, 1, 0] [10, 9, 6, 5] stRr21 (fun a => prlRr2 a.1 a.2.1 a.2.2.1 a.2.2.2.1 a.2.2.2.2.1 a.2.2.2.2.2.1 a.2.2.2.2.2.2.1 a.2.2.2.2.2.2.2.1 a.2.2.2.2.2.2.2.2.1 a.2.2.2.2.2.2.2.2.2.1 a.2.2.2.2.2.2.2.2.2.2.1 a.2.2.2.2.2.2.2.2.2.2.2.1 a.2.2.2.2.2.2.2.2.2.2.2.2.1 a.2.2.2.2.2.2.2.2.2.2.2.2.2.1 a.2.2.2.2.2.2.2.2.2.2.2.2.2.2) fun a => outRr2 a.1 a.2.1 a.2.2.1 a.2.2.2.1 a.2.2.2.2.1 a.2.2.2.2.2.1 a.2.2.2.2.2.2.1 a.2.2.2.2.2.2.2.1 a.2.2.2.2.2.2.2.2.1 a.2.2.2.2.2.2.2.2.2.1 a.2.2.2.2.2.2.2.2.2.2.1 a.2.2.2.2.2.2.2.2.2.2.2.1 a.2.2.2.2.2.2.2.2.2.2.2.2.1 a.2.2.2.2.2.2.2.2.2.2.2.2.2.1 a.2.2.2.2.2.2.2.2.2.2.2.2.2.2)

noncomputable def enRr : Env := envH ty noG lks [oWnd, oSsn, oRth, oROf, oRfg, oTho, oRpt] [oSo] [] [lpRr1, lpRr2]

theorem enRr_ok : EnvOK Try.prog enRr := by
  refine envH_ok lks_ok ty_ok ?_ ?_
  · simp only [List.forall_mem_cons]
    exact ⟨okWnd, okSsn, okRth, okROf, okRfg, okTho, okRpt, by simp⟩
  · simp only [List.forall_mem_cons]
    exact ⟨okSo, by simp⟩

theorem evRr2L (l : List Beat) (q : Int) (w : Span) (ns : List ByteArray) (i : Nat) (n1 : Int) (n2 : Int) (ws : List Int) (p : Int) (s : Int) (b : Int) (x : ByteArray) (xs : List Span) (j : Nat) (h : Bool) : ((exec enRr (loopN Try.f19 1) (stRr2 l q w ns i n1 n2 ws p s b x xs j h)).bind (lessX ([41, 40, 39, 32, 31, 30, 16, 15, 13, 12, 11, 10, 9, 6, 5, 1, 0], [10, 9, 6, 5]) ([32, 31, 30, 16, 15, 13, 12, 11, 10, 9, 6, 5, 1, 0], [10, 9, 6, 5]) ([], []))).val =
  bif decide ((↑j : Int) < (↑(List.length xs) : Int)) then Option.bind (unenc (List.map eSpan) (List.map eSpan xs)) fun (z : List Span) => bif decide (j < List.length z)
  then some (Ex.normal, St.mk [(41, (vI (IntKind.wrap IntKind.i64 ((↑j : Int) + (1 : Int))))), (40, (vI (↑(List.length xs) : Int))), (39, AV.sl (List.map eSpan xs)), (32,
  (vI (↑i : Int))), (31, (vI (↑(List.length ns) : Int))), (30, AV.sl (List.map eStr ns)), (16, (vB (bif h then true else bif decide ((List.getD z j (Span.mk (0 : Int) (0 :
  Int))).fr < w.to) then decide (w.fr < (List.getD z j (Span.mk (0 : Int) (0 : Int))).to) else false))), (15, (vS x)), (13, (vI b)), (12, (vI p)), (11, (vI s)), (10, .own
  10), (9, .ptr 9 0 0), (6, .ptr 6 0 0), (5, .ptr 5 0 0), (1, (vI q)), (0, AV.sl (List.map eBeat l))] [(10, Blk.mk false 3 1 (List.map eI ws)), (9, Blk.mk true 0 0 [[(vI
  n1), (vI n2), (vI (0 : Int)), (vI (0 : Int)), (vI (0 : Int)), (vI (0 : Int)), (vI (0 : Int)), (vI (0 : Int))]]), (6, Blk.mk true 0 0 [[(vI (0 : Int)), (vI (0 : Int)), (vI
  (0 : Int)), (vI (0 : Int)), (vI (0 : Int)), (vI (0 : Int)), (vI (0 : Int)), (vI (0 : Int))]]), (5, Blk.mk true 0 0 [[(vI w.fr), (vI w.to)]])]) else none else some (Ex.exit
  (2 : Nat), St.mk [(32, (vI (↑i : Int))), (31, (vI (↑(List.length ns) : Int))), (30, AV.sl (List.map eStr ns)), (16, (vB h)), (15, (vS x)), (13, (vI b)), (12, (vI p)), (11,
  (vI s)), (10, .own 10), (9, .ptr 9 0 0), (6, .ptr 6 0 0), (5, .ptr 5 0 0), (1, (vI q)), (0, AV.sl (List.map eBeat l))] [(10, Blk.mk false 3 1 (List.map eI ws)), (9, Blk.mk
  true 0 0 [[(vI n1), (vI n2), (vI (0 : Int)), (vI (0 : Int)), (vI (0 : Int)), (vI (0 : Int)), (vI (0 : Int)), (vI (0 : Int))]]), (6, Blk.mk true 0 0 [[(vI (0 : Int)), (vI
  (0 : Int)), (vI (0 : Int)), (vI (0 : Int)), (vI (0 : Int)), (vI (0 : Int)), (vI (0 : Int)), (vI (0 : Int))]]), (5, Blk.mk true 0 0 [[(vI w.fr), (vI w.to)]])]) := (execR_bind _ _ _).symm.trans (by kernel_rfl)

theorem lpRr2_ok (l : List Beat) (q : Int) (w : Span) (ns : List ByteArray) (i : Nat) (n1 : Int) (n2 : Int) (ws : List Int) (p : Int) (s : Int) (b : Int) (x : ByteArray) (xs : List Span) (j : Nat) (h : Bool) (hp : prlRr2 l q w ns i n1 n2 ws p s b x xs j h = true) : ∀ ex s', (outRr2 l q w ns i n1 n2 ws p s b x xs j h).val = some (ex, s') → LoopOK enRr (loopN Try.f19 1) (stRr2 l q w ns i n1 n2 ws p s b x xs j h) ex s' := by
  simp only [prlRr2, Bool.and_eq_true, decide_eq_true_eq] at hp
  obtain ⟨h1, h2⟩ := hp
  refine loop_gen (st := fun t : Nat × Bool => stRr2 l q w ns i n1 n2 ws p s b x xs t.1 t.2) (out := fun t => outRr2 l q w ns i n1 n2 ws p s b x xs t.1 t.2) (I := fun t => t.1 ≤ xs.length) (n := ([41, 40, 39, 32, 31, 30, 16, 15, 13, 12, 11, 10, 9, 6, 5, 1, 0], [10, 9, 6, 5])) (e := ([32, 31, 30, 16, 15, 13, 12, 11, 10, 9, 6, 5, 1, 0], [10, 9, 6, 5])) (r := ([], [])) (fun t => xs.length - t.1) ?_ (j, h) h2
  rintro ⟨j, h⟩ hj
  simp only at hj
  by_cases hlt : j < xs.length
  · right
    obtain ⟨y, hy⟩ := at_lt hlt
    refine ⟨(j + 1, h || F.ov w y), ?_, rfl, hlt, by simp only; omega, ?_⟩
    · rw [evRr2L]
      have e : (bif h then true else bif decide (y.fr < w.to) then decide (w.fr < y.to) else false) = (h || F.ov w y) := by
        unfold F.ov
        cases h <;> cases decide (y.fr < w.to) <;> rfl
      simp only [unWnd, unSsn, unRth, unROf, unRfg, unTho, unRpt, unSo, unWndw, preWnd1, preSsn1, preRth1, preROf1, preRfg1, preTho1, preRpt1, preSo1, unstRr1, unstRr2, unstRr10, unstRr20, prlRr1, prlRr2, outRr1, outRr2, etaBeat, etaSpan, etaHole, etaLevel, etaFigs, etaRatio, etaRep, etaStay, Option.bind_some, List.length_map, unStrs, unInts, unBools, unBeats, uneL_eBeats, unSpans, unHoles, unLevels, unFigss, unRatios, unReps, unStays, F.lt, F.le, cond_true, cond_false, Bool.and_true, Bool.true_and, cast_lt hlt, decide_eq_true hlt, getD_at hy, w_add1 (show j < 9223372036854775807 by omega), e, stRr2]
      rfl
    · simp only [outRr2, drop_at hy, List.any_cons, Bool.or_assoc]
  · have : j = xs.length := by omega
    subst this
    left
    refine ⟨_, ?_, rfl, by simp, rfl⟩
    rw [evRr2L]
    simp only [cast_ge, cond_false, List.drop_length, List.any_nil, Bool.or_false]
    rfl

theorem evRr1L (l : List Beat) (q : Int) (w : Span) (ns : List ByteArray) (i : Nat) (n1 : Int) (n2 : Int) (ws : List Int) (p : Int) (s : Int) (b : Int) : ((exec enRr (loopN Try.f19 0) (stRr1 l q w ns i n1 n2 ws p s b)).bind (lessX ([32, 31, 30, 13, 12, 11, 10, 9, 6, 5, 1, 0], [10, 9, 6, 5]) ([13, 12, 11, 10, 9, 6], [10, 9, 6]) ([], []))).val =
  bif decide ((↑i : Int) < (↑(List.length ns) : Int)) then Option.bind (unenc (List.map eStr) (List.map eStr ns)) fun (z : List ByteArray) => bif decide (i < List.length z)
  then Option.bind (unenc encRth [AV.sl (List.map eBeat l), (vI q), (vS (List.getD z i (ByteArray.mk (Array.mk []))))]) fun (z_1 : List Beat × Int × ByteArray) => bif decide
  (List.length z_1.fst ≤ (3000 : Nat)) then Option.bind (unenc stRr21 (St.mk [(41, (vI (0 : Int))), (40, (vI (↑(List.length (List.map eSpan (F.rthA z_1.snd.fst z_1.snd.snd
  [] z_1.fst))) : Int))), (39, AV.sl (List.map eSpan (F.rthA z_1.snd.fst z_1.snd.snd [] z_1.fst))), (32, (vI (↑i : Int))), (31, (vI (↑(List.length ns) : Int))), (30, AV.sl
  (List.map eStr ns)), (16, (vB false)), (15, (vS (List.getD z i (ByteArray.mk (Array.mk []))))), (13, (vI b)), (12, (vI p)), (11, (vI s)), (10, .own 10), (9, .ptr 9 0 0),
  (6, .ptr 6 0 0), (5, .ptr 5 0 0), (1, (vI q)), (0, AV.sl (List.map eBeat l))] [(10, Blk.mk false 3 1 (List.map eI ws)), (9, Blk.mk true 0 0 [[(vI n1), (vI n2), (vI (0 :
  Int)), (vI (0 : Int)), (vI (0 : Int)), (vI (0 : Int)), (vI (0 : Int)), (vI (0 : Int))]]), (6, Blk.mk true 0 0 [[(vI (0 : Int)), (vI (0 : Int)), (vI (0 : Int)), (vI (0 :
  Int)), (vI (0 : Int)), (vI (0 : Int)), (vI (0 : Int)), (vI (0 : Int))]]), (5, Blk.mk true 0 0 [[(vI w.fr), (vI w.to)]])])) fun (z : List Beat × Int × Span × List ByteArray
  × Nat × Int × Int × List Int × Int × Int × Int × ByteArray × List Span × Nat × Bool) => bif decide (List.length z.snd.snd.snd.snd.snd.snd.snd.snd.snd.snd.snd.snd.fst ≤
  (3000 : Nat) ∧ z.snd.snd.snd.snd.snd.snd.snd.snd.snd.snd.snd.snd.snd.fst ≤ List.length z.snd.snd.snd.snd.snd.snd.snd.snd.snd.snd.snd.snd.fst) && true then bif
  !(z.snd.snd.snd.snd.snd.snd.snd.snd.snd.snd.snd.snd.snd.snd || List.any (List.drop z.snd.snd.snd.snd.snd.snd.snd.snd.snd.snd.snd.snd.snd.fst
  z.snd.snd.snd.snd.snd.snd.snd.snd.snd.snd.snd.snd.fst) (F.ov z.snd.snd.fst)) then some (Ex.normal, St.mk [(32, (vI (IntKind.wrap IntKind.i64 ((↑z.snd.snd.snd.snd.fst :
  Int) + (1 : Int))))), (31, (vI (↑(List.length z.snd.snd.snd.fst) : Int))), (30, AV.sl (List.map eStr z.snd.snd.snd.fst)), (13, (vI
  z.snd.snd.snd.snd.snd.snd.snd.snd.snd.snd.fst)), (12, (vI z.snd.snd.snd.snd.snd.snd.snd.snd.fst)), (11, (vI z.snd.snd.snd.snd.snd.snd.snd.snd.snd.fst)), (10, .own 10), (9,
  .ptr 9 0 0), (6, .ptr 6 0 0), (5, .ptr 5 0 0), (1, (vI z.snd.fst)), (0, AV.sl (List.map eBeat z.fst))] [(10, Blk.mk false 3 1 (List.map eI
  z.snd.snd.snd.snd.snd.snd.snd.fst)), (9, Blk.mk true 0 0 [[(vI z.snd.snd.snd.snd.snd.fst), (vI z.snd.snd.snd.snd.snd.snd.fst), (vI (0 : Int)), (vI (0 : Int)), (vI (0 :
  Int)), (vI (0 : Int)), (vI (0 : Int)), (vI (0 : Int))]]), (6, Blk.mk true 0 0 [[(vI (0 : Int)), (vI (0 : Int)), (vI (0 : Int)), (vI (0 : Int)), (vI (0 : Int)), (vI (0 :
  Int)), (vI (0 : Int)), (vI (0 : Int))]]), (5, Blk.mk true 0 0 [[(vI z.snd.snd.fst.fr), (vI z.snd.snd.fst.to)]])]) else Option.bind (unenc encROf [AV.sl (List.map eBeat
  z.fst), (vS z.snd.snd.snd.snd.snd.snd.snd.snd.snd.snd.snd.fst)]) fun (z_2 : List Beat × ByteArray) => bif decide (List.length z_2.fst ≤ (3000 : Nat)) then Option.bind
  (unenc encRfg [AV.sl (List.map eBeat (F.ofA z_2.snd [] z_2.fst)), (vI z.snd.fst)]) fun (z_3 : List Beat × Int) => bif decide (List.length z_3.fst ≤ (3000 : Nat)) &&
  List.all z_3.fst F.okR then bif decide ((F.rfM z_3.snd z_3.fst).fst.wait < (0 : Int)) then some (Ex.normal, St.mk [(32, (vI (IntKind.wrap IntKind.i64
  ((↑z.snd.snd.snd.snd.fst : Int) + (1 : Int))))), (31, (vI (↑(List.length z.snd.snd.snd.fst) : Int))), (30, AV.sl (List.map eStr z.snd.snd.snd.fst)), (13, (vI (IntKind.wrap
  IntKind.i64 (z.snd.snd.snd.snd.snd.snd.snd.snd.snd.snd.fst + (F.rfM z_3.snd z_3.fst).snd)))), (12, (vI (IntKind.wrap IntKind.i64 (z.snd.snd.snd.snd.snd.snd.snd.snd.fst +
  (F.rfM z_3.snd z_3.fst).fst.played)))), (11, (vI (IntKind.wrap IntKind.i64 (z.snd.snd.snd.snd.snd.snd.snd.snd.snd.fst + (F.rfM z_3.snd z_3.fst).fst.stalled)))), (10, .own
  10), (9, .ptr 9 0 0), (6, .ptr 6 0 0), (5, .ptr 5 0 0), (1, (vI z.snd.fst)), (0, AV.sl (List.map eBeat z.fst))] [(10, Blk.mk false 3 1 (List.map eI
  z.snd.snd.snd.snd.snd.snd.snd.fst)), (9, Blk.mk true 0 0 [[(vI (IntKind.wrap IntKind.i64 (z.snd.snd.snd.snd.snd.fst + (1 : Int)))), (vI (IntKind.wrap IntKind.i64
  (z.snd.snd.snd.snd.snd.snd.fst + (1 : Int)))), (vI (0 : Int)), (vI (0 : Int)), (vI (0 : Int)), (vI (0 : Int)), (vI (0 : Int)), (vI (0 : Int))]]), (6, Blk.mk true 0 0 [[(vI
  (0 : Int)), (vI (0 : Int)), (vI (0 : Int)), (vI (0 : Int)), (vI (0 : Int)), (vI (0 : Int)), (vI (0 : Int)), (vI (0 : Int))]]), (5, Blk.mk true 0 0 [[(vI z.snd.snd.fst.fr),
  (vI z.snd.snd.fst.to)]])]) else bif Nat.ble ((List.length (List.map eI z.snd.snd.snd.snd.snd.snd.snd.fst) + (1 : Nat)) * (8 : Nat)) (140737488355328 : Nat) && true then
  some (Ex.normal, St.mk [(32, (vI (IntKind.wrap IntKind.i64 ((↑z.snd.snd.snd.snd.fst : Int) + (1 : Int))))), (31, (vI (↑(List.length z.snd.snd.snd.fst) : Int))), (30, AV.sl
  (List.map eStr z.snd.snd.snd.fst)), (13, (vI (IntKind.wrap IntKind.i64 (z.snd.snd.snd.snd.snd.snd.snd.snd.snd.snd.fst + (F.rfM z_3.snd z_3.fst).snd)))), (12, (vI
  (IntKind.wrap IntKind.i64 (z.snd.snd.snd.snd.snd.snd.snd.snd.fst + (F.rfM z_3.snd z_3.fst).fst.played)))), (11, (vI (IntKind.wrap IntKind.i64
  (z.snd.snd.snd.snd.snd.snd.snd.snd.snd.fst + (F.rfM z_3.snd z_3.fst).fst.stalled)))), (10, .own 10), (9, .ptr 9 0 0), (6, .ptr 6 0 0), (5, .ptr 5 0 0), (1, (vI
  z.snd.fst)), (0, AV.sl (List.map eBeat z.fst))] [(10, Blk.mk false 3 1 (List.map eI z.snd.snd.snd.snd.snd.snd.snd.fst ++ [[(vI (F.rfM z_3.snd z_3.fst).fst.wait)]])), (9,
  Blk.mk true 0 0 [[(vI (IntKind.wrap IntKind.i64 (z.snd.snd.snd.snd.snd.fst + (1 : Int)))), (vI z.snd.snd.snd.snd.snd.snd.fst), (vI (0 : Int)), (vI (0 : Int)), (vI (0 :
  Int)), (vI (0 : Int)), (vI (0 : Int)), (vI (0 : Int))]]), (6, Blk.mk true 0 0 [[(vI (0 : Int)), (vI (0 : Int)), (vI (0 : Int)), (vI (0 : Int)), (vI (0 : Int)), (vI (0 :
  Int)), (vI (0 : Int)), (vI (0 : Int))]]), (5, Blk.mk true 0 0 [[(vI z.snd.snd.fst.fr), (vI z.snd.snd.fst.to)]])]) else none else none else none else none else none else
  none else some (Ex.exit (0 : Nat), St.mk [(13, (vI b)), (12, (vI p)), (11, (vI s)), (10, .own 10), (9, .ptr 9 0 0), (6, .ptr 6 0 0)] [(10, Blk.mk false 3 1 (List.map eI
  ws)), (9, Blk.mk true 0 0 [[(vI n1), (vI n2), (vI (0 : Int)), (vI (0 : Int)), (vI (0 : Int)), (vI (0 : Int)), (vI (0 : Int)), (vI (0 : Int))]]), (6, Blk.mk true 0 0 [[(vI
  (0 : Int)), (vI (0 : Int)), (vI (0 : Int)), (vI (0 : Int)), (vI (0 : Int)), (vI (0 : Int)), (vI (0 : Int)), (vI (0 : Int))]])]) := (execR_bind _ _ _).symm.trans (by kernel_rfl)

theorem lpRr1_ok (l : List Beat) (q : Int) (w : Span) (ns : List ByteArray) (i : Nat) (n1 : Int) (n2 : Int) (ws : List Int) (p : Int) (s : Int) (b : Int) (hp : prlRr1 l q w ns i n1 n2 ws p s b = true) : ∀ ex s', (outRr1 l q w ns i n1 n2 ws p s b).val = some (ex, s') → LoopOK enRr (loopN Try.f19 0) (stRr1 l q w ns i n1 n2 ws p s b) ex s' := by
  simp only [prlRr1, Bool.and_eq_true, decide_eq_true_eq] at hp
  obtain ⟨hc, hq1, hq2, hw, rfl, rfl, rfl, rfl, rfl, rfl, rfl, rfl⟩ := hp
  have hlen := F.chk3 hc
  have hsr := (F.checkB_sorted hc).1
  refine loop_gen (st := fun t : Nat × F.RA => stRr1 l q w (F.sess l) t.1 t.2.1 t.2.2.1 t.2.2.2.1 t.2.2.2.2.1 t.2.2.2.2.2.1 t.2.2.2.2.2.2) (out := fun t => outRr1 l q w (F.sess l) t.1 t.2.1 t.2.2.1 t.2.2.2.1 t.2.2.2.2.1 t.2.2.2.2.2.1 t.2.2.2.2.2.2) (I := fun t => t.1 ≤ (F.sess l).length ∧ ∃ pos, pos ≤ l.length ∧ F.RunAt l pos ∧ F.RAok pos t.2 ∧ (F.sess l).drop t.1 = F.sess (l.drop pos)) (n := ([32, 31, 30, 13, 12, 11, 10, 9, 6, 5, 1, 0], [10, 9, 6, 5])) (e := ([13, 12, 11, 10, 9, 6], [10, 9, 6])) (r := ([], [])) (fun t => (F.sess l).length - t.1) ?_ (0, (0, 0, [], 0, 0, 0)) ⟨Nat.zero_le _, 0, Nat.zero_le _, F.runAt_zero l, F.raok_zero, rfl⟩
  rintro ⟨i, n1, n2, ws, p, s, b⟩ ⟨hi, pos, hpl, hr, ha, hdr⟩
  simp only at hi ha hdr
  by_cases hlt : i < (F.sess l).length
  · right
    obtain ⟨x, hx⟩ := at_lt hlt
    have hdx := drop_at hx
    have hpos : pos < l.length := by
      rcases Nat.lt_or_ge pos l.length with h | h
      · exact h
      · exfalso
        rw [List.drop_eq_nil_of_le h, hdx] at hdr
        cases hdr
    have hd : l.drop pos = l[pos] :: l.drop (pos + 1) := List.drop_eq_getElem_cons hpos
    generalize l[pos] = y at hd
    obtain ⟨e1, e2, e3⟩ := F.run_own hsr hr hd
    have h0 := F.ofA_pos y (l.drop (pos + 1))
    have hp2 : (y :: l.drop (pos + 1)).Pairwise F.bef := by rw [← hd]; exact hsr.sublist (List.drop_sublist ..)
    rw [hdx, hd, F.sess_cons hp2, ← hd, List.drop_drop] at hdr
    have hxy : x = y.session := (List.cons.inj hdr).1
    have hdr2 := (List.cons.inj hdr).2
    rw [hd] at hdr2
    subst hxy
    have hok := F.repS_ok (w := w) (x := y.session) hc hq1 hq2 ha (by rw [e1]; exact h0)
    obtain ⟨f1, f2, f3, f4, f5, f6⟩ := F.figs_ok y.session hc hq1 hq2
    have hne : F.ofA y.session [] l ≠ [] := by rw [e1]; intro e; rw [e] at h0; cases h0
    obtain ⟨m1, m2, m3, m4⟩ := F.rfM_eq hc hq1 hq2 hne
    have hre := F.repRS_eq hw hc hq1 hq2 hne (n1, n2, ws, p, s, b)
    rw [e1] at hok
    rw [← m2, e1] at f1 f2
    rw [← m3, e1] at f3 f4
    rw [← m4, e1] at f5 f6
    obtain ⟨⟨a1, a2⟩, ⟨a3, a4⟩, a5, ⟨a6, a7⟩, ⟨a8, a9⟩, a10, a11⟩ := ha
    simp only at a1 a2 a3 a4 a5 a6 a7 a8 a9 a10 a11
    refine ⟨(i + 1, F.repRS q w l (n1, n2, ws, p, s, b) y.session), ?_, rfl, ⟨hlt, pos + (F.ofA y.session [] (y :: l.drop (pos + 1))).length, e2, e3, by rw [hre, e1]; exact hok, hdr2⟩, by simp only; omega, ?_⟩
    · rw [evRr1L]
      have hl3 : l.length ≤ 3000 := hlen
      have hrl := F.rthA_len q y.session l []
      simp only [List.length_nil, Nat.zero_add] at hrl
      have q1 : (F.rthA q y.session [] l).length ≤ 3000 ∧ 0 ≤ (F.rthA q y.session [] l).length := ⟨by omega, Nat.zero_le _⟩
      have hil : (F.sess l).length ≤ 9223372036854775806 := by
        have h1 : (F.sess l).length ≤ (l.map (·.session)).length := F.ds_len _
        rw [List.length_map] at h1
        omega
      have hokr := F.okR_all (l := F.ofA y.session [] l) fun b hb => (F.checkB_sorted hc).2 b (F.ofA_mem hb).1
      simp only [unWnd, unSsn, unRth, unROf, unRfg, unTho, unRpt, unSo, unWndw, preWnd1, preSsn1, preRth1, preROf1, preRfg1, preTho1, preRpt1, preSo1, unstRr1, unstRr2, unstRr10, unstRr20, prlRr1, prlRr2, outRr1, outRr2, etaBeat, etaSpan, etaHole, etaLevel, etaFigs, etaRatio, etaRep, etaStay, Option.bind_some, List.length_map, unStrs, unInts, unBools, unBeats, uneL_eBeats, unSpans, unHoles, unLevels, unFigss, unRatios, unReps, unStays, F.lt, F.le, cond_true, cond_false, Bool.and_true, Bool.true_and, dlt, decide_eq_true hlt, getD_at hx, decide_eq_true hl3, decide_eq_true q1, Bool.false_or, List.drop_zero, w_add1 (show i < 9223372036854775807 by omega), hokr]
      clear hdr hdr2 hdx hok hre hne e3
      have hol : (F.ofA y.session [] l).length ≤ 3000 := by rw [e1]; omega
      simp only [unWnd, unSsn, unRth, unROf, unRfg, unTho, unRpt, unSo, unWndw, preWnd1, preSsn1, preRth1, preROf1, preRfg1, preTho1, preRpt1, preSo1, unstRr1, unstRr2, unstRr10, unstRr20, prlRr1, prlRr2, outRr1, outRr2, etaBeat, etaSpan, etaHole, etaLevel, etaFigs, etaRatio, etaRep, etaStay, Option.bind_some, List.length_map, unStrs, unInts, unBools, unBeats, uneL_eBeats, unSpans, unHoles, unLevels, unFigss, unRatios, unReps, unStays, F.lt, F.le, cond_true, cond_false, Bool.and_true, Bool.true_and, decide_eq_true hol, F.repRS]
      rw [← e1] at f1 f2 f3 f4 f5 f6 e2
      generalize F.ofA y.session [] l = own at *
      cases (F.rthA q y.session [] l).any (F.ov w)
      · simp only [Bool.not_false, cond_true, cond_false, stRr1]
        rfl
      · have hbl : Nat.ble ((ws.length + 1) * 8) 140737488355328 = true := ble_t (by omega)
        have w1 : IntKind.i64.wrap (n1 + 1) = n1 + 1 := wrap_id (by omega) (by omega)
        have w2 : IntKind.i64.wrap (n2 + 1) = n2 + 1 := wrap_id (by omega) (by omega)
        have w3 : IntKind.i64.wrap (b + (F.rfM q own).2) = b + (F.rfM q own).2 := wrap_id (by omega) (by omega)
        have w4 : IntKind.i64.wrap (s + (F.rfM q own).1.stalled) = s + (F.rfM q own).1.stalled := wrap_id (by omega) (by omega)
        have w5 : IntKind.i64.wrap (p + (F.rfM q own).1.played) = p + (F.rfM q own).1.played := wrap_id (by omega) (by omega)
        simp only [Bool.not_true, cond_true, cond_false, w1, w2, w3, w4, w5, hbl, appInts', stRr1]
        cases decide ((F.rfM q own).1.wait < 0) <;> rfl
    · simp only [outRr1, hdx, List.foldl_cons]
  · have : i = (F.sess l).length := by omega
    subst this
    left
    refine ⟨_, ?_, rfl, by simp, rfl⟩
    rw [evRr1L]
    simp only [dlt, decide_eq_false hlt, cond_false, List.drop_length, List.foldl_nil]

theorem tho_500 (l : List Int) : unenc encTho [.sl (l.map eI), vI 500] = some (l, 500) := unenc_of encTho_inj (l, 500) rfl

theorem tho_950 (l : List Int) : unenc encTho [.sl (l.map eI), vI 950] = some (l, 950) := unenc_of encTho_inj (l, 950) rfl

theorem evRr (l : List Beat) (q : Int) (w : Span) : (runF enRr false Try.f19 [.sl (l.map eBeat), vI q, .agg (eSpan w)]).val =
  Option.bind (unenc encWnd [AV.sl (List.map eBeat l), (vI q), AV.agg [(vI w.fr), (vI w.to)]]) fun (z : List Beat × Int × Span) => bif F.spanF z.fst z.snd.fst z.snd.snd !=
  (0 : Int) then some (AV.tup [AV.agg [(vI (0 : Int)), (vI (0 : Int)), (vI (0 : Int)), (vI (0 : Int)), (vI (0 : Int)), (vI (0 : Int)), (vI (0 : Int)), (vI (0 : Int))], (vI
  (F.spanF z.fst z.snd.fst z.snd.snd))], []) else Option.bind (unenc encSsn [AV.sl (List.map eBeat l)]) fun (z : List Beat) => bif decide (List.length z ≤ (3000 : Nat)) then
  Option.bind (unenc stRr11 (St.mk [(32, (vI (0 : Int))), (31, (vI (↑(List.length (List.map eStr (F.sess z))) : Int))), (30, AV.sl (List.map eStr (F.sess z))), (13, (vI (0 :
  Int))), (12, (vI (0 : Int))), (11, (vI (0 : Int))), (10, .own 10), (9, .ptr 9 0 0), (6, .ptr 6 0 0), (5, .ptr 5 0 0), (1, (vI q)), (0, AV.sl (List.map eBeat l))] [(10,
  Blk.mk false 3 1 []), (9, Blk.mk true 0 0 [[(vI (0 : Int)), (vI (0 : Int)), (vI (0 : Int)), (vI (0 : Int)), (vI (0 : Int)), (vI (0 : Int)), (vI (0 : Int)), (vI (0 :
  Int))]]), (6, Blk.mk true 0 0 [[(vI (0 : Int)), (vI (0 : Int)), (vI (0 : Int)), (vI (0 : Int)), (vI (0 : Int)), (vI (0 : Int)), (vI (0 : Int)), (vI (0 : Int))]]), (5,
  Blk.mk true 0 0 [[(vI w.fr), (vI w.to)]])])) fun (z : List Beat × Int × Span × List ByteArray × Nat × Int × Int × List Int × Int × Int × Int) => bif decide (F.checkB z.fst
  = (0 : Int) ∧ (1 : Int) ≤ z.snd.fst ∧ z.snd.fst ≤ (1000000 : Int) ∧ z.snd.snd.fst.fr < z.snd.snd.fst.to ∧ z.snd.snd.snd.fst = F.sess z.fst ∧ z.snd.snd.snd.snd.fst = (0 :
  Nat) ∧ z.snd.snd.snd.snd.snd.fst = (0 : Int) ∧ z.snd.snd.snd.snd.snd.snd.fst = (0 : Int) ∧ z.snd.snd.snd.snd.snd.snd.snd.fst = [] ∧ z.snd.snd.snd.snd.snd.snd.snd.snd.fst =
  (0 : Int) ∧ z.snd.snd.snd.snd.snd.snd.snd.snd.snd.fst = (0 : Int) ∧ z.snd.snd.snd.snd.snd.snd.snd.snd.snd.snd = (0 : Int)) && true then Option.bind (unenc encSo ([.own
  900], [(900, Blk.mk false 3 1 (List.map eI (List.foldl (F.repRS z.snd.fst z.snd.snd.fst z.fst) (z.snd.snd.snd.snd.snd.fst, z.snd.snd.snd.snd.snd.snd.fst,
  z.snd.snd.snd.snd.snd.snd.snd.fst, z.snd.snd.snd.snd.snd.snd.snd.snd.fst, z.snd.snd.snd.snd.snd.snd.snd.snd.snd.fst, z.snd.snd.snd.snd.snd.snd.snd.snd.snd.snd) (List.drop
  z.snd.snd.snd.snd.fst z.snd.snd.snd.fst)).snd.snd.fst))])) fun (z_1 : List Int) => bif decide (List.length z_1 ≤ (100000 : Nat)) then Option.bind (unenc encTho [AV.sl
  (List.map eI (F.srtI z_1)), (vI (500 : Int))]) fun (z_2 : List Int × Nat) => bif decide (List.length z_2.fst ≤ (3000 : Nat) ∧ (1 : Nat) ≤ z_2.snd ∧ z_2.snd ≤ (1000 : Nat))
  then Option.bind (unenc encTho [AV.sl (List.map eI (F.srtI z_1)), (vI (950 : Int))]) fun (z_3 : List Int × Nat) => bif decide (List.length z_3.fst ≤ (3000 : Nat) ∧ (1 :
  Nat) ≤ z_3.snd ∧ z_3.snd ≤ (1000 : Nat)) then Option.bind (unenc encRpt [(vI (List.foldl (F.repRS z.snd.fst z.snd.snd.fst z.fst) (z.snd.snd.snd.snd.snd.fst,
  z.snd.snd.snd.snd.snd.snd.fst, z.snd.snd.snd.snd.snd.snd.snd.fst, z.snd.snd.snd.snd.snd.snd.snd.snd.fst, z.snd.snd.snd.snd.snd.snd.snd.snd.snd.fst,
  z.snd.snd.snd.snd.snd.snd.snd.snd.snd.snd) (List.drop z.snd.snd.snd.snd.fst z.snd.snd.snd.fst)).snd.snd.snd.snd.fst), (vI (IntKind.wrap IntKind.i64 ((List.foldl (F.repRS
  z.snd.fst z.snd.snd.fst z.fst) (z.snd.snd.snd.snd.snd.fst, z.snd.snd.snd.snd.snd.snd.fst, z.snd.snd.snd.snd.snd.snd.snd.fst, z.snd.snd.snd.snd.snd.snd.snd.snd.fst,
  z.snd.snd.snd.snd.snd.snd.snd.snd.snd.fst, z.snd.snd.snd.snd.snd.snd.snd.snd.snd.snd) (List.drop z.snd.snd.snd.snd.fst z.snd.snd.snd.fst)).snd.snd.snd.snd.fst +
  (List.foldl (F.repRS z.snd.fst z.snd.snd.fst z.fst) (z.snd.snd.snd.snd.snd.fst, z.snd.snd.snd.snd.snd.snd.fst, z.snd.snd.snd.snd.snd.snd.snd.fst,
  z.snd.snd.snd.snd.snd.snd.snd.snd.fst, z.snd.snd.snd.snd.snd.snd.snd.snd.snd.fst, z.snd.snd.snd.snd.snd.snd.snd.snd.snd.snd) (List.drop z.snd.snd.snd.snd.fst
  z.snd.snd.snd.fst)).snd.snd.snd.fst)))]) fun (z_4 : Nat × Nat) => bif decide (z_4.fst ≤ (9223372036854775807 : Nat) ∧ z_4.snd ≤ (9223372036854775807 : Nat)) then
  Option.bind (unenc encRpt [(vI (List.foldl (F.repRS z.snd.fst z.snd.snd.fst z.fst) (z.snd.snd.snd.snd.snd.fst, z.snd.snd.snd.snd.snd.snd.fst,
  z.snd.snd.snd.snd.snd.snd.snd.fst, z.snd.snd.snd.snd.snd.snd.snd.snd.fst, z.snd.snd.snd.snd.snd.snd.snd.snd.snd.fst, z.snd.snd.snd.snd.snd.snd.snd.snd.snd.snd) (List.drop
  z.snd.snd.snd.snd.fst z.snd.snd.snd.fst)).snd.snd.snd.snd.snd), (vI (List.foldl (F.repRS z.snd.fst z.snd.snd.fst z.fst) (z.snd.snd.snd.snd.snd.fst,
  z.snd.snd.snd.snd.snd.snd.fst, z.snd.snd.snd.snd.snd.snd.snd.fst, z.snd.snd.snd.snd.snd.snd.snd.snd.fst, z.snd.snd.snd.snd.snd.snd.snd.snd.snd.fst,
  z.snd.snd.snd.snd.snd.snd.snd.snd.snd.snd) (List.drop z.snd.snd.snd.snd.fst z.snd.snd.snd.fst)).snd.snd.snd.fst)]) fun (z_5 : Nat × Nat) => bif decide (z_5.fst ≤
  (9223372036854775807 : Nat) ∧ z_5.snd ≤ (9223372036854775807 : Nat)) then some (AV.tup [AV.agg [(vI (List.foldl (F.repRS z.snd.fst z.snd.snd.fst z.fst)
  (z.snd.snd.snd.snd.snd.fst, z.snd.snd.snd.snd.snd.snd.fst, z.snd.snd.snd.snd.snd.snd.snd.fst, z.snd.snd.snd.snd.snd.snd.snd.snd.fst,
  z.snd.snd.snd.snd.snd.snd.snd.snd.snd.fst, z.snd.snd.snd.snd.snd.snd.snd.snd.snd.snd) (List.drop z.snd.snd.snd.snd.fst z.snd.snd.snd.fst)).fst), (vI (List.foldl (F.repRS
  z.snd.fst z.snd.snd.fst z.fst) (z.snd.snd.snd.snd.snd.fst, z.snd.snd.snd.snd.snd.snd.fst, z.snd.snd.snd.snd.snd.snd.snd.fst, z.snd.snd.snd.snd.snd.snd.snd.snd.fst,
  z.snd.snd.snd.snd.snd.snd.snd.snd.snd.fst, z.snd.snd.snd.snd.snd.snd.snd.snd.snd.snd) (List.drop z.snd.snd.snd.snd.fst z.snd.snd.snd.fst)).snd.fst), (vI (F.least z_2.fst
  z_2.snd)), (vI (F.least z_3.fst z_3.snd)), (vI (F.ratio z_4.fst z_4.snd).num), (vI (F.ratio z_4.fst z_4.snd).den), (vI (F.ratio z_5.fst z_5.snd).num), (vI (F.ratio z_5.fst
  z_5.snd).den)], (vI (0 : Int))], []) else none else none else none else none else none else none else none := (runFR_val).symm.trans (by kernel_rfl)

def encRr1 (l : List Beat) (q : Int) (w : Span) : List AV := [.sl (l.map eBeat), vI q, .agg (eSpan w)]

def encRr (a : (List Beat) × Int × Span) : List AV := encRr1 a.1 a.2.1 a.2.2

theorem encRr_inj (a a' : (List Beat) × Int × Span) (h : encRr a = encRr a') : a = a' := by
  simp only [encRr, encRr1] at h
  try simp [strs_inj, ints_inj, bools_inj, eBeats_inj, eBeat_iff, eL_eBeats_inj, eSpans_inj, eSpan_iff, eHoles_inj, eHole_iff, eLevels_inj, eLevel_iff, eFigss_inj, eFigs_iff, eRatios_inj, eRatio_iff, eReps_inj, eRep_iff, eStays_inj, eStay_iff] at h
  grind

theorem unRr (l : List Beat) (q : Int) (w : Span) : unenc encRr ([AV.sl (List.map eBeat l), (vI q), AV.agg [(vI w.fr), (vI w.to)]]) = some (l, q, w) := unenc_of encRr_inj (l, q, w) rfl

theorem unRrw (l : List Beat) (q : Int) (w_fr : Int) (w_to : Int) : unenc encRr ([AV.sl (List.map eBeat l), (vI q), AV.agg [(vI w_fr), (vI w_to)]]) = some (l, q, (Span.mk w_fr w_to)) := unenc_of encRr_inj (l, q, (Span.mk w_fr w_to)) rfl

def resRr1 (l : List Beat) (q : Int) (w : Span) : AV × Heap := (.tup [.agg (eRep (F.report l q w).1), vI (F.report l q w).2], [])

def preRr1 (l : List Beat) (q : Int) (w : Span) : Bool := true

noncomputable def oRr : Orc := orc 19 true encRr (fun a => preRr1 a.1 a.2.1 a.2.2) fun a => resRr1 a.1 a.2.1 a.2.2

theorem okRr : OrcOK Try.prog noG oRr := by
  refine mk_ok Try.f19 (keep := false) (by kernel_rfl) (by kernel_rfl) enRr_ok mixed (two_loops (x0 := loopN Try.f19 0) (x1 := loopN Try.f19 1) (by kernel_rfl) (lpo_ok ?_) (lpo_ok ?_)) (by first | exact fun _ _ => ⟨rfl, rfl⟩ | (intro h; cases h)) ?_
  · rintro ⟨l, q, w, ns, i, n1, n2, ws, p, s, b⟩ hp
    exact lpRr1_ok l q w ns i n1 n2 ws p s b hp
  · rintro ⟨l, q, w, ns, i, n1, n2, ws, p, s, b, x, xs, j, h⟩ hp
    exact lpRr2_ok l q w ns i n1 n2 ws p s b x xs j h hp
  rintro ⟨l, q, w⟩ hpre hok
  show (runF enRr false _ (encRr1 _ _ _)).val = some (resRr1 _ _ _)
  unfold encRr1 resRr1
  rw [evRr]
  simp only [unWnd, unSsn, unRth, unROf, unRfg, unTho, unRpt, unSo, unWndw, preWnd1, preSsn1, preRth1, preROf1, preRfg1, preTho1, preRpt1, preSo1, unstRr1, unstRr2, unstRr10, unstRr20, prlRr1, prlRr2, outRr1, outRr2, etaBeat, etaSpan, etaHole, etaLevel, etaFigs, etaRatio, etaRep, etaStay, Option.bind_some, List.length_map, unStrs, unInts, unBools, unBeats, uneL_eBeats, unSpans, unHoles, unLevels, unFigss, unRatios, unReps, unStays, F.lt, F.le, cond_true, cond_false, Bool.and_true, Bool.true_and, F.report]
  by_cases h0 : F.spanF l q w = 0
  case neg => rw [bne1 h0]; rfl
  rw [bne0 h0]
  have hqf : F.quietF l q = 0 := by
    unfold F.spanF at h0
    by_cases h : F.quietF l q = 0
    · exact h
    · rw [bne1 h, cond_true] at h0; exact absurd h0 h
  have hw : w.fr < w.to := by
    unfold F.spanF at h0
    rw [bne0 hqf, cond_false] at h0
    cases ho : F.out w.fr 0 2000000000000 || F.out w.to 0 2000000000000
    · rw [ho, cond_false] at h0
      cases hd : decide (w.to ≤ w.fr)
      · have := of_decide_eq_false hd; omega
      · rw [hd, cond_true] at h0; cases h0
    · rw [ho, cond_true] at h0; cases h0
  obtain ⟨hc, hq1, hq2⟩ := F.quietF_ok hqf
  have hlen := F.chk3 hc
  have q1 : F.checkB l = 0 ∧ 1 ≤ q ∧ q ≤ 1000000 ∧ w.fr < w.to ∧ F.sess l = F.sess l ∧ 0 = 0 ∧ (0 : Int) = 0 ∧ (0 : Int) = 0 ∧ ([] : List Int) = [] ∧ (0 : Int) = 0 ∧ (0 : Int) = 0 ∧ (0 : Int) = 0 := ⟨hc, hq1, hq2, hw, rfl, rfl, rfl, rfl, rfl, rfl, rfl, rfl⟩
  have hok := F.repL_ok (w := w) hc hq1 hq2 l.length 0 _ (Nat.sub_le _ _) (Nat.zero_le _) (F.runAt_zero l) F.raok_zero
  have hfo := F.rep_fold hw hc hq1 hq2 l.length 0 (0, 0, [], 0, 0, 0) (Nat.sub_le _ _) (Nat.zero_le _) (F.runAt_zero l)
  rw [List.drop_zero] at hok hfo
  simp only [unWnd, unSsn, unRth, unROf, unRfg, unTho, unRpt, unSo, unWndw, preWnd1, preSsn1, preRth1, preROf1, preRfg1, preTho1, preRpt1, preSo1, unstRr1, unstRr2, unstRr10, unstRr20, prlRr1, prlRr2, outRr1, outRr2, etaBeat, etaSpan, etaHole, etaLevel, etaFigs, etaRatio, etaRep, etaStay, Option.bind_some, List.length_map, unStrs, unInts, unBools, unBeats, uneL_eBeats, unSpans, unHoles, unLevels, unFigss, unRatios, unReps, unStays, F.lt, F.le, cond_true, cond_false, Bool.and_true, Bool.true_and, unstRr10, decide_eq_true hlen, decide_eq_true q1, List.drop_zero, hfo]
  generalize F.repL q w l (0, 0, [], 0, 0, 0) = a at hok
  obtain ⟨n1, n2, ws, p, s, b⟩ := a
  obtain ⟨⟨a1, a2⟩, ⟨a3, a4⟩, a5, ⟨a6, a7⟩, ⟨a8, a9⟩, a10, a11⟩ := hok
  simp only at a1 a2 a3 a4 a5 a6 a7 a8 a9 a10 a11
  obtain ⟨p, rfl⟩ := Int.eq_ofNat_of_zero_le a6
  obtain ⟨s, rfl⟩ := Int.eq_ofNat_of_zero_le a8
  obtain ⟨b, rfl⟩ := Int.eq_ofNat_of_zero_le a10
  have r1 : ws.length ≤ 100000 := by omega
  have r2 : (F.srtI ws).length ≤ 3000 ∧ 1 ≤ 500 ∧ 500 ≤ 1000 := ⟨by rw [F.srtI_len]; omega, by omega, by omega⟩
  have r3 : (F.srtI ws).length ≤ 3000 ∧ 1 ≤ 950 ∧ 950 ≤ 1000 := ⟨by rw [F.srtI_len]; omega, by omega, by omega⟩
  have r4 : s ≤ 9223372036854775807 ∧ s + p ≤ 9223372036854775807 := ⟨by omega, by omega⟩
  have r5 : b ≤ 9223372036854775807 ∧ p ≤ 9223372036854775807 := ⟨by omega, by omega⟩
  simp only [unWnd, unSsn, unRth, unROf, unRfg, unTho, unRpt, unSo, unWndw, preWnd1, preSsn1, preRth1, preROf1, preRfg1, preTho1, preRpt1, preSo1, unstRr1, unstRr2, unstRr10, unstRr20, prlRr1, prlRr2, outRr1, outRr2, etaBeat, etaSpan, etaHole, etaLevel, etaFigs, etaRatio, etaRep, etaStay, Option.bind_some, List.length_map, unStrs, unInts, unBools, unBeats, uneL_eBeats, unSpans, unHoles, unLevels, unFigss, unRatios, unReps, unStays, F.lt, F.le, cond_true, cond_false, Bool.and_true, Bool.true_and, decide_eq_true r1, tho_500, tho_950, decide_eq_true r2, decide_eq_true r3, w_add (show s + p ≤ 9223372036854775807 by omega), decide_eq_true r4, decide_eq_true r5, F.repEnd, Int.toNat_natCast, ← Int.natCast_add]
  simp only [hc, hq1, hq2, hw, and_self, decide_true, cond_true, w_nat (show s + p ≤ 9223372036854775807 by omega), unRpt, Option.bind_some, decide_eq_true r4]
  rfl

noncomputable def enLFm : Env := envH ty noG lks [oFig, oRFi, oRp, oRr, oWrk] [] [] []

theorem enLFm_ok : EnvOK Try.prog enLFm := by
  refine envH_ok lks_ok ty_ok ?_ ?_
  · simp only [List.forall_mem_cons]
    exact ⟨okFig, okRFi, okRp, okRr, okWrk, by simp⟩
  · simp

theorem evLFm (l : List Beat) (q : Int) (x : ByteArray) (w : Span) : (runF enLFm false Try.f5 [.sl (l.map eBeat), vI q, vS x, .agg (eSpan w)]).val =
  Option.bind (unenc encFig [AV.sl (List.map eBeat l), (vI q), (vS x)]) fun (z : List Beat × Int × ByteArray) => Option.bind (unenc encRFi [AV.sl (List.map eBeat l), (vI q),
  (vS x)]) fun (z_1 : List Beat × Int × ByteArray) => bif bif (F.figures z.fst z.snd.fst z.snd.snd).snd != (F.figures z_1.fst z_1.snd.fst z_1.snd.snd).snd then true else
  !((F.figures z.fst z.snd.fst z.snd.snd).fst.wait == (F.figures z_1.fst z_1.snd.fst z_1.snd.snd).fst.wait && ((F.figures z.fst z.snd.fst z.snd.snd).fst.played == (F.figures
  z_1.fst z_1.snd.fst z_1.snd.snd).fst.played && ((F.figures z.fst z.snd.fst z.snd.snd).fst.stalled == (F.figures z_1.fst z_1.snd.fst z_1.snd.snd).fst.stalled && ((F.figures
  z.fst z.snd.fst z.snd.snd).fst.paused == (F.figures z_1.fst z_1.snd.fst z_1.snd.snd).fst.paused && ((F.figures z.fst z.snd.fst z.snd.snd).fst.stalls == (F.figures z_1.fst
  z_1.snd.fst z_1.snd.snd).fst.stalls && ((F.figures z.fst z.snd.fst z.snd.snd).fst.changes == (F.figures z_1.fst z_1.snd.fst z_1.snd.snd).fst.changes && ((F.figures z.fst
  z.snd.fst z.snd.snd).fst.bits == (F.figures z_1.fst z_1.snd.fst z_1.snd.snd).fst.bits && ((F.figures z.fst z.snd.fst z.snd.snd).fst.ended == (F.figures z_1.fst z_1.snd.fst
  z_1.snd.snd).fst.ended && true)))))))) then some ((vB false), []) else Option.bind (unenc encRp [AV.sl (List.map eBeat l), (vI q), AV.agg [(vI w.fr), (vI w.to)]]) fun (z :
  List Beat × Int × Span) => Option.bind (unenc encRr [AV.sl (List.map eBeat l), (vI q), AV.agg [(vI w.fr), (vI w.to)]]) fun (z_2 : List Beat × Int × Span) => bif bif
  (F.report z.fst z.snd.fst z.snd.snd).snd == (F.report z_2.fst z_2.snd.fst z_2.snd.snd).snd then (F.report z.fst z.snd.fst z.snd.snd).fst.sessions == (F.report z_2.fst
  z_2.snd.fst z_2.snd.snd).fst.sessions && ((F.report z.fst z.snd.fst z.snd.snd).fst.failed == (F.report z_2.fst z_2.snd.fst z_2.snd.snd).fst.failed && ((F.report z.fst
  z.snd.fst z.snd.snd).fst.w50 == (F.report z_2.fst z_2.snd.fst z_2.snd.snd).fst.w50 && ((F.report z.fst z.snd.fst z.snd.snd).fst.w95 == (F.report z_2.fst z_2.snd.fst
  z_2.snd.snd).fst.w95 && ((F.report z.fst z.snd.fst z.snd.snd).fst.stalled.num == (F.report z_2.fst z_2.snd.fst z_2.snd.snd).fst.stalled.num && ((F.report z.fst z.snd.fst
  z.snd.snd).fst.stalled.den == (F.report z_2.fst z_2.snd.fst z_2.snd.snd).fst.stalled.den && ((F.report z.fst z.snd.fst z.snd.snd).fst.mean.num == (F.report z_2.fst
  z_2.snd.fst z_2.snd.snd).fst.mean.num && ((F.report z.fst z.snd.fst z.snd.snd).fst.mean.den == (F.report z_2.fst z_2.snd.fst z_2.snd.snd).fst.mean.den && true))))))) else
  false then Option.bind (unenc encWrk []) fun (z : Unit) => some ((vB true), []) else some ((vB false), []) := (runFR_val).symm.trans (by kernel_rfl)

def encLFm1 (l : List Beat) (q : Int) (x : ByteArray) (w : Span) : List AV := [.sl (l.map eBeat), vI q, vS x, .agg (eSpan w)]

def encLFm (a : (List Beat) × Int × ByteArray × Span) : List AV := encLFm1 a.1 a.2.1 a.2.2.1 a.2.2.2

theorem encLFm_inj (a a' : (List Beat) × Int × ByteArray × Span) (h : encLFm a = encLFm a') : a = a' := by
  simp only [encLFm, encLFm1] at h
  try simp [strs_inj, ints_inj, bools_inj, eBeats_inj, eBeat_iff, eL_eBeats_inj, eSpans_inj, eSpan_iff, eHoles_inj, eHole_iff, eLevels_inj, eLevel_iff, eFigss_inj, eFigs_iff, eRatios_inj, eRatio_iff, eReps_inj, eRep_iff, eStays_inj, eStay_iff] at h
  grind

theorem unLFm (l : List Beat) (q : Int) (x : ByteArray) (w : Span) : unenc encLFm ([AV.sl (List.map eBeat l), (vI q), (vS x), AV.agg [(vI w.fr), (vI w.to)]]) = some (l, q, x, w) := unenc_of encLFm_inj (l, q, x, w) rfl

theorem unLFmw (l : List Beat) (q : Int) (x : ByteArray) (w_fr : Int) (w_to : Int) : unenc encLFm ([AV.sl (List.map eBeat l), (vI q), (vS x), AV.agg [(vI w_fr), (vI w_to)]]) = some (l, q, x, (Span.mk w_fr w_to)) := unenc_of encLFm_inj (l, q, x, (Span.mk w_fr w_to)) rfl

def resLFm1 (l : List Beat) (q : Int) (x : ByteArray) (w : Span) : AV × Heap := (vB true, [])

def preLFm1 (l : List Beat) (q : Int) (x : ByteArray) (w : Span) : Bool := true

noncomputable def oLFm : Orc := orc 5 true encLFm (fun a => preLFm1 a.1 a.2.1 a.2.2.1 a.2.2.2) fun a => resLFm1 a.1 a.2.1 a.2.2.1 a.2.2.2

theorem okLFm : OrcOK Try.prog noG oLFm := by
  refine mk_ok Try.f5 (keep := false) (by kernel_rfl) (by kernel_rfl) enLFm_ok mixed (no_loops (by kernel_rfl)) (by first | exact fun _ _ => ⟨rfl, rfl⟩ | (intro h; cases h)) ?_
  rintro ⟨l, q, x, w⟩ hpre hok
  show (runF enLFm false _ (encLFm1 _ _ _ _)).val = some (resLFm1 _ _ _ _)
  unfold encLFm1 resLFm1
  rw [evLFm]
  simp only [unFig, unRFi, unRp, unRr, unWrk, unRpw, unRrw, preFig1, preRFi1, preRp1, preRr1, preWrk1, etaBeat, etaSpan, etaHole, etaLevel, etaFigs, etaRatio, etaRep, etaStay, Option.bind_some, List.length_map, unStrs, unInts, unBools, unBeats, uneL_eBeats, unSpans, unHoles, unLevels, unFigss, unRatios, unReps, unStays, F.lt, F.le, cond_true, cond_false, Bool.and_true, Bool.true_and, bne_self_eq_false, beq_self_eq_true, Bool.not_true, Bool.not_false, Bool.and_self]

end M
end Go.Proofs.Ytnkaadiofjoacaa
