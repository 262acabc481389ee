/- What is proved here: what the law DeskWatchedAreCounted returns on plain data (no statement of the seat). -/
import Derived.Test.YtnkaadiofjoacaaB95
namespace Go.Proofs.Ytnkaadiofjoacaa
open Go Go.RowKit
set_option linter.unusedVariables false
set_option linter.unusedSimpArgs false
set_option maxHeartbeats 1000000

namespace F

def cntS (l : List Beat) (q t : Int) (n : Int) (x : ByteArray) : Int := bif (stateAt l q x t).2.1 then IntKind.i64.wrap (n + 1) else n

theorem cnt_eq (l : List Beat) (q t : Int) : ∀ (X : List ByteArray) (n : Nat), n + X.length ≤ 1000000 → X.foldl (cntS l q t) (n : Int) = ((n + X.countP (fun x => (stateAt l q x t).2.1) : Nat) : Int) := by
  intro X
  induction X with
  | nil => intro n _; simp
  | cons x X ih =>
    intro n h
    rw [List.length_cons] at h
    rw [List.foldl_cons, List.countP_cons, cntS]
    cases (stateAt l q x t).2.1
    · simp only [cond_false]
      rw [ih n (by omega)]; simp
    · simp only [cond_true]
      have e : IntKind.i64.wrap ((n : Int) + 1) = ((n + 1 : Nat) : Int) := by rw [IntKind.wrap_i64]; omega
      rw [e, ih (n + 1) (by omega)]
      simp; omega

theorem turn_ok {x n : Int} (h1 : 0 < n) (h2 : n ≤ 2000000000000) : 0 ≤ turn x n ∧ turn x n < n := by
  have h3 := Int.tmod_lt_of_pos x h1
  have h4 : -n < Int.tmod x n := by
    have := Int.lt_tmod_of_pos x h1
    omega
  unfold turn
  by_cases h5 : Int.tmod x n < 0
  · rw [lt_t h5, cond_true, IntKind.wrap_i64]; omega
  · rw [lt_f h5, cond_false]; omega

theorem state_ok {l : List Beat} {q t : Int} (hq : quietF l q = 0) (h1 : 0 ≤ t) (h2 : t ≤ 2000000000000) {x : ByteArray} (hx : x ∈ sess l) :
    (stateAt l q x t).2.2 = 0 ∧ (stateAt l q x t).2.1 = found (stFind x t (stays q l)) := by
  obtain ⟨hc, _, _⟩ := quietF_ok hq
  obtain ⟨hs, hf⟩ := checkB_sorted hc
  obtain ⟨b, hb, rfl⟩ := ((sess_ok _ l (Nat.le_refl _) hs).2 x).1 hx
  have hn : isName b.session = true := by
    have := hf b hb
    unfold beatF1 at this
    cases hi : isName b.session
    · rw [hi, Bool.not_false, cond_true] at this; cases this
    · rfl
  have e1 : sesF l q b.session = 0 := by
    unfold sesF
    rw [show (quietF l q != 0) = false by simp [hq], hn]; rfl
  have e2 : F.out t 0 2000000000000 = false := by simp [F.out]; omega
  unfold stateAt
  rw [show (sesF l q b.session != 0) = false by simp [e1], e2]
  simp only [cond_false]
  cases found (stFind b.session t (stays q l)) <;> exact ⟨rfl, rfl⟩

/-- What the law asks. -/
theorem watch_law {l : List Beat} {q : Int} {w : Span} (pk : Int) (h : spanF l q w = 0) : ∃ (t : Int) (p : Level) (n : Nat), IntKind.i64.wrap (w.fr + turn pk (IntKind.i64.wrap (w.to - w.fr))) = t ∧ 0 < IntKind.i64.wrap (w.to - w.fr) ∧
    watched l q = (levels q l, 0) ∧ peak l q w = (p, 0) ∧ (∀ x ∈ sess l, (stateAt l q x t).2.2 = 0) ∧ (sess l).foldl (cntS l q t) 0 = n ∧ levAt (levels q l) t = n ∧ (n : Int) ≤ p.many ∧ levAt (levels q l) p.time = p.many ∧ ((n : Int) < p.many ∨ p.time ≤ t) ∧ l.length ≤ 3000 := by
  obtain ⟨hq, w1, w2, w3⟩ := span_ok h
  have hl : l.length ≤ 3000 := span_len (q := q) (w := w) (by simp [h])
  have hc := (quietF_ok hq).1
  have hw : IntKind.i64.wrap (w.to - w.fr) = w.to - w.fr := by rw [IntKind.wrap_i64]; omega
  obtain ⟨t1, t2⟩ := turn_ok (x := pk) (n := w.to - w.fr) (by omega) (by omega)
  have ht : IntKind.i64.wrap (w.fr + turn pk (IntKind.i64.wrap (w.to - w.fr))) = w.fr + turn pk (w.to - w.fr) := by rw [hw, IntKind.wrap_i64]; omega
  generalize hT : w.fr + turn pk (w.to - w.fr) = t at ht
  obtain ⟨p1, p2, p3, p4, p5⟩ := peak_ok w t (by omega) (by omega) (levels q l) (levels_pw q l)
  have hst : ∀ x ∈ sess l, (stateAt l q x t).2.2 = 0 ∧ (stateAt l q x t).2.1 = found (stFind x t (stays q l)) := fun x hx => state_ok hq (by omega) (by omega) hx
  have hn := watched_count (q := q) (t := t) hc hl
  have hcp : (sess l).countP (fun x => (stateAt l q x t).2.1) = (sess l).countP (fun x => found (stFind x t (stays q l))) := List.countP_congr fun x hx => by rw [(hst x hx).2]
  rw [← hcp] at hn
  have hsl : (sess l).length ≤ l.length := by have := ds_len (l.map (·.session)); rw [List.length_map] at this; exact this
  refine ⟨t, peakA w (levels q l), (sess l).countP (fun x => (stateAt l q x t).2.1), ht, by omega, ?_, ?_, fun x hx => (hst x hx).1, ?_, hn, by omega, p4, by omega, hl⟩
  · unfold watched; rw [show (quietF l q != 0) = false by simp [hq]]; rfl
  · unfold peak; rw [show (spanF l q w != 0) = false by simp [h]]; rfl
  · have := cnt_eq l q t (sess l) 0 (by omega)
    simpa using this

theorem watch_bad {l : List Beat} {q : Int} {w : Span} (h : spanF l q w ≠ 0) : ((peak l q w).2 != 0) = true ∧ (peak l q w).1 = ⟨0, 0⟩ := by
  unfold peak
  rw [show (spanF l q w != 0) = true by simp [h]]
  exact ⟨by simp [h], rfl⟩

end F

namespace M

def stLWd (l : List Beat) (q : Int) (X : List ByteArray) (L : List Level) (p : Level) (t : Int) (n : Int) (k : Nat) : St := ⟨[(58, vI k), (57, vI X.length), (56, .sl (X.map eStr)), (14, vI n), (13, vI t), (11, .ptr 11 0 0), (9, .sl (L.map eLevel)), (1, vI q), (0, .sl (l.map eBeat))], [(11, ⟨true, 0, 0, [eLevel p]⟩)]⟩

def stLWd1 (a : (List Beat) × Int × (List ByteArray) × (List Level) × Level × Int × Int × Nat) : St := stLWd a.1 a.2.1 a.2.2.1 a.2.2.2.1 a.2.2.2.2.1 a.2.2.2.2.2.1 a.2.2.2.2.2.2.1 a.2.2.2.2.2.2.2

theorem stLWd_inj (a a' : (List Beat) × Int × (List ByteArray) × (List Level) × Level × Int × Int × Nat) (h : stLWd1 a = stLWd1 a') : a = a' := by
  simp only [stLWd1, stLWd] at h
  try simp [strs_inj, ints_inj, bools_inj, eBeats_inj, eBeat_iff, eL_eBeats_inj, eSpans_inj, eSpan_iff, eHoles_inj, eHole_iff, eLevels_inj, eLevel_iff, eFigss_inj, eFigs_iff, eRatios_inj, eRatio_iff, eReps_inj, eRep_iff, eStays_inj, eStay_iff] at h
  grind

theorem unstLWd (l : List Beat) (q : Int) (X : List ByteArray) (L : List Level) (p : Level) (t : Int) (n : Int) (k : Nat) : unenc stLWd1 (St.mk [(58, (vI (↑k : Int))), (57, (vI (↑(List.length X) : Int))), (56, AV.sl (List.map eStr X)), (14, (vI n)), (13, (vI t)), (11, .ptr 11 0 0), (9, AV.sl (List.map eLevel
  L)), (1, (vI q)), (0, AV.sl (List.map eBeat l))] [(11, Blk.mk true 0 0 [[(vI p.time), (vI p.many)]])]) = some (l, q, X, L, p, t, n, k) := unenc_of stLWd_inj (l, q, X, L, p, t, n, k) rfl

theorem unstLWd0 (l : List Beat) (q : Int) (X : List ByteArray) (L : List Level) (p : Level) (t : Int)  : unenc stLWd1 (St.mk [(58, (vI (0 : Int))), (57, (vI (↑(List.length X) : Int))), (56, AV.sl (List.map eStr X)), (14, (vI (0 : Int))), (13, (vI t)), (11, .ptr 11 0 0), (9, AV.sl (List.map
  eLevel L)), (1, (vI q)), (0, AV.sl (List.map eBeat l))] [(11, Blk.mk true 0 0 [[(vI p.time), (vI p.many)]])]) = some (l, q, X, L, p, t, 0, 0) := unenc_of stLWd_inj (l, q, X, L, p, t, 0, 0) rfl

def outLWd (l : List Beat) (q : Int) (X : List ByteArray) (L : List Level) (p : Level) (t : Int) (n : Int) (k : Nat) : T (Ex × St) := .ret (.exit 0, ⟨[(14, vI ((X.drop k).foldl (F.cntS l q t) n)), (13, vI t), (11, .ptr 11 0 0), (9, .sl (L.map eLevel))], [(11, ⟨true, 0, 0, [eLevel p]⟩)]⟩)

noncomputable def prlLWd (l : List Beat) (q : Int) (X : List ByteArray) (L : List Level) (p : Level) (t : Int) (n : Int) (k : Nat) : Bool := decide (X.length ≤ 3000) && decide (k ≤ X.length) && X.all fun x => (F.stateAt l q x t).2.2 == 0

noncomputable def lpLWd : Nat × (St → T (Ex × St)) := (8, lpo [58, 57, 56, 14, 13, 11, 9, 1, 0] [11] stLWd1 (fun a => prlLWd a.1 a.2.1 a.2.2.1 a.2.2.2.1 a.2.2.2.2.1 a.2.2.2.2.2.1 a.2.2.2.2.2.2.1 a.2.2.2.2.2.2.2) fun a => outLWd a.1 a.2.1 a.2.2.1 a.2.2.2.1 a.2.2.2.2.1 a.2.2.2.2.2.1 a.2.2.2.2.2.2.1 a.2.2.2.2.2.2.2)

noncomputable def enLWd : Env := envH ty noG lks [oWtc, oPk, oWrk, oTrn, oSsX, oSta, oLvAt] [] [] [lpLWd]

theorem enLWd_ok : EnvOK Try.prog enLWd := by
  refine envH_ok lks_ok ty_ok ?_ ?_
  · simp only [List.forall_mem_cons]
    exact ⟨okWtc, okPk, okWrk, okTrn, okSsX, okSta, okLvAt, by simp⟩
  · simp

theorem evLWdL (l : List Beat) (q : Int) (X : List ByteArray) (L : List Level) (p : Level) (t : Int) (n : Int) (k : Nat) : ((exec enLWd (loopN Try.f3 0) (stLWd l q X L p t n k)).bind (lessX ([58, 57, 56, 14, 13, 11, 9, 1, 0], [11]) ([14, 13, 11, 9], [11]) ([8], []))).val =
  bif decide ((↑k : Int) < (↑(List.length X) : Int)) then Option.bind (unenc (List.map eStr) (List.map eStr X)) fun (z : List ByteArray) => bif decide (k < List.length z)
  then Option.bind (unenc encSta [AV.sl (List.map eBeat l), (vI q), (vS (List.getD z k (ByteArray.mk (Array.mk [])))), (vI t)]) fun (z : List Beat × Int × ByteArray × Int)
  => bif (F.stateAt z.fst z.snd.fst z.snd.snd.fst z.snd.snd.snd).snd.snd != (0 : Int) then some (Ex.ret, St.mk [(8, (vB false))] []) else bif (F.stateAt z.fst z.snd.fst
  z.snd.snd.fst z.snd.snd.snd).snd.fst then some (Ex.normal, St.mk [(58, (vI (IntKind.wrap IntKind.i64 ((↑k : Int) + (1 : Int))))), (57, (vI (↑(List.length X) : Int))), (56,
  AV.sl (List.map eStr X)), (14, (vI (IntKind.wrap IntKind.i64 (n + (1 : Int))))), (13, (vI t)), (11, .ptr 11 0 0), (9, AV.sl (List.map eLevel L)), (1, (vI q)), (0, AV.sl
  (List.map eBeat l))] [(11, Blk.mk true 0 0 [[(vI p.time), (vI p.many)]])]) else some (Ex.normal, St.mk [(58, (vI (IntKind.wrap IntKind.i64 ((↑k : Int) + (1 : Int))))),
  (57, (vI (↑(List.length X) : Int))), (56, AV.sl (List.map eStr X)), (14, (vI n)), (13, (vI t)), (11, .ptr 11 0 0), (9, AV.sl (List.map eLevel L)), (1, (vI q)), (0, AV.sl
  (List.map eBeat l))] [(11, Blk.mk true 0 0 [[(vI p.time), (vI p.many)]])]) else none else some (Ex.exit (0 : Nat), St.mk [(14, (vI n)), (13, (vI t)), (11, .ptr 11 0 0),
  (9, AV.sl (List.map eLevel L))] [(11, Blk.mk true 0 0 [[(vI p.time), (vI p.many)]])]) := (execR_bind _ _ _).symm.trans (by kernel_rfl)

theorem lpLWd_ok (l : List Beat) (q : Int) (X : List ByteArray) (L : List Level) (p : Level) (t : Int) (n : Int) (k : Nat) (hp : prlLWd l q X L p t n k = true) : ∀ ex s', (outLWd l q X L p t n k).val = some (ex, s') → LoopOK enLWd (loopN Try.f3 0) (stLWd l q X L p t n k) ex s' := by
  simp only [prlLWd, Bool.and_eq_true, decide_eq_true_eq] at hp
  obtain ⟨⟨h1, h2⟩, h3⟩ := hp
  refine loop_fold (xs := X) (st := fun a k => stLWd l q X L p t a k) (f := F.cntS l q t) (fin := fun a => (.exit 0, ⟨[(14, vI a), (13, vI t), (11, .ptr 11 0 0), (9, .sl (L.map eLevel))], [(11, ⟨true, 0, 0, [eLevel p]⟩)]⟩)) (I := fun _ _ => True) (n := ([58, 57, 56, 14, 13, 11, 9, 1, 0], [11])) (e := ([14, 13, 11, 9], [11])) (r := ([8], [])) ?_ (fun _ => ⟨by simp, rfl⟩) (fun _ _ => rfl) ?_ n k h2 trivial
  · intro a _
    rw [evLWdL]; simp
    rfl
  · intro a k y hy _
    have hlt := lt_at hy
    have hz := List.all_eq_true.1 h3 y (List.mem_of_getElem? hy)
    have hz : ((F.stateAt l q y t).2.2 != 0) = false := by simpa using hz
    refine ⟨?_, trivial⟩
    rw [evLWdL]
    simp only [unWtc, unPk, unWrk, unTrn, unSsX, unSta, unLvAt, unPkw, preWtc1, prePk1, preWrk1, preTrn1, preSsX1, preSta1, preLvAt1, unstLWd, unstLWd0, prlLWd, outLWd, etaBeat, etaSpan, etaHole, etaLevel, etaFigs, etaRatio, etaRep, etaStay, Option.bind_some, List.length_map, unStrs, unInts, unBools, unBeats, uneL_eBeats, unSpans, unHoles, unLevels, unFigss, unRatios, unReps, unStays, F.lt, F.le, cond_true, cond_false, Bool.and_true, Bool.true_and, cast_lt hlt, decide_eq_true hlt, next_at hlt (by omega : X.length ≤ 9223372036854775807), getD_at hy, stLWd, hz, F.cntS]
    cases (F.stateAt l q y t).2.1 <;> rfl

theorem evLWd (l : List Beat) (q : Int) (w : Span) (pk : Int) : (runF enLWd false Try.f3 [.sl (l.map eBeat), vI q, .agg (eSpan w), vI pk]).val =
  Option.bind (unenc encWtc [AV.sl (List.map eBeat l), (vI q)]) fun (z : List Beat × Int) => Option.bind (unenc encPk [AV.sl (List.map eBeat l), (vI q), AV.agg [(vI w.fr),
  (vI w.to)]]) fun (z_1 : List Beat × Int × Span) => bif bif (F.watched z.fst z.snd).snd != (0 : Int) then true else (F.peak z_1.fst z_1.snd.fst z_1.snd.snd).snd != (0 :
  Int) then bif (F.peak z_1.fst z_1.snd.fst z_1.snd.snd).fst.many == (0 : Int) then Option.bind (unenc encWrk []) fun (z : Unit) => some ((vB true), []) else some ((vB
  false), []) else Option.bind (unenc encTrn [(vI pk), (vI (IntKind.wrap IntKind.i64 (w.to - w.fr)))]) fun (z_2 : Int × Int) => bif decide ((0 : Int) < z_2.snd) then
  Option.bind (unenc encSsX [AV.sl (List.map eBeat l)]) fun (z_3 : List Beat) => bif decide (List.length z_3 ≤ (3000 : Nat)) then Option.bind (unenc stLWd1 (St.mk [(58, (vI
  (0 : Int))), (57, (vI (↑(List.length (List.map eStr (F.sess z_3))) : Int))), (56, AV.sl (List.map eStr (F.sess z_3))), (14, (vI (0 : Int))), (13, (vI (IntKind.wrap
  IntKind.i64 (w.fr + F.turn z_2.fst z_2.snd)))), (11, .ptr 11 0 0), (9, AV.sl (List.map eLevel (F.watched z.fst z.snd).fst)), (1, (vI q)), (0, AV.sl (List.map eBeat l))]
  [(11, Blk.mk true 0 0 [[(vI (F.peak z_1.fst z_1.snd.fst z_1.snd.snd).fst.time), (vI (F.peak z_1.fst z_1.snd.fst z_1.snd.snd).fst.many)]])])) fun (z : List Beat × Int ×
  List ByteArray × List Level × Level × Int × Int × Nat) => bif (decide (List.length z.snd.snd.fst ≤ (3000 : Nat)) && decide (z.snd.snd.snd.snd.snd.snd.snd ≤ List.length
  z.snd.snd.fst) && List.all z.snd.snd.fst fun (x : ByteArray) => (F.stateAt z.fst z.snd.fst x z.snd.snd.snd.snd.snd.fst).snd.snd == (0 : Int)) && true then Option.bind
  (unenc encLvAt [AV.sl (List.map eLevel z.snd.snd.snd.fst), (vI z.snd.snd.snd.snd.snd.fst)]) fun (z_4 : List Level × Int) => bif bif F.levAt z_4.fst z_4.snd == List.foldl
  (F.cntS z.fst z.snd.fst z.snd.snd.snd.snd.snd.fst) z.snd.snd.snd.snd.snd.snd.fst (List.drop z.snd.snd.snd.snd.snd.snd.snd z.snd.snd.fst) then decide (List.foldl (F.cntS
  z.fst z.snd.fst z.snd.snd.snd.snd.snd.fst) z.snd.snd.snd.snd.snd.snd.fst (List.drop z.snd.snd.snd.snd.snd.snd.snd z.snd.snd.fst) ≤ z.snd.snd.snd.snd.fst.many) else false
  then Option.bind (unenc encLvAt [AV.sl (List.map eLevel z.snd.snd.snd.fst), (vI z.snd.snd.snd.snd.fst.time)]) fun (z_5 : List Level × Int) => bif bif F.levAt z_5.fst
  z_5.snd == z.snd.snd.snd.snd.fst.many then bif decide (List.foldl (F.cntS z.fst z.snd.fst z.snd.snd.snd.snd.snd.fst) z.snd.snd.snd.snd.snd.snd.fst (List.drop
  z.snd.snd.snd.snd.snd.snd.snd z.snd.snd.fst) < z.snd.snd.snd.snd.fst.many) then true else decide (z.snd.snd.snd.snd.fst.time ≤ z.snd.snd.snd.snd.snd.fst) else false then
  Option.bind (unenc encWrk []) fun (z : Unit) => some ((vB true), []) else some ((vB false), []) else some ((vB false), []) else none else none else none := (runFR_val).symm.trans (by kernel_rfl)

def encLWd1 (l : List Beat) (q : Int) (w : Span) (pk : Int) : List AV := [.sl (l.map eBeat), vI q, .agg (eSpan w), vI pk]

def encLWd (a : (List Beat) × Int × Span × Int) : List AV := encLWd1 a.1 a.2.1 a.2.2.1 a.2.2.2

theorem encLWd_inj (a a' : (List Beat) × Int × Span × Int) (h : encLWd a = encLWd a') : a = a' := by
  simp only [encLWd, encLWd1] at h
  try simp [strs_inj, ints_inj, bools_inj, eBeats_inj, eBeat_iff, eL_eBeats_inj, eSpans_inj, eSpan_iff, eHoles_inj, eHole_iff, eLevels_inj, eLevel_iff, eFigss_inj, eFigs_iff, eRatios_inj, eRatio_iff, eReps_inj, eRep_iff, eStays_inj, eStay_iff] at h
  grind

theorem unLWd (l : List Beat) (q : Int) (w : Span) (pk : Int) : unenc encLWd ([AV.sl (List.map eBeat l), (vI q), AV.agg [(vI w.fr), (vI w.to)], (vI pk)]) = some (l, q, w, pk) := unenc_of encLWd_inj (l, q, w, pk) rfl

theorem unLWdw (l : List Beat) (q : Int) (w_fr : Int) (w_to : Int) (pk : Int) : unenc encLWd ([AV.sl (List.map eBeat l), (vI q), AV.agg [(vI w_fr), (vI w_to)], (vI pk)]) = some (l, q, (Span.mk w_fr w_to), pk) := unenc_of encLWd_inj (l, q, (Span.mk w_fr w_to), pk) rfl

def resLWd1 (l : List Beat) (q : Int) (w : Span) (pk : Int) : AV × Heap := (vB true, [])

def preLWd1 (l : List Beat) (q : Int) (w : Span) (pk : Int) : Bool := true

noncomputable def oLWd : Orc := orc 3 false encLWd (fun a => preLWd1 a.1 a.2.1 a.2.2.1 a.2.2.2) fun a => resLWd1 a.1 a.2.1 a.2.2.1 a.2.2.2

theorem okLWd : OrcOK Try.prog noG oLWd := by
  refine mk_ok Try.f3 (keep := false) (by kernel_rfl) (by kernel_rfl) enLWd_ok mixed (one_loop (x0 := loopN Try.f3 0) (by kernel_rfl) (lpo_ok ?_)) (by first | exact fun _ _ => ⟨rfl, rfl⟩ | (intro h; cases h)) ?_
  · rintro ⟨l, q, X, L, p, t, n, k⟩ hp
    exact lpLWd_ok l q X L p t n k hp
  rintro ⟨l, q, w, pk⟩ hpre hok
  show (runF enLWd false _ (encLWd1 _ _ _ _)).val = some (resLWd1 _ _ _ _)
  unfold encLWd1 resLWd1
  rw [evLWd]
  simp only [unWtc, unPk, unWrk, unTrn, unSsX, unSta, unLvAt, unPkw, preWtc1, prePk1, preWrk1, preTrn1, preSsX1, preSta1, preLvAt1, unstLWd, unstLWd0, prlLWd, outLWd, etaBeat, etaSpan, etaHole, etaLevel, etaFigs, etaRatio, etaRep, etaStay, Option.bind_some, List.length_map, unStrs, unInts, unBools, unBeats, uneL_eBeats, unSpans, unHoles, unLevels, unFigss, unRatios, unReps, unStays, F.lt, F.le, cond_true, cond_false, Bool.and_true, Bool.true_and, List.drop_zero, Nat.zero_le, decide_true]
  by_cases h : F.spanF l q w = 0
  · obtain ⟨t, p, n, e1, e2, e3, e4, e5, e6, e7, e8, e9, e10, e11⟩ := F.watch_law pk h
    rw [e1, e3, e4]
    have hsl : (F.sess l).length ≤ 3000 := by have := F.ds_len (l.map (·.session)); rw [List.length_map] at this; unfold F.sess; omega
    have h5 : ((F.sess l).all fun x => (F.stateAt l q x t).2.2 == 0) = true := List.all_eq_true.2 fun x hx => by simpa using e5 x hx
    have hn : ((n : Int) ≤ p.many) := e8
    simp only [hsl, h5, decide_eq_true hsl, decide_eq_true e2, bne_self_eq_false, cond_false, cond_true, Bool.and_self, Bool.and_true, e6, e7, e9, decide_eq_true e8, beq_self_eq_true, decide_eq_true e11]
    rcases e10 with h | h
    · simp only [decide_eq_true h, cond_true, decide_true]
    · cases decide ((n : Int) < p.many) <;> simp only [decide_eq_true h, cond_true, cond_false, decide_true]
  · obtain ⟨e1, e2⟩ := F.watch_bad h
    rw [e1, e2]
    cases ((F.watched l q).2 != 0) <;> simp only [cond_true, cond_false, beq_self_eq_true]

end M
end Go.Proofs.Ytnkaadiofjoacaa
