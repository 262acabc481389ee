/- What is proved here: the loops of the reference's levels (no statement of the seat). -/
import Derived.Test.YtnkaadiofjoacaaB104
namespace Go.Proofs.Ytnkaadiofjoacaa
open Go Go.RowKit
set_option linter.unusedVariables false
set_option linter.unusedSimpArgs false
set_option maxHeartbeats 1000000

namespace F

/-- All spans of some sessions. -/
def spX (q : Int) (l : List Beat) (X : List ByteArray) : List Span := X.flatMap fun x => rthA q x [] l

def sp2 (a : List Int × List Int) (s : Span) : List Int × List Int := (a.1 ++ [s.fr], a.2 ++ [s.to])

def spx2 (q : Int) (l : List Beat) (a : List Int × List Int) (x : ByteArray) : List Int × List Int := (rthA q x [] l).foldl sp2 a

theorem sp2_eq : ∀ (ss : List Span) (a : List Int × List Int), ss.foldl sp2 a = (a.1 ++ ss.map (·.fr), a.2 ++ ss.map (·.to))
  | [], a => by simp
  | s :: r, a => by rw [List.foldl_cons, sp2_eq r]; simp [sp2]

theorem spx2_eq (q : Int) (l : List Beat) : ∀ (X : List ByteArray) (a : List Int × List Int), X.foldl (spx2 q l) a = (a.1 ++ (spX q l X).map (·.fr), a.2 ++ (spX q l X).map (·.to))
  | [], a => by simp [spX]
  | x :: r, a => by rw [List.foldl_cons, spx2_eq q l r]; simp [spx2, sp2_eq, spX]

theorem kW_step {t y : Int} {l r : List Int} (h : l = y :: r) : kW t l = bif y == t then kW t r + 1 else 0 := by
  subst h
  unfold kW
  rw [List.takeWhile_cons]
  cases y == t <;> rfl

theorem kW_le (t : Int) (l : List Int) : kW t l ≤ l.length := (List.takeWhile_sublist _).length_le

theorem kW_nil (t : Int) : kW t [] = 0 := rfl

theorem rth_len (q : Int) (x : ByteArray) (l : List Beat) : (rthA q x [] l).length ≤ l.length := by
  have := rthA_len q x l []
  simpa using this

end F

namespace M

/-- The parts of the reference's levels. -/
def sq1 : Code → Code
  | .seq x _ => x
  | c => c

def sq2 : Code → Code
  | .seq _ y => y
  | c => c

noncomputable def bodyRl : Code := match Try.f30.body with | some c => c | none => .skip

noncomputable def restRl : Code := sq2 (sq2 (sq2 (sq2 bodyRl)))

noncomputable def midRl : Code := sq1 (sq2 (sq2 (sq2 bodyRl)))

def stRl1 (l : List Beat) (q : Int) (X : List ByteArray) (bs : List Int) (es : List Int) (k : Nat) : St := ⟨[(22, vI k), (21, vI X.length), (20, .sl (X.map eStr)), (6, .own 6), (5, .own 5), (1, vI q), (0, .sl (l.map eBeat))], [(6, ⟨false, 3, 1, es.map eI⟩), (5, ⟨false, 3, 1, bs.map eI⟩)]⟩

def stRl11 (a : (List Beat) × Int × (List ByteArray) × (List Int) × (List Int) × Nat) : St := stRl1 a.1 a.2.1 a.2.2.1 a.2.2.2.1 a.2.2.2.2.1 a.2.2.2.2.2

theorem stRl1_inj (a a' : (List Beat) × Int × (List ByteArray) × (List Int) × (List Int) × Nat) (h : stRl11 a = stRl11 a') : a = a' := by
  simp only [stRl11, stRl1] at h
  try simp [strs_inj, ints_inj, bools_inj, eL_eIs_inj, eBeats_inj, eBeat_iff, eL_eBeats_inj, eSpans_inj, eSpan_iff, eHoles_inj, eHole_iff, eLevels_inj, eLevel_iff, eFigss_inj, eFigs_iff, eRatios_inj, eRatio_iff, eReps_inj, eRep_iff, eStays_inj, eStay_iff] at h
  grind

theorem unstRl1 (l : List Beat) (q : Int) (X : List ByteArray) (bs : List Int) (es : List Int) (k : Nat) : unenc stRl11 (St.mk [(22, (vI (↑k : Int))), (21, (vI (↑(List.length X) : Int))), (20, AV.sl (List.map eStr X)), (6, .own 6), (5, .own 5), (1, (vI q)), (0, AV.sl (List.map eBeat l))]
  [(6, Blk.mk false 3 1 (List.map eI es)), (5, Blk.mk false 3 1 (List.map eI bs))]) = some (l, q, X, bs, es, k) := unenc_of stRl1_inj (l, q, X, bs, es, k) rfl

theorem unstRl10 (l : List Beat) (q : Int) (X : List ByteArray)  : unenc stRl11 (St.mk [(22, (vI (0 : Int))), (21, (vI (↑(List.length X) : Int))), (20, AV.sl (List.map eStr X)), (6, .own 6), (5, .own 5), (1, (vI q)), (0, AV.sl (List.map eBeat l))] [(6,
  Blk.mk false 3 1 []), (5, Blk.mk false 3 1 [])]) = some (l, q, X, [], [], 0) := unenc_of stRl1_inj (l, q, X, [], [], 0) rfl

def outRl1 (l : List Beat) (q : Int) (X : List ByteArray) (bs : List Int) (es : List Int) (k : Nat) : T (Ex × St) := .ret (.exit 0, ⟨[(6, .own 6), (5, .own 5)], [(6, ⟨false, 3, 1, ((X.drop k).foldl (F.spx2 q l) (bs, es)).2.map eI⟩), (5, ⟨false, 3, 1, ((X.drop k).foldl (F.spx2 q l) (bs, es)).1.map eI⟩)]⟩)

noncomputable def prlRl1 (l : List Beat) (q : Int) (X : List ByteArray) (bs : List Int) (es : List Int) (k : Nat) : Bool := decide (l.length ≤ 3000) && decide (X.length ≤ 3000) && decide (k ≤ X.length) && decide (bs.length ≤ k * 3000) && decide (es.length ≤ k * 3000)

noncomputable def lpRl1 : Nat × (St → T (Ex × St)) := (3, lpo [22, 21, 20, 6, 5, 1, 0] [6, 5] stRl11 (fun a => prlRl1 a.1 a.2.1 a.2.2.1 a.2.2.2.1 a.2.2.2.2.1 a.2.2.2.2.2) fun a => outRl1 a.1 a.2.1 a.2.2.1 a.2.2.2.1 a.2.2.2.2.1 a.2.2.2.2.2)

def stRl2 (l : List Beat) (q : Int) (X : List ByteArray) (bs : List Int) (es : List Int) (k : Nat) (ss : List Span) (j : Nat) : St := ⟨[(31, vI j), (30, vI ss.length), (29, .sl (ss.map eSpan)), (22, vI k), (21, vI X.length), (20, .sl (X.map eStr)), (6, .own 6), (5, .own 5), (1, vI q), (0, .sl (l.map eBeat))], [(6, ⟨false, 3, 1, es.map eI⟩), (5, ⟨false, 3, 1, bs.map eI⟩)]⟩

def stRl21 (a : (List Beat) × Int × (List ByteArray) × (List Int) × (List Int) × Nat × (List Span) × Nat) : St := stRl2 a.1 a.2.1 a.2.2.1 a.2.2.2.1 a.2.2.2.2.1 a.2.2.2.2.2.1 a.2.2.2.2.2.2.1 a.2.2.2.2.2.2.2

theorem stRl2_inj (a a' : (List Beat) × Int × (List ByteArray) × (List Int) × (List Int) × Nat × (List Span) × Nat) (h : stRl21 a = stRl21 a') : a = a' := by
  simp only [stRl21, stRl2] at h
  try simp [strs_inj, ints_inj, bools_inj, eL_eIs_inj, eBeats_inj, eBeat_iff, eL_eBeats_inj, eSpans_inj, eSpan_iff, eHoles_inj, eHole_iff, eLevels_inj, eLevel_iff, eFigss_inj, eFigs_iff, eRatios_inj, eRatio_iff, eReps_inj, eRep_iff, eStays_inj, eStay_iff] at h
  grind

theorem unstRl2 (l : List Beat) (q : Int) (X : List ByteArray) (bs : List Int) (es : List Int) (k : Nat) (ss : List Span) (j : Nat) : unenc stRl21 (St.mk [(31, (vI (↑j : Int))), (30, (vI (↑(List.length ss) : Int))), (29, AV.sl (List.map eSpan ss)), (22, (vI (↑k : Int))), (21, (vI (↑(List.length X) : Int))), (20, AV.sl
  (List.map eStr X)), (6, .own 6), (5, .own 5), (1, (vI q)), (0, AV.sl (List.map eBeat l))] [(6, Blk.mk false 3 1 (List.map eI es)), (5, Blk.mk false 3 1 (List.map eI bs))]) = some (l, q, X, bs, es, k, ss, j) := unenc_of stRl2_inj (l, q, X, bs, es, k, ss, j) rfl

theorem unstRl20 (l : List Beat) (q : Int) (X : List ByteArray) (bs : List Int) (es : List Int) (k : Nat) (ss : List Span)  : unenc stRl21 (St.mk [(31, (vI (0 : Int))), (30, (vI (↑(List.length ss) : Int))), (29, AV.sl (List.map eSpan ss)), (22, (vI (↑k : Int))), (21, (vI (↑(List.length X) : Int))), (20, AV.sl
  (List.map eStr X)), (6, .own 6), (5, .own 5), (1, (vI q)), (0, AV.sl (List.map eBeat l))] [(6, Blk.mk false 3 1 (List.map eI es)), (5, Blk.mk false 3 1 (List.map eI bs))]) = some (l, q, X, bs, es, k, ss, 0) := unenc_of stRl2_inj (l, q, X, bs, es, k, ss, 0) rfl

def outRl2 (l : List Beat) (q : Int) (X : List ByteArray) (bs : List Int) (es : List Int) (k : Nat) (ss : List Span) (j : Nat) : T (Ex × St) := .ret (.exit 2, ⟨[(22, vI k), (21, vI X.length), (20, .sl (X.map eStr)), (6, .own 6), (5, .own 5), (1, vI q), (0, .sl (l.map eBeat))], [(6, ⟨false, 3, 1, ((ss.drop j).foldl F.sp2 (bs, es)).2.map eI⟩), (5, ⟨false, 3, 1, ((ss.drop j).foldl F.sp2 (bs, es)).1.map eI⟩)]⟩)

noncomputable def prlRl2 (l : List Beat) (q : Int) (X : List ByteArray) (bs : List Int) (es : List Int) (k : Nat) (ss : List Span) (j : Nat) : Bool := decide (ss.length ≤ 3000) && decide (j ≤ ss.length) && decide (bs.length ≤ 9000000 + j) && decide (es.length ≤ 9000000 + j)

noncomputable def lpRl2 : Nat × (St → T (Ex × St)) := (6, lpo [31, 30, 29, 22, 21, 20, 6, 5, 1, 0] [6, 5] stRl21 (fun a => prlRl2 a.1 a.2.1 a.2.2.1 a.2.2.2.1 a.2.2.2.2.1 a.2.2.2.2.2.1 a.2.2.2.2.2.2.1 a.2.2.2.2.2.2.2) fun a => outRl2 a.1 a.2.1 a.2.2.1 a.2.2.2.1 a.2.2.2.2.1 a.2.2.2.2.2.1 a.2.2.2.2.2.2.1 a.2.2.2.2.2.2.2)

def stRl3 (xs : List Int) (m : Nat) (bs : List Int) (es : List Int) (b : Nat) (e : Nat) (n : Int) (out : List Level) (k : Nat) : St := ⟨[(60, vI k), (59, vI m), (58, .win 51000 0 m), (15, vI e), (14, vI b), (13, vI n), (12, .own 12), (6, .own 6), (5, .own 5)], [(51000, ⟨false, 3, 1, xs.map eI⟩), (12, ⟨false, 30, 2, out.map eLevel⟩), (6, ⟨false, 3, 1, es.map eI⟩), (5, ⟨false, 3, 1, bs.map eI⟩)]⟩

def stRl31 (a : (List Int) × Nat × (List Int) × (List Int) × Nat × Nat × Int × (List Level) × Nat) : St := stRl3 a.1 a.2.1 a.2.2.1 a.2.2.2.1 a.2.2.2.2.1 a.2.2.2.2.2.1 a.2.2.2.2.2.2.1 a.2.2.2.2.2.2.2.1 a.2.2.2.2.2.2.2.2

theorem stRl3_inj (a a' : (List Int) × Nat × (List Int) × (List Int) × Nat × Nat × Int × (List Level) × Nat) (h : stRl31 a = stRl31 a') : a = a' := by
  simp only [stRl31, stRl3] at h
  try simp [strs_inj, ints_inj, bools_inj, eL_eIs_inj, eBeats_inj, eBeat_iff, eL_eBeats_inj, eSpans_inj, eSpan_iff, eHoles_inj, eHole_iff, eLevels_inj, eLevel_iff, eFigss_inj, eFigs_iff, eRatios_inj, eRatio_iff, eReps_inj, eRep_iff, eStays_inj, eStay_iff] at h
  grind

theorem unstRl3 (xs : List Int) (m : Nat) (bs : List Int) (es : List Int) (b : Nat) (e : Nat) (n : Int) (out : List Level) (k : Nat) : unenc stRl31 (St.mk [(60, (vI (↑k : Int))), (59, (vI (↑m : Int))), (58, AV.win (51000 : Nat) (0 : Nat) m), (15, (vI (↑e : Int))), (14, (vI (↑b : Int))), (13, (vI n)), (12, .own 12), (6,
  .own 6), (5, .own 5)] [(51000, Blk.mk false 3 1 (List.map eI xs)), (12, Blk.mk false 30 2 (List.map eLevel out)), (6, Blk.mk false 3 1 (List.map eI es)), (5, Blk.mk false
  3 1 (List.map eI bs))]) = some (xs, m, bs, es, b, e, n, out, k) := unenc_of stRl3_inj (xs, m, bs, es, b, e, n, out, k) rfl

theorem unstRl30 (xs : List Int) (m : Nat) (bs : List Int) (es : List Int)  : unenc stRl31 (St.mk [(60, (vI (0 : Int))), (59, (vI (↑m : Int))), (58, AV.win (51000 : Nat) (0 : Nat) m), (15, (vI (0 : Int))), (14, (vI (0 : Int))), (13, (vI (0 : Int))), (12, .own
  12), (6, .own 6), (5, .own 5)] [(51000, Blk.mk false 3 1 (List.map eI xs)), (12, Blk.mk false 30 2 []), (6, Blk.mk false 3 1 (List.map eI es)), (5, Blk.mk false 3 1
  (List.map eI bs))]) = some (xs, m, bs, es, 0, 0, 0, [], 0) := unenc_of stRl3_inj (xs, m, bs, es, 0, 0, 0, [], 0) rfl

def outRl3 (xs : List Int) (m : Nat) (bs : List Int) (es : List Int) (b : Nat) (e : Nat) (n : Int) (out : List Level) (k : Nat) : T (Ex × St) := .ret (.exit 4, ⟨[(12, .own 12)], [(12, ⟨false, 30, 2, (F.refL ((xs.take m).drop k) n (bs.drop b) (es.drop e) out).map eLevel⟩)]⟩)

noncomputable def prlRl3 (xs : List Int) (m : Nat) (bs : List Int) (es : List Int) (b : Nat) (e : Nat) (n : Int) (out : List Level) (k : Nat) : Bool := decide (xs.length ≤ 100000 ∧ bs.length ≤ 100000 ∧ es.length ≤ 100000 ∧ m ≤ xs.length ∧ k ≤ m ∧ b ≤ bs.length ∧ e ≤ es.length ∧ -(e : Int) ≤ n ∧ n ≤ b ∧ out.length ≤ k)

noncomputable def lpRl3 : Nat × (St → T (Ex × St)) := (18, lpo [60, 59, 58, 15, 14, 13, 12, 6, 5] [51000, 12, 6, 5] stRl31 (fun a => prlRl3 a.1 a.2.1 a.2.2.1 a.2.2.2.1 a.2.2.2.2.1 a.2.2.2.2.2.1 a.2.2.2.2.2.2.1 a.2.2.2.2.2.2.2.1 a.2.2.2.2.2.2.2.2) fun a => outRl3 a.1 a.2.1 a.2.2.1 a.2.2.2.1 a.2.2.2.2.1 a.2.2.2.2.2.1 a.2.2.2.2.2.2.1 a.2.2.2.2.2.2.2.1 a.2.2.2.2.2.2.2.2)

def stRl4 (xs : List Int) (m : Nat) (bs : List Int) (es : List Int) (b : Nat) (e : Nat) (n : Int) (out : List Level) (k : Nat) (t : Int) (c : Int) : St := ⟨[(60, vI k), (59, vI m), (58, .win 51000 0 m), (18, vI c), (17, vI t), (15, vI e), (14, vI b), (13, vI n), (12, .own 12), (6, .own 6), (5, .own 5)], [(51000, ⟨false, 3, 1, xs.map eI⟩), (12, ⟨false, 30, 2, out.map eLevel⟩), (6, ⟨false, 3, 1, es.map eI⟩), (5, ⟨false, 3, 1, bs.map eI⟩)]⟩

def stRl41 (a : (List Int) × Nat × (List Int) × (List Int) × Nat × Nat × Int × (List Level) × Nat × Int × Int) : St := stRl4 a.1 a.2.1 a.2.2.1 a.2.2.2.1 a.2.2.2.2.1 a.2.2.2.2.2.1 a.2.2.2.2.2.2.1 a.2.2.2.2.2.2.2.1 a.2.2.2.2.2.2.2.2.1 a.2.2.2.2.2.2.2.2.2.1 a.2.2.2.2.2.2.2.2.2.2

theorem stRl4_inj (a a' : (List Int) × Nat × (List Int) × (List Int) × Nat × Nat × Int × (List Level) × Nat × Int × Int) (h : stRl41 a = stRl41 a') : a = a' := by
  simp only [stRl41, stRl4] at h
  try simp [strs_inj, ints_inj, bools_inj, eL_eIs_inj, eBeats_inj, eBeat_iff, eL_eBeats_inj, eSpans_inj, eSpan_iff, eHoles_inj, eHole_iff, eLevels_inj, eLevel_iff, eFigss_inj, eFigs_iff, eRatios_inj, eRatio_iff, eReps_inj, eRep_iff, eStays_inj, eStay_iff] at h
  grind

theorem unstRl4 (xs : List Int) (m : Nat) (bs : List Int) (es : List Int) (b : Nat) (e : Nat) (n : Int) (out : List Level) (k : Nat) (t : Int) (c : Int) : unenc stRl41 (St.mk [(60, (vI (↑k : Int))), (59, (vI (↑m : Int))), (58, AV.win (51000 : Nat) (0 : Nat) m), (18, (vI c)), (17, (vI t)), (15, (vI (↑e : Int))), (14, (vI (↑b : Int))), (13,
  (vI n)), (12, .own 12), (6, .own 6), (5, .own 5)] [(51000, Blk.mk false 3 1 (List.map eI xs)), (12, Blk.mk false 30 2 (List.map eLevel out)), (6, Blk.mk false 3 1
  (List.map eI es)), (5, Blk.mk false 3 1 (List.map eI bs))]) = some (xs, m, bs, es, b, e, n, out, k, t, c) := unenc_of stRl4_inj (xs, m, bs, es, b, e, n, out, k, t, c) rfl

def outRl4 (xs : List Int) (m : Nat) (bs : List Int) (es : List Int) (b : Nat) (e : Nat) (n : Int) (out : List Level) (k : Nat) (t : Int) (c : Int) : T (Ex × St) := .ret (.exit 6, ⟨[(60, vI k), (59, vI m), (58, .win 51000 0 m), (18, vI (c + F.kW t (bs.drop b))), (17, vI t), (15, vI e), (14, vI ((b + F.kW t (bs.drop b) : Nat) : Int)), (13, vI n), (12, .own 12), (6, .own 6), (5, .own 5)], [(51000, ⟨false, 3, 1, xs.map eI⟩), (12, ⟨false, 30, 2, out.map eLevel⟩), (6, ⟨false, 3, 1, es.map eI⟩), (5, ⟨false, 3, 1, bs.map eI⟩)]⟩)

noncomputable def prlRl4 (xs : List Int) (m : Nat) (bs : List Int) (es : List Int) (b : Nat) (e : Nat) (n : Int) (out : List Level) (k : Nat) (t : Int) (c : Int) : Bool := decide (bs.length ≤ 100000 ∧ b ≤ bs.length ∧ -1000000 ≤ c ∧ c + bs.length ≤ 1000000 + b)

noncomputable def lpRl4 : Nat × (St → T (Ex × St)) := (21, lpo [60, 59, 58, 18, 17, 15, 14, 13, 12, 6, 5] [51000, 12, 6, 5] stRl41 (fun a => prlRl4 a.1 a.2.1 a.2.2.1 a.2.2.2.1 a.2.2.2.2.1 a.2.2.2.2.2.1 a.2.2.2.2.2.2.1 a.2.2.2.2.2.2.2.1 a.2.2.2.2.2.2.2.2.1 a.2.2.2.2.2.2.2.2.2.1 a.2.2.2.2.2.2.2.2.2.2) fun a => outRl4 a.1 a.2.1 a.2.2.1 a.2.2.2.1 a.2.2.2.2.1 a.2.2.2.2.2.1 a.2.2.2.2.2.2.1 a.2.2.2.2.2.2.2.1 a.2.2.2.2.2.2.2.2.1 a.2.2.2.2.2.2.2.2.2.1 a.2.2.2.2.2.2.2.2.2.2)

def stRl5 (xs : List Int) (m : Nat) (bs : List Int) (es : List Int) (b : Nat) (e : Nat) (n : Int) (out : List Level) (k : Nat) (t : Int) (c : Int) : St := ⟨[(60, vI k), (59, vI m), (58, .win 51000 0 m), (18, vI c), (17, vI t), (15, vI e), (14, vI b), (13, vI n), (12, .own 12), (6, .own 6), (5, .own 5)], [(51000, ⟨false, 3, 1, xs.map eI⟩), (12, ⟨false, 30, 2, out.map eLevel⟩), (6, ⟨false, 3, 1, es.map eI⟩), (5, ⟨false, 3, 1, bs.map eI⟩)]⟩

def stRl51 (a : (List Int) × Nat × (List Int) × (List Int) × Nat × Nat × Int × (List Level) × Nat × Int × Int) : St := stRl5 a.1 a.2.1 a.2.2.1 a.2.2.2.1 a.2.2.2.2.1 a.2.2.2.2.2.1 a.2.2.2.2.2.2.1 a.2.2.2.2.2.2.2.1 a.2.2.2.2.2.2.2.2.1 a.2.2.2.2.2.2.2.2.2.1 a.2.2.2.2.2.2.2.2.2.2

theorem stRl5_inj (a a' : (List Int) × Nat × (List Int) × (List Int) × Nat × Nat × Int × (List Level) × Nat × Int × Int) (h : stRl51 a = stRl51 a') : a = a' := by
  simp only [stRl51, stRl5] at h
  try simp [strs_inj, ints_inj, bools_inj, eL_eIs_inj, eBeats_inj, eBeat_iff, eL_eBeats_inj, eSpans_inj, eSpan_iff, eHoles_inj, eHole_iff, eLevels_inj, eLevel_iff, eFigss_inj, eFigs_iff, eRatios_inj, eRatio_iff, eReps_inj, eRep_iff, eStays_inj, eStay_iff] at h
  grind

theorem unstRl5 (xs : List Int) (m : Nat) (bs : List Int) (es : List Int) (b : Nat) (e : Nat) (n : Int) (out : List Level) (k : Nat) (t : Int) (c : Int) : unenc stRl51 (St.mk [(60, (vI (↑k : Int))), (59, (vI (↑m : Int))), (58, AV.win (51000 : Nat) (0 : Nat) m), (18, (vI c)), (17, (vI t)), (15, (vI (↑e : Int))), (14, (vI (↑b : Int))), (13,
  (vI n)), (12, .own 12), (6, .own 6), (5, .own 5)] [(51000, Blk.mk false 3 1 (List.map eI xs)), (12, Blk.mk false 30 2 (List.map eLevel out)), (6, Blk.mk false 3 1
  (List.map eI es)), (5, Blk.mk false 3 1 (List.map eI bs))]) = some (xs, m, bs, es, b, e, n, out, k, t, c) := unenc_of stRl5_inj (xs, m, bs, es, b, e, n, out, k, t, c) rfl

def outRl5 (xs : List Int) (m : Nat) (bs : List Int) (es : List Int) (b : Nat) (e : Nat) (n : Int) (out : List Level) (k : Nat) (t : Int) (c : Int) : T (Ex × St) := .ret (.exit 8, ⟨[(60, vI k), (59, vI m), (58, .win 51000 0 m), (18, vI (c - F.kW t (es.drop e))), (17, vI t), (15, vI ((e + F.kW t (es.drop e) : Nat) : Int)), (14, vI b), (13, vI n), (12, .own 12), (6, .own 6), (5, .own 5)], [(51000, ⟨false, 3, 1, xs.map eI⟩), (12, ⟨false, 30, 2, out.map eLevel⟩), (6, ⟨false, 3, 1, es.map eI⟩), (5, ⟨false, 3, 1, bs.map eI⟩)]⟩)

noncomputable def prlRl5 (xs : List Int) (m : Nat) (bs : List Int) (es : List Int) (b : Nat) (e : Nat) (n : Int) (out : List Level) (k : Nat) (t : Int) (c : Int) : Bool := decide (es.length ≤ 100000 ∧ e ≤ es.length ∧ c ≤ 1000000 ∧ -1000000 - (e : Int) ≤ c - es.length)

noncomputable def lpRl5 : Nat × (St → T (Ex × St)) := (24, lpo [60, 59, 58, 18, 17, 15, 14, 13, 12, 6, 5] [51000, 12, 6, 5] stRl51 (fun a => prlRl5 a.1 a.2.1 a.2.2.1 a.2.2.2.1 a.2.2.2.2.1 a.2.2.2.2.2.1 a.2.2.2.2.2.2.1 a.2.2.2.2.2.2.2.1 a.2.2.2.2.2.2.2.2.1 a.2.2.2.2.2.2.2.2.2.1 a.2.2.2.2.2.2.2.2.2.2) fun a => outRl5 a.1 a.2.1 a.2.2.1 a.2.2.2.1 a.2.2.2.2.1 a.2.2.2.2.2.1 a.2.2.2.2.2.2.1 a.2.2.2.2.2.2.2.1 a.2.2.2.2.2.2.2.2.1 a.2.2.2.2.2.2.2.2.2.1 a.2.2.2.2.2.2.2.2.2.2)

noncomputable def enRl : Env := envH ty noG lks [oSsn, oRth] [oSo, oCpt] [58] [lpRl1, lpRl2, lpRl3, lpRl4, lpRl5]

theorem enRl_ok : EnvOK Try.prog enRl := by
  refine envH_ok lks_ok ty_ok ?_ ?_
  · simp only [List.forall_mem_cons]
    exact ⟨okSsn, okRth, by simp⟩
  · simp only [List.forall_mem_cons]
    exact ⟨okSo, okCpt, by simp⟩

theorem evRl2L (l : List Beat) (q : Int) (X : List ByteArray) (bs : List Int) (es : List Int) (k : Nat) (ss : List Span) (j : Nat) : ((exec enRl (loopN Try.f30 1) (stRl2 l q X bs es k ss j)).bind (lessX ([31, 30, 29, 22, 21, 20, 6, 5, 1, 0], [6, 5]) ([22, 21, 20, 6, 5, 1, 0], [6, 5]) ([], []))).val =
  bif decide ((↑j : Int) < (↑(List.length ss) : Int)) then Option.bind (unenc (List.map eSpan) (List.map eSpan ss)) fun (z : List Span) => bif decide (j < List.length z)
  then bif Nat.ble ((List.length (List.map eI bs) + (1 : Nat)) * (8 : Nat)) (140737488355328 : Nat) && true then bif Nat.ble ((List.length (List.map eI es) + (1 : Nat)) * (8
  : Nat)) (140737488355328 : Nat) && true then some (Ex.normal, St.mk [(31, (vI (IntKind.wrap IntKind.i64 ((↑j : Int) + (1 : Int))))), (30, (vI (↑(List.length ss) : Int))),
  (29, AV.sl (List.map eSpan ss)), (22, (vI (↑k : Int))), (21, (vI (↑(List.length X) : Int))), (20, AV.sl (List.map eStr X)), (6, .own 6), (5, .own 5), (1, (vI q)), (0,
  AV.sl (List.map eBeat l))] [(6, Blk.mk false 3 1 (List.map eI es ++ [[(vI (List.getD z j (Span.mk (0 : Int) (0 : Int))).to)]])), (5, Blk.mk false 3 1 (List.map eI bs ++
  [[(vI (List.getD z j (Span.mk (0 : Int) (0 : Int))).fr)]]))]) else none else none else none else some (Ex.exit (2 : Nat), St.mk [(22, (vI (↑k : Int))), (21, (vI
  (↑(List.length X) : Int))), (20, AV.sl (List.map eStr X)), (6, .own 6), (5, .own 5), (1, (vI q)), (0, AV.sl (List.map eBeat l))] [(6, Blk.mk false 3 1 (List.map eI es)),
  (5, Blk.mk false 3 1 (List.map eI bs))]) := (execR_bind _ _ _).symm.trans (by kernel_rfl)

theorem lpRl2_ok (l : List Beat) (q : Int) (X : List ByteArray) (bs : List Int) (es : List Int) (k : Nat) (ss : List Span) (j : Nat) (hp : prlRl2 l q X bs es k ss j = true) : ∀ ex s', (outRl2 l q X bs es k ss j).val = some (ex, s') → LoopOK enRl (loopN Try.f30 1) (stRl2 l q X bs es k ss j) ex s' := by
  simp only [prlRl2, Bool.and_eq_true, decide_eq_true_eq] at hp
  obtain ⟨⟨⟨h1, h2⟩, h3⟩, h4⟩ := hp
  refine loop_fold (xs := ss) (st := fun a j => stRl2 l q X a.1 a.2 k ss j) (f := F.sp2) (fin := fun a => (.exit 2, ⟨[(22, vI k), (21, vI X.length), (20, .sl (X.map eStr)), (6, .own 6), (5, .own 5), (1, vI q), (0, .sl (l.map eBeat))], [(6, ⟨false, 3, 1, a.2.map eI⟩), (5, ⟨false, 3, 1, a.1.map eI⟩)]⟩)) (I := fun a j => a.1.length ≤ 9000000 + j ∧ a.2.length ≤ 9000000 + j) (n := ([31, 30, 29, 22, 21, 20, 6, 5, 1, 0], [6, 5])) (e := ([22, 21, 20, 6, 5, 1, 0], [6, 5])) (r := ([], [])) ?_ (fun _ => ⟨by simp, rfl⟩) (fun _ _ => rfl) ?_ (bs, es) j h2 ⟨h3, h4⟩
  · rintro ⟨bs, es⟩ _
    rw [evRl2L]; simp
  · rintro ⟨bs, es⟩ j y hy ⟨i1, i2⟩
    have hlt := lt_at hy
    simp only at i1 i2
    refine ⟨?_, by simp only [F.sp2, List.length_append, List.length_cons, List.length_nil]; omega⟩
    have r1 : Nat.ble ((bs.length + 1) * 8) 140737488355328 = true := ble_t (by omega)
    have r2 : Nat.ble ((es.length + 1) * 8) 140737488355328 = true := ble_t (by omega)
    rw [evRl2L]
    simp only [unSsn, unRth, unSo, unCpt, preSsn1, preRth1, preSo1, preCpt1, unstRl1, unstRl2, unstRl3, unstRl4, unstRl5, unstRl10, unstRl20, unstRl30, prlRl1, prlRl2, prlRl3, prlRl4, prlRl5, outRl1, outRl2, outRl3, outRl4, outRl5, etaBeat, etaSpan, etaHole, etaLevel, etaFigs, etaRatio, etaRep, etaStay, Option.bind_some, List.length_map, unStrs, unInts, unBools, uneL_eIs, unBeats, uneL_eBeats, unSpans, unHoles, unLevels, unFigss, unRatios, unReps, unStays, F.lt, F.le, cond_true, cond_false, Bool.and_true, Bool.true_and, cast_lt hlt, decide_eq_true hlt, next_at hlt (by omega : ss.length ≤ 9223372036854775807), getD_at hy, stRl2, r1, r2, appInts', F.sp2]

theorem evRl1L (l : List Beat) (q : Int) (X : List ByteArray) (bs : List Int) (es : List Int) (k : Nat) : ((exec enRl (loopN Try.f30 0) (stRl1 l q X bs es k)).bind (lessX ([22, 21, 20, 6, 5, 1, 0], [6, 5]) ([6, 5], [6, 5]) ([], []))).val =
  bif decide ((↑k : Int) < (↑(List.length X) : Int)) then Option.bind (unenc (List.map eStr) (List.map eStr X)) fun (z : List ByteArray) => bif decide (k < List.length z)
  then Option.bind (unenc encRth [AV.sl (List.map eBeat l), (vI q), (vS (List.getD z k (ByteArray.mk (Array.mk []))))]) fun (z : List Beat × Int × ByteArray) => bif decide
  (List.length z.fst ≤ (3000 : Nat)) then Option.bind (unenc stRl21 (St.mk [(31, (vI (0 : Int))), (30, (vI (↑(List.length (List.map eSpan (F.rthA z.snd.fst z.snd.snd []
  z.fst))) : Int))), (29, AV.sl (List.map eSpan (F.rthA z.snd.fst z.snd.snd [] z.fst))), (22, (vI (↑k : Int))), (21, (vI (↑(List.length X) : Int))), (20, AV.sl (List.map
  eStr X)), (6, .own 6), (5, .own 5), (1, (vI q)), (0, AV.sl (List.map eBeat l))] [(6, Blk.mk false 3 1 (List.map eI es)), (5, Blk.mk false 3 1 (List.map eI bs))])) fun (z :
  List Beat × Int × List ByteArray × List Int × List Int × Nat × List Span × Nat) => bif decide (List.length z.snd.snd.snd.snd.snd.snd.fst ≤ (3000 : Nat)) && decide
  (z.snd.snd.snd.snd.snd.snd.snd ≤ List.length z.snd.snd.snd.snd.snd.snd.fst) && decide (List.length z.snd.snd.snd.fst ≤ (9000000 : Nat) + z.snd.snd.snd.snd.snd.snd.snd) &&
  decide (List.length z.snd.snd.snd.snd.fst ≤ (9000000 : Nat) + z.snd.snd.snd.snd.snd.snd.snd) && true then some (Ex.normal, St.mk [(22, (vI (IntKind.wrap IntKind.i64
  ((↑z.snd.snd.snd.snd.snd.fst : Int) + (1 : Int))))), (21, (vI (↑(List.length z.snd.snd.fst) : Int))), (20, AV.sl (List.map eStr z.snd.snd.fst)), (6, .own 6), (5, .own 5),
  (1, (vI z.snd.fst)), (0, AV.sl (List.map eBeat z.fst))] [(6, Blk.mk false 3 1 (List.map eI (List.foldl F.sp2 (z.snd.snd.snd.fst, z.snd.snd.snd.snd.fst) (List.drop
  z.snd.snd.snd.snd.snd.snd.snd z.snd.snd.snd.snd.snd.snd.fst)).snd)), (5, Blk.mk false 3 1 (List.map eI (List.foldl F.sp2 (z.snd.snd.snd.fst, z.snd.snd.snd.snd.fst)
  (List.drop z.snd.snd.snd.snd.snd.snd.snd z.snd.snd.snd.snd.snd.snd.fst)).fst))]) else none else none else none else some (Ex.exit (0 : Nat), St.mk [(6, .own 6), (5, .own
  5)] [(6, Blk.mk false 3 1 (List.map eI es)), (5, Blk.mk false 3 1 (List.map eI bs))]) := (execR_bind _ _ _).symm.trans (by kernel_rfl)

theorem lpRl1_ok (l : List Beat) (q : Int) (X : List ByteArray) (bs : List Int) (es : List Int) (k : Nat) (hp : prlRl1 l q X bs es k = true) : ∀ ex s', (outRl1 l q X bs es k).val = some (ex, s') → LoopOK enRl (loopN Try.f30 0) (stRl1 l q X bs es k) ex s' := by
  simp only [prlRl1, Bool.and_eq_true, decide_eq_true_eq] at hp
  obtain ⟨⟨⟨⟨h1, h2⟩, h3⟩, h4⟩, h5⟩ := hp
  refine loop_fold (xs := X) (st := fun a k => stRl1 l q X a.1 a.2 k) (f := F.spx2 q l) (fin := fun a => (.exit 0, ⟨[(6, .own 6), (5, .own 5)], [(6, ⟨false, 3, 1, a.2.map eI⟩), (5, ⟨false, 3, 1, a.1.map eI⟩)]⟩)) (I := fun a k => a.1.length ≤ k * 3000 ∧ a.2.length ≤ k * 3000) (n := ([22, 21, 20, 6, 5, 1, 0], [6, 5])) (e := ([6, 5], [6, 5])) (r := ([], [])) ?_ (fun _ => ⟨by simp, rfl⟩) (fun _ _ => rfl) ?_ (bs, es) k h3 ⟨h4, h5⟩
  · rintro ⟨bs, es⟩ _
    rw [evRl1L]; simp
  · rintro ⟨bs, es⟩ k y hy ⟨i1, i2⟩
    have hlt := lt_at hy
    simp only at i1 i2
    have hr := F.rth_len q y l
    refine ⟨?_, by simp only [F.spx2, F.sp2_eq, List.length_append, List.length_map]; omega⟩
    have d1 : decide (l.length ≤ 3000) = true := decide_eq_true h1
    have d2 : decide ((F.rthA q y [] l).length ≤ 3000) = true := decide_eq_true (by omega)
    have d3 : decide (bs.length ≤ 9000000 + 0) = true := decide_eq_true (by omega)
    have d4 : decide (es.length ≤ 9000000 + 0) = true := decide_eq_true (by omega)
    rw [evRl1L]
    simp only [unSsn, unRth, unSo, unCpt, preSsn1, preRth1, preSo1, preCpt1, unstRl1, unstRl2, unstRl3, unstRl4, unstRl5, unstRl10, unstRl20, unstRl30, prlRl1, prlRl2, prlRl3, prlRl4, prlRl5, outRl1, outRl2, outRl3, outRl4, outRl5, etaBeat, etaSpan, etaHole, etaLevel, etaFigs, etaRatio, etaRep, etaStay, Option.bind_some, List.length_map, unStrs, unInts, unBools, uneL_eIs, unBeats, uneL_eBeats, unSpans, unHoles, unLevels, unFigss, unRatios, unReps, unStays, F.lt, F.le, cond_true, cond_false, Bool.and_true, Bool.true_and, cast_lt hlt, decide_eq_true hlt, next_at hlt (by omega : X.length ≤ 9223372036854775807), getD_at hy, stRl1, d1, d2, d3, d4, F.spx2, List.drop_zero, Nat.zero_le, decide_true]

theorem evRl4L (xs : List Int) (m : Nat) (bs : List Int) (es : List Int) (b : Nat) (e : Nat) (n : Int) (out : List Level) (k : Nat) (t : Int) (c : Int) : ((exec enRl (loopN Try.f30 3) (stRl4 xs m bs es b e n out k t c)).bind (lessX ([60, 59, 58, 18, 17, 15, 14, 13, 12, 6, 5], [51000, 12, 6, 5]) ([60, 59, 58, 18, 17, 15, 14, 13, 12, 6, 5], [51000, 12, 6, 5]) ([], []))).val =
  bif decide ((↑b : Int) < (↑(List.length (List.map eI bs)) : Int)) then bif decide (b < List.length (Blk.mk false 3 1 (List.map eI bs)).rows) then Option.bind (unenc
  (List.map eI) (List.map eI bs)) fun (z : List Int) => bif decide (b < List.length z) then bif List.getD z b (0 : Int) == t then some (Ex.normal, St.mk [(60, (vI (↑k :
  Int))), (59, (vI (↑m : Int))), (58, AV.win (51000 : Nat) (0 : Nat) m), (18, (vI (IntKind.wrap IntKind.i64 (c + (1 : Int))))), (17, (vI t)), (15, (vI (↑e : Int))), (14, (vI
  (IntKind.wrap IntKind.i64 ((↑b : Int) + (1 : Int))))), (13, (vI n)), (12, .own 12), (6, .own 6), (5, .own 5)] [(51000, Blk.mk false 3 1 (List.map eI xs)), (12, Blk.mk
  false 30 2 (List.map eLevel out)), (6, Blk.mk false 3 1 (List.map eI es)), (5, Blk.mk false 3 1 (List.map eI bs))]) else some (Ex.exit (6 : Nat), St.mk [(60, (vI (↑k :
  Int))), (59, (vI (↑m : Int))), (58, AV.win (51000 : Nat) (0 : Nat) m), (18, (vI c)), (17, (vI t)), (15, (vI (↑e : Int))), (14, (vI (↑b : Int))), (13, (vI n)), (12, .own
  12), (6, .own 6), (5, .own 5)] [(51000, Blk.mk false 3 1 (List.map eI xs)), (12, Blk.mk false 30 2 (List.map eLevel out)), (6, Blk.mk false 3 1 (List.map eI es)), (5,
  Blk.mk false 3 1 (List.map eI bs))]) else none else none else some (Ex.exit (6 : Nat), St.mk [(60, (vI (↑k : Int))), (59, (vI (↑m : Int))), (58, AV.win (51000 : Nat) (0 :
  Nat) m), (18, (vI c)), (17, (vI t)), (15, (vI (↑e : Int))), (14, (vI (↑b : Int))), (13, (vI n)), (12, .own 12), (6, .own 6), (5, .own 5)] [(51000, Blk.mk false 3 1
  (List.map eI xs)), (12, Blk.mk false 30 2 (List.map eLevel out)), (6, Blk.mk false 3 1 (List.map eI es)), (5, Blk.mk false 3 1 (List.map eI bs))]) := (execR_bind _ _ _).symm.trans (by kernel_rfl)

theorem lpRl4_ok (xs : List Int) (m : Nat) (bs : List Int) (es : List Int) (b : Nat) (e : Nat) (n : Int) (out : List Level) (k : Nat) (t : Int) (c : Int) (hp : prlRl4 xs m bs es b e n out k t c = true) : ∀ ex s', (outRl4 xs m bs es b e n out k t c).val = some (ex, s') → LoopOK enRl (loopN Try.f30 3) (stRl4 xs m bs es b e n out k t c) ex s' := by
  simp only [prlRl4, Bool.and_eq_true, decide_eq_true_eq] at hp
  obtain ⟨h1, h2, h3, h4⟩ := hp
  refine loop_gen (st := fun a : Nat × Int => stRl4 xs m bs es a.1 e n out k t a.2) (out := fun a => outRl4 xs m bs es a.1 e n out k t a.2) (I := fun a => a.1 ≤ bs.length ∧ -1000000 ≤ a.2 ∧ a.2 + bs.length ≤ 1000000 + a.1) (n := ([60, 59, 58, 18, 17, 15, 14, 13, 12, 6, 5], [51000, 12, 6, 5])) (e := ([60, 59, 58, 18, 17, 15, 14, 13, 12, 6, 5], [51000, 12, 6, 5])) (r := ([], [])) (fun a => bs.length - a.1) ?_ (b, c) ⟨h2, h3, h4⟩
  rintro ⟨b, c⟩ ⟨i1, i2, i3⟩
  simp only at i1 i2 i3
  by_cases hlt : b < bs.length
  · obtain ⟨y, hy⟩ := at_lt hlt
    have hk := F.kW_step (t := t) (drop_at hy)
    have hw : IntKind.i64.wrap (c + 1) = c + 1 := wrap_id (by omega) (by omega)
    have hb1 : IntKind.i64.wrap ((b : Int) + 1) = ((b + 1 : Nat) : Int) := next_at hlt (by omega)
    cases hq : y == t
    · left
      rw [hq, cond_false] at hk
      refine ⟨_, ?_, rfl, by simp, rfl⟩
      rw [evRl4L]
      simp only [unSsn, unRth, unSo, unCpt, preSsn1, preRth1, preSo1, preCpt1, unstRl1, unstRl2, unstRl3, unstRl4, unstRl5, unstRl10, unstRl20, unstRl30, prlRl1, prlRl2, prlRl3, prlRl4, prlRl5, outRl1, outRl2, outRl3, outRl4, outRl5, etaBeat, etaSpan, etaHole, etaLevel, etaFigs, etaRatio, etaRep, etaStay, Option.bind_some, List.length_map, unStrs, unInts, unBools, uneL_eIs, unBeats, uneL_eBeats, unSpans, unHoles, unLevels, unFigss, unRatios, unReps, unStays, F.lt, F.le, cond_true, cond_false, Bool.and_true, Bool.true_and, cast_lt hlt, decide_eq_true hlt, getD_at hy, hq, hk, Nat.add_zero, Int.natCast_zero, Int.add_zero]
    · right
      rw [hq, cond_true] at hk
      refine ⟨(b + 1, c + 1), ?_, rfl, ⟨hlt, by simp only; omega, by simp only; omega⟩, by simp only; omega, ?_⟩
      · rw [evRl4L]
        simp only [unSsn, unRth, unSo, unCpt, preSsn1, preRth1, preSo1, preCpt1, unstRl1, unstRl2, unstRl3, unstRl4, unstRl5, unstRl10, unstRl20, unstRl30, prlRl1, prlRl2, prlRl3, prlRl4, prlRl5, outRl1, outRl2, outRl3, outRl4, outRl5, etaBeat, etaSpan, etaHole, etaLevel, etaFigs, etaRatio, etaRep, etaStay, Option.bind_some, List.length_map, unStrs, unInts, unBools, uneL_eIs, unBeats, uneL_eBeats, unSpans, unHoles, unLevels, unFigss, unRatios, unReps, unStays, F.lt, F.le, cond_true, cond_false, Bool.and_true, Bool.true_and, cast_lt hlt, decide_eq_true hlt, getD_at hy, hq, hw, hb1, stRl4]
      · have e1 : c + ((F.kW t (bs.drop (b + 1)) + 1 : Nat) : Int) = c + 1 + (F.kW t (bs.drop (b + 1)) : Int) := by omega
        have e2 : b + (F.kW t (bs.drop (b + 1)) + 1) = b + 1 + F.kW t (bs.drop (b + 1)) := by omega
        simp only [outRl4, hk]
        rw [e1, e2]
  · left
    have : b = bs.length := by omega
    subst this
    refine ⟨_, ?_, rfl, by simp, rfl⟩
    rw [evRl4L]
    simp only [List.length_map, cast_ge, cond_false, List.drop_length, F.kW_nil, Nat.add_zero, Int.natCast_zero, Int.add_zero]

theorem evRl5L (xs : List Int) (m : Nat) (bs : List Int) (es : List Int) (b : Nat) (e : Nat) (n : Int) (out : List Level) (k : Nat) (t : Int) (c : Int) : ((exec enRl (loopN Try.f30 4) (stRl5 xs m bs es b e n out k t c)).bind (lessX ([60, 59, 58, 18, 17, 15, 14, 13, 12, 6, 5], [51000, 12, 6, 5]) ([60, 59, 58, 18, 17, 15, 14, 13, 12, 6, 5], [51000, 12, 6, 5]) ([], []))).val =
  bif decide ((↑e : Int) < (↑(List.length (List.map eI es)) : Int)) then bif decide (e < List.length (Blk.mk false 3 1 (List.map eI es)).rows) then Option.bind (unenc
  (List.map eI) (List.map eI es)) fun (z : List Int) => bif decide (e < List.length z) then bif List.getD z e (0 : Int) == t then some (Ex.normal, St.mk [(60, (vI (↑k :
  Int))), (59, (vI (↑m : Int))), (58, AV.win (51000 : Nat) (0 : Nat) m), (18, (vI (IntKind.wrap IntKind.i64 (c - (1 : Int))))), (17, (vI t)), (15, (vI (IntKind.wrap
  IntKind.i64 ((↑e : Int) + (1 : Int))))), (14, (vI (↑b : Int))), (13, (vI n)), (12, .own 12), (6, .own 6), (5, .own 5)] [(51000, Blk.mk false 3 1 (List.map eI xs)), (12,
  Blk.mk false 30 2 (List.map eLevel out)), (6, Blk.mk false 3 1 (List.map eI es)), (5, Blk.mk false 3 1 (List.map eI bs))]) else some (Ex.exit (8 : Nat), St.mk [(60, (vI
  (↑k : Int))), (59, (vI (↑m : Int))), (58, AV.win (51000 : Nat) (0 : Nat) m), (18, (vI c)), (17, (vI t)), (15, (vI (↑e : Int))), (14, (vI (↑b : Int))), (13, (vI n)), (12,
  .own 12), (6, .own 6), (5, .own 5)] [(51000, Blk.mk false 3 1 (List.map eI xs)), (12, Blk.mk false 30 2 (List.map eLevel out)), (6, Blk.mk false 3 1 (List.map eI es)), (5,
  Blk.mk false 3 1 (List.map eI bs))]) else none else none else some (Ex.exit (8 : Nat), St.mk [(60, (vI (↑k : Int))), (59, (vI (↑m : Int))), (58, AV.win (51000 : Nat) (0 :
  Nat) m), (18, (vI c)), (17, (vI t)), (15, (vI (↑e : Int))), (14, (vI (↑b : Int))), (13, (vI n)), (12, .own 12), (6, .own 6), (5, .own 5)] [(51000, Blk.mk false 3 1
  (List.map eI xs)), (12, Blk.mk false 30 2 (List.map eLevel out)), (6, Blk.mk false 3 1 (List.map eI es)), (5, Blk.mk false 3 1 (List.map eI bs))]) := (execR_bind _ _ _).symm.trans (by kernel_rfl)

theorem lpRl5_ok (xs : List Int) (m : Nat) (bs : List Int) (es : List Int) (b : Nat) (e : Nat) (n : Int) (out : List Level) (k : Nat) (t : Int) (c : Int) (hp : prlRl5 xs m bs es b e n out k t c = true) : ∀ ex s', (outRl5 xs m bs es b e n out k t c).val = some (ex, s') → LoopOK enRl (loopN Try.f30 4) (stRl5 xs m bs es b e n out k t c) ex s' := by
  simp only [prlRl5, Bool.and_eq_true, decide_eq_true_eq] at hp
  obtain ⟨h1, h2, h3, h4⟩ := hp
  refine loop_gen (st := fun a : Nat × Int => stRl5 xs m bs es b a.1 n out k t a.2) (out := fun a => outRl5 xs m bs es b a.1 n out k t a.2) (I := fun a => a.1 ≤ es.length ∧ a.2 ≤ 1000000 ∧ -1000000 - (a.1 : Int) ≤ a.2 - es.length) (n := ([60, 59, 58, 18, 17, 15, 14, 13, 12, 6, 5], [51000, 12, 6, 5])) (e := ([60, 59, 58, 18, 17, 15, 14, 13, 12, 6, 5], [51000, 12, 6, 5])) (r := ([], [])) (fun a => es.length - a.1) ?_ (e, c) ⟨h2, h3, h4⟩
  rintro ⟨e, c⟩ ⟨i1, i2, i3⟩
  simp only at i1 i2 i3
  by_cases hlt : e < es.length
  · obtain ⟨y, hy⟩ := at_lt hlt
    have hk := F.kW_step (t := t) (drop_at hy)
    have hw : IntKind.i64.wrap (c - 1) = c - 1 := wrap_id (by omega) (by omega)
    have hb1 : IntKind.i64.wrap ((e : Int) + 1) = ((e + 1 : Nat) : Int) := next_at hlt (by omega)
    cases hq : y == t
    · left
      rw [hq, cond_false] at hk
      refine ⟨_, ?_, rfl, by simp, rfl⟩
      rw [evRl5L]
      simp only [unSsn, unRth, unSo, unCpt, preSsn1, preRth1, preSo1, preCpt1, unstRl1, unstRl2, unstRl3, unstRl4, unstRl5, unstRl10, unstRl20, unstRl30, prlRl1, prlRl2, prlRl3, prlRl4, prlRl5, outRl1, outRl2, outRl3, outRl4, outRl5, etaBeat, etaSpan, etaHole, etaLevel, etaFigs, etaRatio, etaRep, etaStay, Option.bind_some, List.length_map, unStrs, unInts, unBools, uneL_eIs, unBeats, uneL_eBeats, unSpans, unHoles, unLevels, unFigss, unRatios, unReps, unStays, F.lt, F.le, cond_true, cond_false, Bool.and_true, Bool.true_and, cast_lt hlt, decide_eq_true hlt, getD_at hy, hq, hk, Nat.add_zero, Int.natCast_zero, Int.sub_zero]
    · right
      rw [hq, cond_true] at hk
      refine ⟨(e + 1, c - 1), ?_, rfl, ⟨hlt, by simp only; omega, by simp only; omega⟩, by simp only; omega, ?_⟩
      · rw [evRl5L]
        simp only [unSsn, unRth, unSo, unCpt, preSsn1, preRth1, preSo1, preCpt1, unstRl1, unstRl2, unstRl3, unstRl4, unstRl5, unstRl10, unstRl20, unstRl30, prlRl1, prlRl2, prlRl3, prlRl4, prlRl5, outRl1, outRl2, outRl3, outRl4, outRl5, etaBeat, etaSpan, etaHole, etaLevel, etaFigs, etaRatio, etaRep, etaStay, Option.bind_some, List.length_map, unStrs, unInts, unBools, uneL_eIs, unBeats, uneL_eBeats, unSpans, unHoles, unLevels, unFigss, unRatios, unReps, unStays, F.lt, F.le, cond_true, cond_false, Bool.and_true, Bool.true_and, cast_lt hlt, decide_eq_true hlt, getD_at hy, hq, hw, hb1, stRl5]
      · have e1 : c - ((F.kW t (es.drop (e + 1)) + 1 : Nat) : Int) = c - 1 - (F.kW t (es.drop (e + 1)) : Int) := by omega
        have e2 : e + (F.kW t (es.drop (e + 1)) + 1) = e + 1 + F.kW t (es.drop (e + 1)) := by omega
        simp only [outRl5, hk]
        rw [e1, e2]
  · left
    have : e = es.length := by omega
    subst this
    refine ⟨_, ?_, rfl, by simp, rfl⟩
    rw [evRl5L]
    simp only [List.length_map, cast_ge, cond_false, List.drop_length, F.kW_nil, Nat.add_zero, Int.natCast_zero, Int.sub_zero]

theorem evRl3L (xs : List Int) (m : Nat) (bs : List Int) (es : List Int) (b : Nat) (e : Nat) (n : Int) (out : List Level) (k : Nat) : ((exec enRl (loopN Try.f30 2) (stRl3 xs m bs es b e n out k)).bind (lessX ([60, 59, 58, 15, 14, 13, 12, 6, 5], [51000, 12, 6, 5]) ([12], [12]) ([], []))).val =
  bif decide ((↑k : Int) < (↑m : Int)) then bif decide (k < m) then Option.bind (unenc (List.map eI) (List.map eI xs)) fun (z : List Int) => bif decide ((0 : Nat) + k <
  List.length z) then Option.bind (unenc stRl41 (St.mk [(60, (vI (↑k : Int))), (59, (vI (↑m : Int))), (58, AV.win (51000 : Nat) (0 : Nat) m), (18, (vI n)), (17, (vI
  (List.getD z ((0 : Nat) + k) (0 : Int)))), (15, (vI (↑e : Int))), (14, (vI (↑b : Int))), (13, (vI n)), (12, .own 12), (6, .own 6), (5, .own 5)] [(51000, Blk.mk false 3 1
  (List.map eI xs)), (12, Blk.mk false 30 2 (List.map eLevel out)), (6, Blk.mk false 3 1 (List.map eI es)), (5, Blk.mk false 3 1 (List.map eI bs))])) fun (z : List Int × Nat
  × List Int × List Int × Nat × Nat × Int × List Level × Nat × Int × Int) => bif decide (List.length z.snd.snd.fst ≤ (100000 : Nat) ∧ z.snd.snd.snd.snd.fst ≤ List.length
  z.snd.snd.fst ∧ (-1000000 : Int) ≤ z.snd.snd.snd.snd.snd.snd.snd.snd.snd.snd ∧ z.snd.snd.snd.snd.snd.snd.snd.snd.snd.snd + (↑(List.length z.snd.snd.fst) : Int) ≤ (1000000
  : Int) + (↑z.snd.snd.snd.snd.fst : Int)) && true then Option.bind (unenc stRl51 (St.mk [(60, (vI (↑z.snd.snd.snd.snd.snd.snd.snd.snd.fst : Int))), (59, (vI (↑z.snd.fst :
  Int))), (58, AV.win (51000 : Nat) (0 : Nat) z.snd.fst), (18, (vI (z.snd.snd.snd.snd.snd.snd.snd.snd.snd.snd + (↑(F.kW z.snd.snd.snd.snd.snd.snd.snd.snd.snd.fst (List.drop
  z.snd.snd.snd.snd.fst z.snd.snd.fst)) : Int)))), (17, (vI z.snd.snd.snd.snd.snd.snd.snd.snd.snd.fst)), (15, (vI (↑z.snd.snd.snd.snd.snd.fst : Int))), (14, (vI
  (↑(z.snd.snd.snd.snd.fst + F.kW z.snd.snd.snd.snd.snd.snd.snd.snd.snd.fst (List.drop z.snd.snd.snd.snd.fst z.snd.snd.fst)) : Int))), (13, (vI
  z.snd.snd.snd.snd.snd.snd.fst)), (12, .own 12), (6, .own 6), (5, .own 5)] [(51000, Blk.mk false 3 1 (List.map eI z.fst)), (12, Blk.mk false 30 2 (List.map eLevel
  z.snd.snd.snd.snd.snd.snd.snd.fst)), (6, Blk.mk false 3 1 (List.map eI z.snd.snd.snd.fst)), (5, Blk.mk false 3 1 (List.map eI z.snd.snd.fst))])) fun (z : List Int × Nat ×
  List Int × List Int × Nat × Nat × Int × List Level × Nat × Int × Int) => bif decide (List.length z.snd.snd.snd.fst ≤ (100000 : Nat) ∧ z.snd.snd.snd.snd.snd.fst ≤
  List.length z.snd.snd.snd.fst ∧ z.snd.snd.snd.snd.snd.snd.snd.snd.snd.snd ≤ (1000000 : Int) ∧ (-1000000 : Int) - (↑z.snd.snd.snd.snd.snd.fst : Int) ≤
  z.snd.snd.snd.snd.snd.snd.snd.snd.snd.snd - (↑(List.length z.snd.snd.snd.fst) : Int)) && true then bif z.snd.snd.snd.snd.snd.snd.snd.snd.snd.snd - (↑(F.kW
  z.snd.snd.snd.snd.snd.snd.snd.snd.snd.fst (List.drop z.snd.snd.snd.snd.snd.fst z.snd.snd.snd.fst)) : Int) != z.snd.snd.snd.snd.snd.snd.fst then bif Nat.ble ((List.length
  (List.map eLevel z.snd.snd.snd.snd.snd.snd.snd.fst) + (1 : Nat)) * (16 : Nat)) (140737488355328 : Nat) && true then some (Ex.normal, St.mk [(60, (vI (IntKind.wrap
  IntKind.i64 ((↑z.snd.snd.snd.snd.snd.snd.snd.snd.fst : Int) + (1 : Int))))), (59, (vI (↑z.snd.fst : Int))), (58, AV.win (51000 : Nat) (0 : Nat) z.snd.fst), (15, (vI
  (↑(z.snd.snd.snd.snd.snd.fst + F.kW z.snd.snd.snd.snd.snd.snd.snd.snd.snd.fst (List.drop z.snd.snd.snd.snd.snd.fst z.snd.snd.snd.fst)) : Int))), (14, (vI
  (↑z.snd.snd.snd.snd.fst : Int))), (13, (vI (z.snd.snd.snd.snd.snd.snd.snd.snd.snd.snd - (↑(F.kW z.snd.snd.snd.snd.snd.snd.snd.snd.snd.fst (List.drop
  z.snd.snd.snd.snd.snd.fst z.snd.snd.snd.fst)) : Int)))), (12, .own 12), (6, .own 6), (5, .own 5)] [(51000, Blk.mk false 3 1 (List.map eI z.fst)), (12, Blk.mk false 30 2
  (List.map eLevel z.snd.snd.snd.snd.snd.snd.snd.fst ++ [[(vI z.snd.snd.snd.snd.snd.snd.snd.snd.snd.fst), (vI (z.snd.snd.snd.snd.snd.snd.snd.snd.snd.snd - (↑(F.kW
  z.snd.snd.snd.snd.snd.snd.snd.snd.snd.fst (List.drop z.snd.snd.snd.snd.snd.fst z.snd.snd.snd.fst)) : Int)))]])), (6, Blk.mk false 3 1 (List.map eI z.snd.snd.snd.fst)), (5,
  Blk.mk false 3 1 (List.map eI z.snd.snd.fst))]) else none else some (Ex.normal, St.mk [(60, (vI (IntKind.wrap IntKind.i64 ((↑z.snd.snd.snd.snd.snd.snd.snd.snd.fst : Int) +
  (1 : Int))))), (59, (vI (↑z.snd.fst : Int))), (58, AV.win (51000 : Nat) (0 : Nat) z.snd.fst), (15, (vI (↑(z.snd.snd.snd.snd.snd.fst + F.kW
  z.snd.snd.snd.snd.snd.snd.snd.snd.snd.fst (List.drop z.snd.snd.snd.snd.snd.fst z.snd.snd.snd.fst)) : Int))), (14, (vI (↑z.snd.snd.snd.snd.fst : Int))), (13, (vI
  (z.snd.snd.snd.snd.snd.snd.snd.snd.snd.snd - (↑(F.kW z.snd.snd.snd.snd.snd.snd.snd.snd.snd.fst (List.drop z.snd.snd.snd.snd.snd.fst z.snd.snd.snd.fst)) : Int)))), (12,
  .own 12), (6, .own 6), (5, .own 5)] [(51000, Blk.mk false 3 1 (List.map eI z.fst)), (12, Blk.mk false 30 2 (List.map eLevel z.snd.snd.snd.snd.snd.snd.snd.fst)), (6, Blk.mk
  false 3 1 (List.map eI z.snd.snd.snd.fst)), (5, Blk.mk false 3 1 (List.map eI z.snd.snd.fst))]) else none else none else none else none else some (Ex.exit (4 : Nat), St.mk
  [(12, .own 12)] [(12, Blk.mk false 30 2 (List.map eLevel out))]) := (execR_bind _ _ _).symm.trans (by kernel_rfl)

theorem lpRl3_ok (xs : List Int) (m : Nat) (bs : List Int) (es : List Int) (b : Nat) (e : Nat) (n : Int) (out : List Level) (k : Nat) (hp : prlRl3 xs m bs es b e n out k = true) : ∀ ex s', (outRl3 xs m bs es b e n out k).val = some (ex, s') → LoopOK enRl (loopN Try.f30 2) (stRl3 xs m bs es b e n out k) ex s' := by
  simp only [prlRl3, Bool.and_eq_true, decide_eq_true_eq] at hp
  obtain ⟨h1, h2, h3, h4, h5, h6, h7, h8, h9, h10⟩ := hp
  refine loop_gen (st := fun a : Nat × Nat × Nat × Int × List Level => stRl3 xs m bs es a.2.1 a.2.2.1 a.2.2.2.1 a.2.2.2.2 a.1) (out := fun a => outRl3 xs m bs es a.2.1 a.2.2.1 a.2.2.2.1 a.2.2.2.2 a.1) (I := fun a => a.1 ≤ m ∧ a.2.1 ≤ bs.length ∧ a.2.2.1 ≤ es.length ∧ -(a.2.2.1 : Int) ≤ a.2.2.2.1 ∧ a.2.2.2.1 ≤ a.2.1 ∧ a.2.2.2.2.length ≤ a.1) (n := ([60, 59, 58, 15, 14, 13, 12, 6, 5], [51000, 12, 6, 5])) (e := ([12], [12])) (r := ([], [])) (fun a => m - a.1) ?_ (k, b, e, n, out) ⟨h5, h6, h7, h8, h9, h10⟩
  rintro ⟨k, b, e, n, out⟩ ⟨i1, i2, i3, i4, i5, i6⟩
  simp only at i1 i2 i3 i4 i5 i6
  by_cases hlt : k < m
  · right
    obtain ⟨y, hy⟩ := at_lt (show k < xs.length by omega)
    have hlx := lt_at hy
    have hty : (xs.take m)[k]? = some y := by rw [List.getElem?_take_of_lt hlt]; exact hy
    have hkb : F.kW y (bs.drop b) ≤ bs.length - b := by have := F.kW_le y (bs.drop b); rw [List.length_drop] at this; exact this
    have hke : F.kW y (es.drop e) ≤ es.length - e := by have := F.kW_le y (es.drop e); rw [List.length_drop] at this; exact this
    have q1 : bs.length ≤ 100000 ∧ b ≤ bs.length ∧ -1000000 ≤ n ∧ n + bs.length ≤ 1000000 + b := ⟨h2, i2, by omega, by omega⟩
    have q2 : es.length ≤ 100000 ∧ e ≤ es.length ∧ n + (F.kW y (bs.drop b) : Int) ≤ 1000000 ∧ -1000000 - (e : Int) ≤ n + (F.kW y (bs.drop b) : Int) - es.length := ⟨h3, i3, by omega, by omega⟩
    have hroom : Nat.ble ((out.length + 1) * 16) 140737488355328 = true := ble_t (by omega)
    refine ⟨(k + 1, b + F.kW y (bs.drop b), e + F.kW y (es.drop e), n + F.kW y (bs.drop b) - F.kW y (es.drop e), bif (n + F.kW y (bs.drop b) - F.kW y (es.drop e)) != n then out ++ [⟨y, n + F.kW y (bs.drop b) - F.kW y (es.drop e)⟩] else out), ?_, rfl, ⟨hlt, by simp only; omega, by simp only; omega, by simp only; omega, by simp only; omega, ?_⟩, by simp only; omega, ?_⟩
    · rw [evRl3L]
      simp only [unSsn, unRth, unSo, unCpt, preSsn1, preRth1, preSo1, preCpt1, unstRl1, unstRl2, unstRl3, unstRl4, unstRl5, unstRl10, unstRl20, unstRl30, prlRl1, prlRl2, prlRl3, prlRl4, prlRl5, outRl1, outRl2, outRl3, outRl4, outRl5, etaBeat, etaSpan, etaHole, etaLevel, etaFigs, etaRatio, etaRep, etaStay, Option.bind_some, List.length_map, unStrs, unInts, unBools, uneL_eIs, unBeats, uneL_eBeats, unSpans, unHoles, unLevels, unFigss, unRatios, unReps, unStays, F.lt, F.le, cond_true, cond_false, Bool.and_true, Bool.true_and, cast_lt hlt, decide_eq_true hlt, Nat.zero_add, decide_eq_true hlx, getD_at hy, decide_eq_true q1, decide_eq_true q2, next_at hlt (by omega : m ≤ 9223372036854775807), stRl3, hroom, appWLevels]
      cases (n + (F.kW y (bs.drop b) : Int) - (F.kW y (es.drop e) : Int)) != n <;> rfl
    · simp only
      cases (n + (F.kW y (bs.drop b) : Int) - (F.kW y (es.drop e) : Int)) != n <;> simp <;> omega
    · simp only [outRl3]
      rw [drop_at hty, F.refL, List.drop_drop, List.drop_drop]
  · left
    have : k = m := by omega
    subst this
    refine ⟨(.exit 4, ⟨[(12, .own 12)], [(12, ⟨false, 30, 2, out.map eLevel⟩)]⟩), ?_, ?_, by simp, rfl⟩
    · rw [evRl3L]; simp
    · simp only [outRl3]
      rw [List.drop_of_length_le (by rw [List.length_take]; omega), F.refL]
      rfl

end M
end Go.Proofs.Ytnkaadiofjoacaa
