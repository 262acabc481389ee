/- What is proved here: what the law that states are there returns on plain data (no statement of the seat). -/
import Derived.Test.YtnkaadiofjoacaaB8
namespace Go.Proofs.Ytnkaadiofjoacaa
open Go Go.RowKit
set_option linter.unusedVariables false
set_option linter.unusedSimpArgs false

/-- No beat of the session with a greater number is not later than a time. -/
def F.noneB (x : ByteArray) (n t : Int) (l : List Beat) : Bool := l.all fun b => !((b.session.toList == x.toList) && F.lt n b.no && F.le b.time t)

theorem F.quietF_ok {l : List Beat} {q : Int} (h : F.quietF l q = 0) : F.checkB l = 0 ∧ 1 ≤ q ∧ q ≤ 1000000 := by
  unfold F.quietF at h
  cases h1 : F.checkB l != 0
  · rw [h1] at h
    cases h2 : F.out q 1 1000000
    · simp [F.out] at h2
      exact ⟨by simpa using h1, by omega⟩
    · rw [h2] at h; cases h
  · rw [h1] at h
    simp at h1
    exact absurd h h1

theorem F.sesF_ok {l : List Beat} {q : Int} {x : ByteArray} (h : F.sesF l q x = 0) : F.checkB l = 0 ∧ 1 ≤ q ∧ q ≤ 1000000 ∧ F.isName x = true := by
  unfold F.sesF at h
  cases h1 : F.quietF l q != 0
  · rw [h1] at h
    cases h2 : F.isName x
    · rw [h2] at h; cases h
    · have := F.quietF_ok (by simpa using h1 : F.quietF l q = 0)
      exact ⟨this.1, this.2.1, this.2.2, rfl⟩
  · rw [h1] at h
    simp at h1
    exact absurd h h1

theorem F.stays_ord {q : Int} {l : List Beat} : ∀ s ∈ F.stays q l, s.sp.fr ≤ s.sp.to := by
  intro s hs
  obtain ⟨pre, r, _, h2, _, h4⟩ := F.stays_mem q hs
  rw [h2]
  simp only; omega

theorem F.endB_le (q : Int) (b : Beat) (r : List Beat) : F.endB q b r ≤ IntKind.i64.wrap (b.time + q) := by
  cases r with
  | nil => exact Int.le_refl _
  | cons n r =>
    simp only [F.endB]
    cases (n.session.toList == b.session.toList)
    · exact Int.le_refl _
    · simp only [cond_true]; omega

/-- What is found is as the law says. -/
theorem F.found_ok {l : List Beat} {q t : Int} {x : ByteArray} (hc : F.checkB l = 0) {s : Stay} (hf : F.stFind x t (F.stays q l) = some s) :
    s.beat.session = x ∧ s.beat.time ≤ t ∧ s.beat.state ≠ 5 ∧ t < IntKind.i64.wrap (s.beat.time + q) ∧ F.noneB x s.beat.no t l = true := by
  obtain ⟨pre, r, h1, h2⟩ := F.find_some hf
  obtain ⟨pre', r', e1, e2, e3, e4⟩ := F.stays_mem q (l := l) (s := s) (by show s ∈ F.stays q l; rw [h1]; simp)
  simp only [F.stP, Bool.and_eq_true, F.le, F.lt, decide_eq_true_eq, e2] at h2
  obtain ⟨⟨k1, k2⟩, k3⟩ := h2
  have ex : s.beat.session = x := F.seq_iff.1 k1
  refine ⟨ex, k2, e3, by have := F.endB_le q s.beat r'; omega, ?_⟩
  rw [F.noneB, List.all_eq_true]
  intro y hy
  have := F.last_one e1 (F.checkB_sorted hc).1 k3 y hy
  cases h : (y.session.toList == x.toList) && F.lt s.beat.no y.no && F.le y.time t
  · rfl
  · exfalso
    simp only [Bool.and_eq_true, F.lt, F.le, decide_eq_true_eq] at h
    have ey : y.session = x := F.seq_iff.1 h.1.1
    exact this (ey.trans ex.symm) h.1.2 h.2

/-- What the state at a time is. -/
theorem F.sta_cases (l : List Beat) (q : Int) (x : ByteArray) (t : Int) :
    ((F.stateAt l q x t).2.1 = false ∧ ((F.stateAt l q x t).2.2 != 0) = true) ∨
    ((F.stateAt l q x t).2.2 = 0 ∧ (F.there l q x).2 = 0 ∧ F.inS (F.there l q x).1 t = (F.stateAt l q x t).2.1 ∧
      ((F.stateAt l q x t).2.1 = true → (F.stateAt l q x t).1.session = x ∧ (F.stateAt l q x t).1.time ≤ t ∧ (F.stateAt l q x t).1.state ≠ 5 ∧
        t < IntKind.i64.wrap ((F.stateAt l q x t).1.time + q) ∧ F.noneB x (F.stateAt l q x t).1.no t l = true)) := by
  cases h1 : F.sesF l q x != 0
  · have h0 : F.sesF l q x = 0 := by simpa using h1
    cases h2 : F.out t 0 2000000000000
    · right
      have et : F.there l q x = (F.thereA x [] (F.stays q l), 0) := by simp only [F.there, h1, cond_false]
      have hin := F.there_in x t (F.stays q l) [] F.stays_ord (by simp)
      rw [et]
      cases hf : F.stFind x t (F.stays q l) with
      | none =>
        rw [hf] at hin
        simp [F.stateAt, h1, h2, hf, F.found, hin, F.inS]
        simpa [F.inS, F.found] using hin
      | some s =>
        rw [hf] at hin
        have := F.found_ok (F.sesF_ok h0).1 hf
        simp only [F.stateAt, h1, h2, hf, F.found, F.got, cond_false, cond_true, Option.isSome, Option.getD]
        exact ⟨trivial, trivial, by simpa [F.inS, F.found] using hin, fun _ => this⟩
    · left
      simp [F.stateAt, h1, h2]
  · left
    simp [F.stateAt, h1]

namespace M

def stInSp (l : List Span) (t : Int) (k : Nat) : St := ⟨[(9, vI k), (8, vI l.length), (7, .sl (l.map eSpan)), (1, vI t)], []⟩

def stInSp1 (a : (List Span) × Int × Nat) : St := stInSp a.1 a.2.1 a.2.2

theorem stInSp_inj (a a' : (List Span) × Int × Nat) (h : stInSp1 a = stInSp1 a') : a = a' := by
  simp only [stInSp1, stInSp] at h
  try simp [strs_inj, ints_inj, bools_inj, eL_eIs_inj, eBeats_inj, eBeat_iff, eL_eBeats_inj, eSpans_inj, eSpan_iff, eHoles_inj, eHole_iff, eLevels_inj, eLevel_iff, eFigss_inj, eFigs_iff, eRatios_inj, eRatio_iff, eReps_inj, eRep_iff, eStays_inj, eStay_iff] at h
  grind

theorem unstInSp (l : List Span) (t : Int) (k : Nat) : unenc stInSp1 (St.mk [(9, (vI (↑k : Int))), (8, (vI (↑(List.length l) : Int))), (7, AV.sl (List.map eSpan l)), (1, (vI t))] []) = some (l, t, k) := unenc_of stInSp_inj (l, t, k) rfl

theorem unstInSp0 (l : List Span) (t : Int)  : unenc stInSp1 (St.mk [(9, (vI (0 : Int))), (8, (vI (↑(List.length l) : Int))), (7, AV.sl (List.map eSpan l)), (1, (vI t))] []) = some (l, t, 0) := unenc_of stInSp_inj (l, t, 0) rfl

def outInSp (l : List Span) (t : Int) (k : Nat) : T (Ex × St) := .ifB ((l.drop k).all fun s => !(F.le s.fr t && F.lt t s.to)) (.ret (.exit 0, ⟨[], []⟩)) (.ret (.ret, ⟨[(4, vB true)], []⟩))

noncomputable def prlInSp (l : List Span) (t : Int) (k : Nat) : Bool := decide (l.length ≤ 9223372036854775807) && decide (k ≤ l.length)

noncomputable def lpInSp : Nat × (St → T (Ex × St)) := (2, lpo [9, 8, 7, 1] [] stInSp1 (fun a => prlInSp a.1 a.2.1 a.2.2) fun a => outInSp a.1 a.2.1 a.2.2)

noncomputable def enInSp : Env := envH ty noG lks [] [] [] [lpInSp]

theorem enInSp_ok : EnvOK Try.prog enInSp := by
  refine envH_ok lks_ok ty_ok ?_ ?_
  · simp
  · simp

def encInSp1 (l : List Span) (t : Int) : List AV := [.sl (l.map eSpan), vI t]

def encInSp (a : (List Span) × Int) : List AV := encInSp1 a.1 a.2

theorem encInSp_inj (a a' : (List Span) × Int) (h : encInSp a = encInSp a') : a = a' := by
  simp only [encInSp, encInSp1] at h
  try simp [strs_inj, ints_inj, bools_inj, eL_eIs_inj, eBeats_inj, eBeat_iff, eL_eBeats_inj, eSpans_inj, eSpan_iff, eHoles_inj, eHole_iff, eLevels_inj, eLevel_iff, eFigss_inj, eFigs_iff, eRatios_inj, eRatio_iff, eReps_inj, eRep_iff, eStays_inj, eStay_iff] at h
  grind

theorem unInSp (l : List Span) (t : Int) : unenc encInSp ([AV.sl (List.map eSpan l), (vI t)]) = some (l, t) := unenc_of encInSp_inj (l, t) rfl

def resInSp1 (l : List Span) (t : Int) : AV × Heap := (vB (F.inS l t), [])

def preInSp1 (l : List Span) (t : Int) : Bool := true

def stLSt (l : List Beat) (q : Int) (x : ByteArray) (t : Int) (b : Beat) (k : Nat) : St := ⟨[(55, vI k), (54, vI l.length), (53, .sl (l.map eBeat)), (9, .ptr 9 0 0), (3, vI t), (2, vS x), (1, vI q)], [(9, ⟨true, 0, 0, [eBeat b]⟩)]⟩

def stLSt1 (a : (List Beat) × Int × ByteArray × Int × Beat × Nat) : St := stLSt a.1 a.2.1 a.2.2.1 a.2.2.2.1 a.2.2.2.2.1 a.2.2.2.2.2

theorem stLSt_inj (a a' : (List Beat) × Int × ByteArray × Int × Beat × Nat) (h : stLSt1 a = stLSt1 a') : a = a' := by
  simp only [stLSt1, stLSt] at h
  try simp [strs_inj, ints_inj, bools_inj, eL_eIs_inj, eBeats_inj, eBeat_iff, eL_eBeats_inj, eSpans_inj, eSpan_iff, eHoles_inj, eHole_iff, eLevels_inj, eLevel_iff, eFigss_inj, eFigs_iff, eRatios_inj, eRatio_iff, eReps_inj, eRep_iff, eStays_inj, eStay_iff] at h
  grind

theorem unstLSt (l : List Beat) (q : Int) (x : ByteArray) (t : Int) (b : Beat) (k : Nat) : unenc stLSt1 (St.mk [(55, (vI (↑k : Int))), (54, (vI (↑(List.length l) : Int))), (53, AV.sl (List.map eBeat l)), (9, .ptr 9 0 0), (3, (vI t)), (2, (vS x)), (1, (vI q))] [(9, Blk.mk true
  0 0 [[(vS b.session), (vI b.no), (vI b.time), (vI b.state), (vI b.rate)]])]) = some (l, q, x, t, b, k) := unenc_of stLSt_inj (l, q, x, t, b, k) rfl

theorem unstLSt0 (l : List Beat) (q : Int) (x : ByteArray) (t : Int) (b : Beat)  : unenc stLSt1 (St.mk [(55, (vI (0 : Int))), (54, (vI (↑(List.length l) : Int))), (53, AV.sl (List.map eBeat l)), (9, .ptr 9 0 0), (3, (vI t)), (2, (vS x)), (1, (vI q))] [(9, Blk.mk true
  0 0 [[(vS b.session), (vI b.no), (vI b.time), (vI b.state), (vI b.rate)]])]) = some (l, q, x, t, b, 0) := unenc_of stLSt_inj (l, q, x, t, b, 0) rfl

def outLSt (l : List Beat) (q : Int) (x : ByteArray) (t : Int) (b : Beat) (k : Nat) : T (Ex × St) := .ifB (F.noneB x b.no t (l.drop k)) (.ret (.exit 0, ⟨[(9, .ptr 9 0 0), (3, vI t), (2, vS x), (1, vI q)], [(9, ⟨true, 0, 0, [eBeat b]⟩)]⟩)) (.ret (.ret, ⟨[(8, vB false)], []⟩))

noncomputable def prlLSt (l : List Beat) (q : Int) (x : ByteArray) (t : Int) (b : Beat) (k : Nat) : Bool := decide (l.length ≤ 9223372036854775807) && decide (k ≤ l.length)

noncomputable def lpLSt : Nat × (St → T (Ex × St)) := (10, lpo [55, 54, 53, 9, 3, 2, 1] [9] stLSt1 (fun a => prlLSt a.1 a.2.1 a.2.2.1 a.2.2.2.1 a.2.2.2.2.1 a.2.2.2.2.2) fun a => outLSt a.1 a.2.1 a.2.2.1 a.2.2.2.1 a.2.2.2.2.1 a.2.2.2.2.2)

def encLSt1 (l : List Beat) (q : Int) (x : ByteArray) (t : Int) : List AV := [.sl (l.map eBeat), vI q, vS x, vI t]

def encLSt (a : (List Beat) × Int × ByteArray × Int) : List AV := encLSt1 a.1 a.2.1 a.2.2.1 a.2.2.2

theorem encLSt_inj (a a' : (List Beat) × Int × ByteArray × Int) (h : encLSt a = encLSt a') : a = a' := by
  simp only [encLSt, encLSt1] at h
  try simp [strs_inj, ints_inj, bools_inj, eL_eIs_inj, eBeats_inj, eBeat_iff, eL_eBeats_inj, eSpans_inj, eSpan_iff, eHoles_inj, eHole_iff, eLevels_inj, eLevel_iff, eFigss_inj, eFigs_iff, eRatios_inj, eRatio_iff, eReps_inj, eRep_iff, eStays_inj, eStay_iff] at h
  grind

theorem unLSt (l : List Beat) (q : Int) (x : ByteArray) (t : Int) : unenc encLSt ([AV.sl (List.map eBeat l), (vI q), (vS x), (vI t)]) = some (l, q, x, t) := unenc_of encLSt_inj (l, q, x, t) rfl

def resLSt1 (l : List Beat) (q : Int) (x : ByteArray) (t : Int) : AV × Heap := (vB true, [])

def preLSt1 (l : List Beat) (q : Int) (x : ByteArray) (t : Int) : Bool := true

end M
end Go.Proofs.Ytnkaadiofjoacaa
