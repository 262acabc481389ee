/- What is proved here: what the law that states are there returns on plain data (no statement of the seat). -/
import Derived.Test.YthchmcmnodaneaaB8
namespace Go.Proofs.Ythchmcmnodaneaa
open Go Go.RowKit
set_option linter.unusedVariables false
set_option linter.unusedSimpArgs false

/-- No beat of the session with a greater number is not later than a time. -/
def F.noneB (x : ByteArray) (n t : Int) (l : List Beat) : Bool := l.all fun b => !((b.session.toList == x.toList) && F.lt n b.no && F.le b.time t)

theorem F.quietF_ok {l : List Beat} {q : Int} (h : F.quietF l q = 0) : F.checkB l = 0 ∧ 1 ≤ q ∧ q ≤ 1000000 := by
  unfold F.quietF at h
  cases h1 : F.checkB l != 0
  · rw [h1] at h
    cases h2 : F.out q 1 1000000
    · simp [F.out] at h2
      exact ⟨by simpa using h1, by omega⟩
    · rw [h2] at h; cases h
  · rw [h1] at h
    simp at h1
    exact absurd h h1

theorem F.sesF_ok {l : List Beat} {q : Int} {x : ByteArray} (h : F.sesF l q x = 0) : F.checkB l = 0 ∧ 1 ≤ q ∧ q ≤ 1000000 ∧ F.isName x = true := by
  unfold F.sesF at h
  cases h1 : F.quietF l q != 0
  · rw [h1] at h
    cases h2 : F.isName x
    · rw [h2] at h; cases h
    · have := F.quietF_ok (by simpa using h1 : F.quietF l q = 0)
      exact ⟨this.1, this.2.1, this.2.2, rfl⟩
  · rw [h1] at h
    simp at h1
    exact absurd h h1

theorem F.stays_ord {q : Int} {l : List Beat} : ∀ s ∈ F.stays q l, s.sp.fr ≤ s.sp.to := by
  intro s hs
  obtain ⟨pre, r, _, h2, _, h4⟩ := F.stays_mem q hs
  rw [h2]
  simp only; omega

theorem F.endB_le (q : Int) (b : Beat) (r : List Beat) : F.endB q b r ≤ IntKind.i64.wrap (b.time + q) := by
  cases r with
  | nil => exact Int.le_refl _
  | cons n r =>
    simp only [F.endB]
    cases (n.session.toList == b.session.toList)
    · exact Int.le_refl _
    · simp only [cond_true]; omega

/-- What is found is as the law says. -/
theorem F.found_ok {l : List Beat} {q t : Int} {x : ByteArray} (hc : F.checkB l = 0) {s : Stay} (hf : F.stFind x t (F.stays q l) = some s) :
    s.beat.session = x ∧ s.beat.time ≤ t ∧ s.beat.state ≠ 5 ∧ t < IntKind.i64.wrap (s.beat.time + q) ∧ F.noneB x s.beat.no t l = true := by
  obtain ⟨pre, r, h1, h2⟩ := F.find_some hf
  obtain ⟨pre', r', e1, e2, e3, e4⟩ := F.stays_mem q (l := l) (s := s) (by show s ∈ F.stays q l; rw [h1]; simp)
  simp only [F.stP, Bool.and_eq_true, F.le, F.lt, decide_eq_true_eq, e2] at h2
  obtain ⟨⟨k1, k2⟩, k3⟩ := h2
  have ex : s.beat.session = x := F.seq_iff.1 k1
  refine ⟨ex, k2, e3, by have := F.endB_le q s.beat r'; omega, ?_⟩
  rw [F.noneB, List.all_eq_true]
  intro y hy
  have := F.last_one e1 (F.checkB_sorted hc).1 k3 y hy
  cases h : (y.session.toList == x.toList) && F.lt s.beat.no y.no && F.le y.time t
  · rfl
  · exfalso
    simp only [Bool.and_eq_true, F.lt, F.le, decide_eq_true_eq] at h
    have ey : y.session = x := F.seq_iff.1 h.1.1
    exact this (ey.trans ex.symm) h.1.2 h.2

/-- What the state at a time is. -/
theorem F.sta_cases (l : List Beat) (q : Int) (x : ByteArray) (t : Int) :
    ((F.stateAt l q x t).2.1 = false ∧ ((F.stateAt l q x t).2.2 != 0) = true) ∨
    ((F.stateAt l q x t).2.2 = 0 ∧ (F.there l q x).2 = 0 ∧ F.inS (F.there l q x).1 t = (F.stateAt l q x t).2.1 ∧
      ((F.stateAt l q x t).2.1 = true → (F.stateAt l q x t).1.session = x ∧ (F.stateAt l q x t).1.time ≤ t ∧ (F.stateAt l q x t).1.state ≠ 5 ∧
        t < IntKind.i64.wrap ((F.stateAt l q x t).1.time + q) ∧ F.noneB x (F.stateAt l q x t).1.no t l = true)) := by
  cases h1 : F.sesF l q x != 0
  · have h0 : F.sesF l q x = 0 := by simpa using h1
    cases h2 : F.out t 0 2000000000000
    · right
      have et : F.there l q x = (F.thereA x [] (F.stays q l), 0) := by simp only [F.there, h1, cond_false]
      have hin := F.there_in x t (F.stays q l) [] F.stays_ord (by simp)
      rw [et]
      cases hf : F.stFind x t (F.stays q l) with
      | none =>
        rw [hf] at hin
        simp [F.stateAt, h1, h2, hf, F.found, hin, F.inS]
        simpa [F.inS, F.found] using hin
      | some s =>
        rw [hf] at hin
        have := F.found_ok (F.sesF_ok h0).1 hf
        simp only [F.stateAt, h1, h2, hf, F.found, F.got, cond_false, cond_true, Option.isSome, Option.getD]
        exact ⟨trivial, trivial, by simpa [F.inS, F.found] using hin, fun _ => this⟩
    · left
      simp [F.stateAt, h1, h2]
  · left
    simp [F.stateAt, h1]

namespace M

def stIns (l : List Span) (t : Int) (k : Nat) : St := ⟨[(9, vI k), (8, vI l.length), (7, .sl (l.map eSpan)), (1, vI t)], []⟩

def stIns1 (a : (List Span) × Int × Nat) : St := stIns a.1 a.2.1 a.2.2

theorem stIns_inj (a a' : (List Span) × Int × Nat) (h : stIns1 a = stIns1 a') : a = a' := by
  simp only [stIns1, stIns] at h
  try simp [strs_inj, ints_inj, bools_inj, eBeats_inj, eBeat_iff, eSpans_inj, eSpan_iff, eHoles_inj, eHole_iff, eLevels_inj, eLevel_iff, eFigss_inj, eFigs_iff, eRatios_inj, eRatio_iff, eReps_inj, eRep_iff, eStays_inj, eStay_iff] at h
  grind

theorem unstIns (l : List Span) (t : Int) (k : Nat) : unenc stIns1 (St.mk
  [((9 : Nat), AV.v (Value.int IntKind.i64 (↑k : Int))), ((8 : Nat), AV.v (Value.int IntKind.i64 (↑(List.length l) : Int))),
    ((7 : Nat), AV.sl (List.map eSpan l)), ((1 : Nat), AV.v (Value.int IntKind.i64 t))]
  []) = some (l, t, k) := unenc_of stIns_inj (l, t, k) rfl

theorem unstIns0 (l : List Span) (t : Int) : unenc stIns1 (St.mk
  [((9 : Nat), AV.v (Value.int IntKind.i64 (0 : Int))), ((8 : Nat), AV.v (Value.int IntKind.i64 (↑(List.length l) : Int))),
    ((7 : Nat), AV.sl (List.map eSpan l)), ((1 : Nat), AV.v (Value.int IntKind.i64 t))]
  []) = some (l, t, 0) := unenc_of stIns_inj (l, t, 0) rfl

def outIns (l : List Span) (t : Int) (k : Nat) : T (Ex × St) := .ifB ((l.drop k).all fun s => !(F.le s.fr t && F.lt t s.to)) (.ret (.exit 0, ⟨[], []⟩)) (.ret (.ret, ⟨[(4, vB true)], []⟩))

def prlIns (l : List Span) (t : Int) (k : Nat) : Bool := decide (l.length ≤ 9223372036854775807) && decide (k ≤ l.length)

noncomputable def lpIns : Nat × (St → T (Ex × St)) := (2, lpo [9, 8, 7, 1] [] stIns1 (fun a => prlIns a.1 a.2.1 a.2.2) fun a => outIns a.1 a.2.1 a.2.2)

noncomputable def enIns : Env := envH ty noG lks [] [] [] [lpIns]

theorem enIns_ok : EnvOK Try.prog enIns := by
  refine envH_ok lks_ok ty_ok ?_ ?_
  · simp
  · simp

theorem evInsL (l : List Span) (t : Int) (k : Nat) : ((exec enIns (loopN Try.f17 0) (stIns l t k)).bind (lessX ([9, 8, 7, 1], []) ([], []) ([4], []))).val =
    bif decide ((↑k : Int) < (↑(List.length l) : Int)) then
      Option.bind (unenc (List.map eSpan) (List.map eSpan l)) fun (z : List Span) =>
        bif decide (k < List.length z) then
          bif bif decide ((List.getD z k (Span.mk (0 : Int) (0 : Int))).fr ≤ t) then decide (t < (List.getD z k (Span.mk (0 : Int) (0 : Int))).to) else false then
            some (Ex.ret, St.mk [((4 : Nat), AV.v (Value.bool true))] [])
          else
            some
              (Ex.normal,
                St.mk
                  [((9 : Nat), AV.v (Value.int IntKind.i64 (IntKind.wrap IntKind.i64 ((↑k : Int) + (1 : Int))))),
                    ((8 : Nat), AV.v (Value.int IntKind.i64 (↑(List.length l) : Int))), ((7 : Nat), AV.sl (List.map eSpan l)),
                    ((1 : Nat), AV.v (Value.int IntKind.i64 t))]
                  [])
        else none
    else some (Ex.exit (0 : Nat), St.mk [] []) := by kernel_rfl

theorem lpIns_ok (l : List Span) (t : Int) (k : Nat) (hp : prlIns l t k = true) : ∀ ex s', (outIns l t k).val = some (ex, s') → LoopOK enIns (loopN Try.f17 0) (stIns l t k) ex s' := by
  simp only [prlIns, Bool.and_eq_true, decide_eq_true_eq] at hp
  refine loop_all (xs := l) (st := stIns l t) (p := fun s => !(F.le s.fr t && F.lt t s.to)) (n := ([9, 8, 7, 1], [])) (e := ([], [])) (r := ([4], [])) ?_ ⟨by simp, rfl⟩ ⟨by simp, rfl⟩ (fun _ => rfl) ?_ k hp.2
  · rw [evInsL]; simp
  · intro k y hy
    have hlt := lt_at hy
    rw [evInsL]
    simp only [unstIns, unstIns0, prlIns, outIns, etaBeat, etaSpan, etaHole, etaLevel, etaFigs, etaRatio, etaRep, etaStay, Option.bind_some, List.length_map, unStrs, unInts, unBools, unBeats, unSpans, unHoles, unLevels, unFigss, unRatios, unReps, unStays, F.lt, F.le, cond_true, cond_false, Bool.and_true, Bool.true_and, cast_lt hlt, decide_eq_true hlt, next_at hlt hp.1, getD_at hy, stIns]
    cases decide (y.fr ≤ t) <;> cases decide (t < y.to) <;> rfl

theorem evIns (l : List Span) (t : Int) : (runF enIns false Try.f17 [.sl (l.map eSpan), vI t]).val =
    Option.bind
      (unenc stIns1
        (St.mk
          [((9 : Nat), AV.v (Value.int IntKind.i64 (0 : Int))), ((8 : Nat), AV.v (Value.int IntKind.i64 (↑(List.length (List.map eSpan l)) : Int))),
            ((7 : Nat), AV.sl (List.map eSpan l)), ((1 : Nat), AV.v (Value.int IntKind.i64 t))]
          []))
      fun (z : List Span × Int × Nat) =>
      bif decide (List.length z.fst ≤ (9223372036854775807 : Nat)) && decide (z.snd.snd ≤ List.length z.fst) && true then
        bif List.all (List.drop z.snd.snd z.fst) fun (s : Span) => !(F.le s.fr z.snd.fst && F.lt z.snd.fst s.to) then some (AV.v (Value.bool false), [])
        else some (AV.v (Value.bool true), [])
      else none := by kernel_rfl

def encIns1 (l : List Span) (t : Int) : List AV := [.sl (l.map eSpan), vI t]

def encIns (a : (List Span) × Int) : List AV := encIns1 a.1 a.2

theorem encIns_inj (a a' : (List Span) × Int) (h : encIns a = encIns a') : a = a' := by
  simp only [encIns, encIns1] at h
  try simp [strs_inj, ints_inj, bools_inj, eBeats_inj, eBeat_iff, eSpans_inj, eSpan_iff, eHoles_inj, eHole_iff, eLevels_inj, eLevel_iff, eFigss_inj, eFigs_iff, eRatios_inj, eRatio_iff, eReps_inj, eRep_iff, eStays_inj, eStay_iff] at h
  grind

theorem unIns (l : List Span) (t : Int) : unenc encIns ([AV.sl (List.map eSpan l), AV.v (Value.int IntKind.i64 t)]) = some (l, t) := unenc_of encIns_inj (l, t) rfl

def resIns1 (l : List Span) (t : Int) : AV × Heap := (vB (F.inS l t), [])

def preIns1 (l : List Span) (t : Int) : Bool := true

noncomputable def oIns : Orc := orc 17 true encIns (fun a => preIns1 a.1 a.2) fun a => resIns1 a.1 a.2

theorem okIns : OrcOK Try.prog noG oIns := by
  refine mk_ok Try.f17 (keep := false) (by kernel_rfl) (by kernel_rfl) enIns_ok mixed (one_loop (x0 := loopN Try.f17 0) (by kernel_rfl) (lpo_ok ?_)) (by first | exact fun _ _ => ⟨rfl, rfl⟩ | (intro h; cases h)) ?_
  · rintro ⟨l, t, k⟩ hp
    exact lpIns_ok l t k hp
  rintro ⟨l, t⟩ hpre hok
  show (runF enIns false _ (encIns1 _ _)).val = some (resIns1 _ _)
  unfold encIns1 resIns1
  rw [evIns]
  have hx : l.length ≤ 9223372036854775807 := by simpa using (okA_sl (hok _ (List.mem_cons_self ..))).1
  have e : (l.all fun s => !(F.le s.fr t && F.lt t s.to)) = !F.inS l t := by
    unfold F.inS
    rw [← List.not_any_eq_all_not]
  simp only [F.le, F.lt] at e
  simp only [unstIns, unstIns0, prlIns, outIns, etaBeat, etaSpan, etaHole, etaLevel, etaFigs, etaRatio, etaRep, etaStay, Option.bind_some, List.length_map, unStrs, unInts, unBools, unBeats, unSpans, unHoles, unLevels, unFigss, unRatios, unReps, unStays, F.lt, F.le, cond_true, cond_false, Bool.and_true, Bool.true_and, hx, List.drop_zero, Nat.zero_le, decide_true, e]
  cases F.inS l t <;> rfl

def stLSt (l : List Beat) (q : Int) (x : ByteArray) (t : Int) (b : Beat) (k : Nat) : St := ⟨[(55, vI k), (54, vI l.length), (53, .sl (l.map eBeat)), (9, .ptr 9 0 0), (3, vI t), (2, vS x), (1, vI q)], [(9, ⟨true, 0, 0, [eBeat b]⟩)]⟩

def stLSt1 (a : (List Beat) × Int × ByteArray × Int × Beat × Nat) : St := stLSt a.1 a.2.1 a.2.2.1 a.2.2.2.1 a.2.2.2.2.1 a.2.2.2.2.2

theorem stLSt_inj (a a' : (List Beat) × Int × ByteArray × Int × Beat × Nat) (h : stLSt1 a = stLSt1 a') : a = a' := by
  simp only [stLSt1, stLSt] at h
  try simp [strs_inj, ints_inj, bools_inj, eBeats_inj, eBeat_iff, eSpans_inj, eSpan_iff, eHoles_inj, eHole_iff, eLevels_inj, eLevel_iff, eFigss_inj, eFigs_iff, eRatios_inj, eRatio_iff, eReps_inj, eRep_iff, eStays_inj, eStay_iff] at h
  grind

theorem unstLSt (l : List Beat) (q : Int) (x : ByteArray) (t : Int) (b : Beat) (k : Nat) : unenc stLSt1 (St.mk
  [((55 : Nat), AV.v (Value.int IntKind.i64 (↑k : Int))), ((54 : Nat), AV.v (Value.int IntKind.i64 (↑(List.length l) : Int))),
    ((53 : Nat), AV.sl (List.map eBeat l)), ((9 : Nat), AV.ptr (9 : Nat) (0 : Nat) (0 : Nat)), ((3 : Nat), AV.v (Value.int IntKind.i64 t)),
    ((2 : Nat), AV.v (Value.string x)), ((1 : Nat), AV.v (Value.int IntKind.i64 q))]
  [((9 : Nat),
      Blk.mk true (0 : Nat) (0 : Nat)
        [[AV.v (Value.string b.session), AV.v (Value.int IntKind.i64 b.no), AV.v (Value.int IntKind.i64 b.time), AV.v (Value.int IntKind.i64 b.state),
            AV.v (Value.int IntKind.i64 b.rate)]])]) = some (l, q, x, t, b, k) := unenc_of stLSt_inj (l, q, x, t, b, k) rfl

theorem unstLSt0 (l : List Beat) (q : Int) (x : ByteArray) (t : Int) (b : Beat) : unenc stLSt1 (St.mk
  [((55 : Nat), AV.v (Value.int IntKind.i64 (0 : Int))), ((54 : Nat), AV.v (Value.int IntKind.i64 (↑(List.length l) : Int))),
    ((53 : Nat), AV.sl (List.map eBeat l)), ((9 : Nat), AV.ptr (9 : Nat) (0 : Nat) (0 : Nat)), ((3 : Nat), AV.v (Value.int IntKind.i64 t)),
    ((2 : Nat), AV.v (Value.string x)), ((1 : Nat), AV.v (Value.int IntKind.i64 q))]
  [((9 : Nat),
      Blk.mk true (0 : Nat) (0 : Nat)
        [[AV.v (Value.string b.session), AV.v (Value.int IntKind.i64 b.no), AV.v (Value.int IntKind.i64 b.time), AV.v (Value.int IntKind.i64 b.state),
            AV.v (Value.int IntKind.i64 b.rate)]])]) = some (l, q, x, t, b, 0) := unenc_of stLSt_inj (l, q, x, t, b, 0) rfl

def outLSt (l : List Beat) (q : Int) (x : ByteArray) (t : Int) (b : Beat) (k : Nat) : T (Ex × St) := .ifB (F.noneB x b.no t (l.drop k)) (.ret (.exit 0, ⟨[(9, .ptr 9 0 0), (3, vI t), (2, vS x), (1, vI q)], [(9, ⟨true, 0, 0, [eBeat b]⟩)]⟩)) (.ret (.ret, ⟨[(8, vB false)], []⟩))

def prlLSt (l : List Beat) (q : Int) (x : ByteArray) (t : Int) (b : Beat) (k : Nat) : Bool := decide (l.length ≤ 9223372036854775807) && decide (k ≤ l.length)

noncomputable def lpLSt : Nat × (St → T (Ex × St)) := (10, lpo [55, 54, 53, 9, 3, 2, 1] [9] stLSt1 (fun a => prlLSt a.1 a.2.1 a.2.2.1 a.2.2.2.1 a.2.2.2.2.1 a.2.2.2.2.2) fun a => outLSt a.1 a.2.1 a.2.2.1 a.2.2.2.1 a.2.2.2.2.1 a.2.2.2.2.2)

noncomputable def enLSt : Env := envH ty noG lks [oSta, oWrk, oThr, oIns] [] [] [lpLSt]

theorem enLSt_ok : EnvOK Try.prog enLSt := by
  refine envH_ok lks_ok ty_ok ?_ ?_
  · simp only [List.forall_mem_cons]
    exact ⟨okSta, okWrk, okThr, okIns, by simp⟩
  · simp

theorem evLStL (l : List Beat) (q : Int) (x : ByteArray) (t : Int) (b : Beat) (k : Nat) : ((exec enLSt (loopN Try.f4 0) (stLSt l q x t b k)).bind (lessX ([55, 54, 53, 9, 3, 2, 1], [9]) ([9, 3, 2, 1], [9]) ([8], []))).val =
    bif decide ((↑k : Int) < (↑(List.length l) : Int)) then
      Option.bind (unenc (List.map eBeat) (List.map eBeat l)) fun (z : List Beat) =>
        bif decide (k < List.length z) then
          bif
              bif
                  bif
                      ByteArray.toList (List.getD z k (Beat.mk (ByteArray.mk (Array.mk [])) (0 : Int) (0 : Int) (0 : Int) (0 : Int))).session ==
                        ByteArray.toList x then
                    decide (b.no < (List.getD z k (Beat.mk (ByteArray.mk (Array.mk [])) (0 : Int) (0 : Int) (0 : Int) (0 : Int))).no)
                  else false then
                decide ((List.getD z k (Beat.mk (ByteArray.mk (Array.mk [])) (0 : Int) (0 : Int) (0 : Int) (0 : Int))).time ≤ t)
              else false then
            some (Ex.ret, St.mk [((8 : Nat), AV.v (Value.bool false))] [])
          else
            some
              (Ex.normal,
                St.mk
                  [((55 : Nat), AV.v (Value.int IntKind.i64 (IntKind.wrap IntKind.i64 ((↑k : Int) + (1 : Int))))),
                    ((54 : Nat), AV.v (Value.int IntKind.i64 (↑(List.length l) : Int))), ((53 : Nat), AV.sl (List.map eBeat l)),
                    ((9 : Nat), AV.ptr (9 : Nat) (0 : Nat) (0 : Nat)), ((3 : Nat), AV.v (Value.int IntKind.i64 t)), ((2 : Nat), AV.v (Value.string x)),
                    ((1 : Nat), AV.v (Value.int IntKind.i64 q))]
                  [((9 : Nat),
                      Blk.mk true (0 : Nat) (0 : Nat)
                        [[AV.v (Value.string b.session), AV.v (Value.int IntKind.i64 b.no), AV.v (Value.int IntKind.i64 b.time),
                            AV.v (Value.int IntKind.i64 b.state), AV.v (Value.int IntKind.i64 b.rate)]])])
        else none
    else
      some
        (Ex.exit (0 : Nat),
          St.mk
            [((9 : Nat), AV.ptr (9 : Nat) (0 : Nat) (0 : Nat)), ((3 : Nat), AV.v (Value.int IntKind.i64 t)), ((2 : Nat), AV.v (Value.string x)),
              ((1 : Nat), AV.v (Value.int IntKind.i64 q))]
            [((9 : Nat),
                Blk.mk true (0 : Nat) (0 : Nat)
                  [[AV.v (Value.string b.session), AV.v (Value.int IntKind.i64 b.no), AV.v (Value.int IntKind.i64 b.time), AV.v (Value.int IntKind.i64 b.state),
                      AV.v (Value.int IntKind.i64 b.rate)]])]) := by kernel_rfl

theorem lpLSt_ok (l : List Beat) (q : Int) (x : ByteArray) (t : Int) (b : Beat) (k : Nat) (hp : prlLSt l q x t b k = true) : ∀ ex s', (outLSt l q x t b k).val = some (ex, s') → LoopOK enLSt (loopN Try.f4 0) (stLSt l q x t b k) ex s' := by
  simp only [prlLSt, Bool.and_eq_true, decide_eq_true_eq] at hp
  refine loop_all (xs := l) (st := stLSt l q x t b) (p := fun y => !((y.session.toList == x.toList) && F.lt b.no y.no && F.le y.time t)) (n := ([55, 54, 53, 9, 3, 2, 1], [9])) (e := ([9, 3, 2, 1], [9])) (r := ([8], [])) ?_ ⟨by simp, rfl⟩ ⟨by simp, rfl⟩ (fun _ => rfl) ?_ k hp.2
  · rw [evLStL]; simp [eBeat]
  · intro k y hy
    have hlt := lt_at hy
    rw [evLStL]
    simp only [unSta, unWrk, unThr, unIns, preSta1, preWrk1, preThr1, preIns1, unstLSt, unstLSt0, prlLSt, outLSt, etaBeat, etaSpan, etaHole, etaLevel, etaFigs, etaRatio, etaRep, etaStay, Option.bind_some, List.length_map, unStrs, unInts, unBools, unBeats, unSpans, unHoles, unLevels, unFigss, unRatios, unReps, unStays, F.lt, F.le, cond_true, cond_false, Bool.and_true, Bool.true_and, cast_lt hlt, decide_eq_true hlt, next_at hlt hp.1, getD_at hy, stLSt, eBeat]
    cases (y.session.toList == x.toList) <;> cases decide (b.no < y.no) <;> cases decide (y.time ≤ t) <;> rfl

theorem evLSt (l : List Beat) (q : Int) (x : ByteArray) (t : Int) : (runF enLSt false Try.f4 [.sl (l.map eBeat), vI q, vS x, vI t]).val =
    Option.bind (unenc encSta [AV.sl (List.map eBeat l), AV.v (Value.int IntKind.i64 q), AV.v (Value.string x), AV.v (Value.int IntKind.i64 t)])
      fun (z : List Beat × Int × ByteArray × Int) =>
      bif (F.stateAt z.fst z.snd.fst z.snd.snd.fst z.snd.snd.snd).snd.snd != (0 : Int) then
        bif !(F.stateAt z.fst z.snd.fst z.snd.snd.fst z.snd.snd.snd).snd.fst then
          Option.bind (unenc encWrk []) fun (z_1 : Unit) =>
            some (AV.v (Value.bool (bif !(F.stateAt z.fst z.snd.fst z.snd.snd.fst z.snd.snd.snd).snd.fst then true else false)), [])
        else some (AV.v (Value.bool false), [])
      else
        Option.bind (unenc encThr [AV.sl (List.map eBeat l), AV.v (Value.int IntKind.i64 q), AV.v (Value.string x)]) fun (z_1 : List Beat × Int × ByteArray) =>
          bif !(F.there z_1.fst z_1.snd.fst z_1.snd.snd).snd != (0 : Int) then
            Option.bind (unenc encIns [AV.sl (List.map eSpan (F.there z_1.fst z_1.snd.fst z_1.snd.snd).fst), AV.v (Value.int IntKind.i64 t)])
              fun (z_2 : List Span × Int) =>
              bif
                  !bif (F.there z_1.fst z_1.snd.fst z_1.snd.snd).snd != (0 : Int) then true
                    else !(F.stateAt z.fst z.snd.fst z.snd.snd.fst z.snd.snd.snd).snd.fst == F.inS z_2.fst z_2.snd then
                Option.bind (unenc encWrk []) fun (z_3 : Unit) =>
                  bif
                      bif
                          bif (F.there z_1.fst z_1.snd.fst z_1.snd.snd).snd != (0 : Int) then true
                          else !(F.stateAt z.fst z.snd.fst z.snd.snd.fst z.snd.snd.snd).snd.fst == F.inS z_2.fst z_2.snd then
                        true
                      else false then
                    some (AV.v (Value.bool false), [])
                  else
                    bif !(F.stateAt z.fst z.snd.fst z.snd.snd.fst z.snd.snd.snd).snd.fst then some (AV.v (Value.bool true), [])
                    else
                      Option.bind
                        (unenc stLSt1
                          (St.mk
                            [((55 : Nat), AV.v (Value.int IntKind.i64 (0 : Int))),
                              ((54 : Nat), AV.v (Value.int IntKind.i64 (↑(List.length (List.map eBeat l)) : Int))), ((53 : Nat), AV.sl (List.map eBeat l)),
                              ((9 : Nat), AV.ptr (9 : Nat) (0 : Nat) (0 : Nat)), ((3 : Nat), AV.v (Value.int IntKind.i64 t)), ((2 : Nat), AV.v (Value.string x)),
                              ((1 : Nat), AV.v (Value.int IntKind.i64 q))]
                            [((9 : Nat),
                                Blk.mk true (0 : Nat) (0 : Nat)
                                  [[AV.v (Value.string (F.stateAt z.fst z.snd.fst z.snd.snd.fst z.snd.snd.snd).fst.session),
                                      AV.v (Value.int IntKind.i64 (F.stateAt z.fst z.snd.fst z.snd.snd.fst z.snd.snd.snd).fst.no),
                                      AV.v (Value.int IntKind.i64 (F.stateAt z.fst z.snd.fst z.snd.snd.fst z.snd.snd.snd).fst.time),
                                      AV.v (Value.int IntKind.i64 (F.stateAt z.fst z.snd.fst z.snd.snd.fst z.snd.snd.snd).fst.state),
                                      AV.v (Value.int IntKind.i64 (F.stateAt z.fst z.snd.fst z.snd.snd.fst z.snd.snd.snd).fst.rate)]])]))
                        fun (z : List Beat × Int × ByteArray × Int × Beat × Nat) =>
                        bif decide (List.length z.fst ≤ (9223372036854775807 : Nat)) && decide (z.snd.snd.snd.snd.snd ≤ List.length z.fst) && true then
                          bif F.noneB z.snd.snd.fst z.snd.snd.snd.snd.fst.no z.snd.snd.snd.fst (List.drop z.snd.snd.snd.snd.snd z.fst) then
                            bif
                                bif
                                    bif ByteArray.toList z.snd.snd.snd.snd.fst.session == ByteArray.toList z.snd.snd.fst then
                                      decide (z.snd.snd.snd.snd.fst.time ≤ z.snd.snd.snd.fst)
                                    else false then
                                  z.snd.snd.snd.snd.fst.state != (5 : Int)
                                else false then
                              some
                                (AV.v
                                    (Value.bool
                                      (bif
                                          bif
                                              bif ByteArray.toList z.snd.snd.snd.snd.fst.session == ByteArray.toList z.snd.snd.fst then
                                                decide (z.snd.snd.snd.snd.fst.time ≤ z.snd.snd.snd.fst)
                                              else false then
                                            z.snd.snd.snd.snd.fst.state != (5 : Int)
                                          else false then
                                        decide (z.snd.snd.snd.fst < IntKind.wrap IntKind.i64 (z.snd.snd.snd.snd.fst.time + z.snd.fst))
                                      else false)),
                                  [])
                            else
                              bif
                                  bif
                                      bif ByteArray.toList z.snd.snd.snd.snd.fst.session == ByteArray.toList z.snd.snd.fst then
                                        decide (z.snd.snd.snd.snd.fst.time ≤ z.snd.snd.snd.fst)
                                      else false then
                                    z.snd.snd.snd.snd.fst.state != (5 : Int)
                                  else false then
                                none
                              else some (AV.v (Value.bool false), [])
                          else some (AV.v (Value.bool false), [])
                        else none
              else
                bif
                    !bif (F.there z_1.fst z_1.snd.fst z_1.snd.snd).snd != (0 : Int) then true
                      else !(F.stateAt z.fst z.snd.fst z.snd.snd.fst z.snd.snd.snd).snd.fst == F.inS z_2.fst z_2.snd then
                  none
                else some (AV.v (Value.bool false), [])
          else bif !(F.there z_1.fst z_1.snd.fst z_1.snd.snd).snd != (0 : Int) then none else some (AV.v (Value.bool false), []) := by kernel_rfl

def encLSt1 (l : List Beat) (q : Int) (x : ByteArray) (t : Int) : List AV := [.sl (l.map eBeat), vI q, vS x, vI t]

def encLSt (a : (List Beat) × Int × ByteArray × Int) : List AV := encLSt1 a.1 a.2.1 a.2.2.1 a.2.2.2

theorem encLSt_inj (a a' : (List Beat) × Int × ByteArray × Int) (h : encLSt a = encLSt a') : a = a' := by
  simp only [encLSt, encLSt1] at h
  try simp [strs_inj, ints_inj, bools_inj, eBeats_inj, eBeat_iff, eSpans_inj, eSpan_iff, eHoles_inj, eHole_iff, eLevels_inj, eLevel_iff, eFigss_inj, eFigs_iff, eRatios_inj, eRatio_iff, eReps_inj, eRep_iff, eStays_inj, eStay_iff] at h
  grind

theorem unLSt (l : List Beat) (q : Int) (x : ByteArray) (t : Int) : unenc encLSt ([AV.sl (List.map eBeat l), AV.v (Value.int IntKind.i64 q), AV.v (Value.string x), AV.v (Value.int IntKind.i64 t)]) = some (l, q, x, t) := unenc_of encLSt_inj (l, q, x, t) rfl

def resLSt1 (l : List Beat) (q : Int) (x : ByteArray) (t : Int) : AV × Heap := (vB true, [])

def preLSt1 (l : List Beat) (q : Int) (x : ByteArray) (t : Int) : Bool := true

noncomputable def oLSt : Orc := orc 4 true encLSt (fun a => preLSt1 a.1 a.2.1 a.2.2.1 a.2.2.2) fun a => resLSt1 a.1 a.2.1 a.2.2.1 a.2.2.2

theorem okLSt : OrcOK Try.prog noG oLSt := by
  refine mk_ok Try.f4 (keep := false) (by kernel_rfl) (by kernel_rfl) enLSt_ok mixed (one_loop (x0 := loopN Try.f4 0) (by kernel_rfl) (lpo_ok ?_)) (by first | exact fun _ _ => ⟨rfl, rfl⟩ | (intro h; cases h)) ?_
  · rintro ⟨l, q, x, t, b, k⟩ hp
    exact lpLSt_ok l q x t b k hp
  rintro ⟨l, q, x, t⟩ hpre hok
  show (runF enLSt false _ (encLSt1 _ _ _ _)).val = some (resLSt1 _ _ _ _)
  unfold encLSt1 resLSt1
  rw [evLSt]
  have hx : l.length ≤ 9223372036854775807 := by simpa using (okA_sl (hok _ (List.mem_cons_self ..))).1
  simp only [unSta, unWrk, unThr, unIns, preSta1, preWrk1, preThr1, preIns1, unstLSt, unstLSt0, prlLSt, outLSt, etaBeat, etaSpan, etaHole, etaLevel, etaFigs, etaRatio, etaRep, etaStay, Option.bind_some, List.length_map, unStrs, unInts, unBools, unBeats, unSpans, unHoles, unLevels, unFigss, unRatios, unReps, unStays, F.lt, F.le, cond_true, cond_false, Bool.and_true, Bool.true_and, hx, List.drop_zero, Nat.zero_le, decide_true]
  rcases F.sta_cases l q x t with ⟨h1, h2⟩ | ⟨h1, h2, h3, h4⟩
  · simp only [h1, h2, cond_true, cond_false, Bool.not_false]
  · rw [h1, h2, h3]
    cases h5 : (F.stateAt l q x t).2.1
    · simp
    · obtain ⟨k1, k2, k3, k4, k5⟩ := h4 h5
      have k3 : ((F.stateAt l q x t).1.state != 5) = true := by simpa using k3
      simp only [k1, k2, k3, k4, k5, h5, decide_true, cond_true, cond_false, bne_self_eq_false, beq_self_eq_true, Bool.not_true, Bool.not_false]
      try rfl

end M
end Go.Proofs.Ythchmcmnodaneaa
