/- What is proved here: what There and StateAt return on plain data, of the program and of the reference (no statement of the seat). -/
import Derived.Test.YtlnflhmepnbcmaaB5
namespace Go.Proofs.Ytlnflhmepnbcmaa
open Go Go.RowKit
set_option linter.unusedVariables false
set_option linter.unusedSimpArgs false

def F.quietF (l : List Beat) (q : Int) : Int := bif F.checkB l != 0 then F.checkB l else bif F.out q 1 1000000 then 1 else 0

def F.sesF (l : List Beat) (q : Int) (x : ByteArray) : Int := bif F.quietF l q != 0 then F.quietF l q else bif !F.isName x then 5 else 0

def F.thereS (x : ByteArray) (acc : List Span) (s : Stay) : List Span := bif s.beat.session.toList == x.toList then F.addSpan acc s.sp else acc

def F.thereA (x : ByteArray) (acc : List Span) (ss : List Stay) : List Span := ss.foldl (F.thereS x) acc

def F.there (l : List Beat) (q : Int) (x : ByteArray) : List Span × Int := bif F.sesF l q x != 0 then ([], F.sesF l q x) else (F.thereA x [] (F.stays q l), 0)

def F.stP (x : ByteArray) (t : Int) (s : Stay) (_ : List Stay) : Bool := (s.beat.session.toList == x.toList) && F.le s.sp.fr t && F.lt t s.sp.to

def F.stFind (x : ByteArray) (t : Int) (ss : List Stay) : Option Stay := M.findS (F.stP x t) ss

def F.stateAt (l : List Beat) (q : Int) (x : ByteArray) (t : Int) : Beat × Bool × Int :=
  bif F.sesF l q x != 0 then (⟨⟨#[]⟩, 0, 0, 0, 0⟩, false, F.sesF l q x) else bif F.out t 0 2000000000000 then (⟨⟨#[]⟩, 0, 0, 0, 0⟩, false, 1) else
  bif F.found (F.stFind x t (F.stays q l)) then ((F.got (F.stFind x t (F.stays q l)) default).beat, true, 0) else (⟨⟨#[]⟩, 0, 0, 0, 0⟩, false, 0)

/-- By the reference. -/
def F.lastsB (q : Int) (b : Beat) (r : List Beat) : Int := bif b.state == 5 then b.time else F.endB q b r

def F.lastsAt (l : List Beat) (i : Nat) (q : Int) : Int := match l.drop i with
  | b :: r => F.lastsB q b r
  | [] => 0

def F.rthS (q : Int) (x : ByteArray) (acc : List Span) (b : Beat) (r : List Beat) : List Span :=
  bif !(b.session.toList == x.toList) || F.le (F.lastsB q b r) b.time then acc else F.addSpan acc ⟨b.time, F.lastsB q b r⟩

def F.rthA (q : Int) (x : ByteArray) (acc : List Span) (l : List Beat) : List Span := M.foldS (F.rthS q x) acc l

def F.rstP (q : Int) (x : ByteArray) (t : Int) (b : Beat) (r : List Beat) : Bool := (b.session.toList == x.toList) && F.le b.time t && F.lt t (F.lastsB q b r)

def F.rstFind (q : Int) (x : ByteArray) (t : Int) (l : List Beat) : Option Beat := M.findS (F.rstP q x t) l

def F.rthere (l : List Beat) (q : Int) (x : ByteArray) : List Span × Int := bif F.sesF l q x != 0 then ([], F.sesF l q x) else (F.rthA q x [] l, 0)

def F.rstateAt (l : List Beat) (q : Int) (x : ByteArray) (t : Int) : Beat × Bool × Int :=
  bif F.sesF l q x != 0 then (⟨⟨#[]⟩, 0, 0, 0, 0⟩, false, F.sesF l q x) else bif F.out t 0 2000000000000 then (⟨⟨#[]⟩, 0, 0, 0, 0⟩, false, 1) else
  bif F.found (F.rstFind q x t l) then (F.got (F.rstFind q x t l) default, true, 0) else (⟨⟨#[]⟩, 0, 0, 0, 0⟩, false, 0)

theorem F.staysA_app (q : Int) : ∀ (l : List Beat) (acc : List Stay), F.staysA q acc l = acc ++ F.staysA q [] l
  | [], acc => by simp [F.staysA, M.foldS]
  | b :: l, acc => by
    show F.staysA q (F.stayS q acc b l) l = acc ++ F.staysA q (F.stayS q [] b l) l
    rw [F.staysA_app q l (F.stayS q acc b l), F.staysA_app q l (F.stayS q [] b l), ← List.append_assoc]
    congr 1
    unfold F.stayS
    cases (b.state != 5) && F.lt b.time (F.endB q b l) <;> simp

theorem F.lt_ge {a b : Int} (h : F.lt a b = true) : F.le b a = false := by simp [F.lt, F.le] at * <;> omega

theorem F.ge_lt {a b : Int} (h : F.lt a b = false) : F.le b a = true := by simp [F.lt, F.le] at * <;> omega

theorem F.there_eq (q : Int) (x : ByteArray) : ∀ (l : List Beat) (acc : List Span), F.thereA x acc (F.staysA q [] l) = F.rthA q x acc l
  | [], acc => rfl
  | b :: l, acc => by
    show F.thereA x acc (F.staysA q (F.stayS q [] b l) l) = F.rthA q x (F.rthS q x acc b l) l
    rw [F.staysA_app, ← F.there_eq q x l]
    simp only [F.thereA, List.foldl_append]
    congr 1
    unfold F.stayS F.rthS F.lastsB
    cases h1 : (b.state == 5)
    · have h2 : (b.state != 5) = true := by simp [bne, h1]
      simp only [h2, Bool.true_and, cond_false]
      cases h3 : F.lt b.time (F.endB q b l)
      · rw [F.ge_lt h3]; simp
      · rw [F.lt_ge h3]
        simp only [cond_true, List.nil_append, List.foldl_cons, List.foldl_nil, F.thereS, Bool.or_false]
        cases (b.session.toList == x.toList) <;> rfl
    · have h2 : (b.state != 5) = false := by simp [bne, h1]
      have h3 : F.le b.time b.time = true := by simp [F.le]
      simp only [h2, Bool.false_and, cond_false, cond_true, h3, Bool.or_true, List.foldl_nil]

theorem F.find_eq (q : Int) (x : ByteArray) (t : Int) : ∀ (l : List Beat), (F.stFind x t (F.staysA q [] l)).map (·.beat) = F.rstFind q x t l
  | [] => rfl
  | b :: l => by
    show (M.findS (F.stP x t) (F.staysA q (F.stayS q [] b l) l)).map (·.beat) = bif F.rstP q x t b l then some b else M.findS (F.rstP q x t) l
    have ih := F.find_eq q x t l
    simp only [F.stFind, F.rstFind] at ih
    rw [F.staysA_app, ← ih]
    unfold F.stayS F.rstP F.lastsB
    cases h1 : (b.state == 5)
    · have h2 : (b.state != 5) = true := by simp [bne, h1]
      simp only [h2, Bool.true_and, cond_false]
      cases h3 : F.lt b.time (F.endB q b l)
      · have h4 : (F.le b.time t && F.lt t (F.endB q b l)) = false := by simp [F.lt, F.le] at * <;> omega
        simp only [cond_false, List.nil_append, Bool.and_assoc, h4, Bool.and_false]
      · simp only [cond_true, List.nil_append, List.singleton_append, M.findS, F.stP]
        cases (b.session.toList == x.toList) && F.le b.time t && F.lt t (F.endB q b l) <;> rfl
    · have h2 : (b.state != 5) = false := by simp [bne, h1]
      have h4 : (F.le b.time t && F.lt t b.time) = false := by simp [F.lt, F.le] <;> omega
      simp only [h2, Bool.false_and, cond_false, cond_true, List.nil_append, Bool.and_assoc, h4, Bool.and_false]

theorem F.there_all (l : List Beat) (q : Int) (x : ByteArray) : F.rthere l q x = F.there l q x := by
  unfold F.rthere F.there F.stays
  rw [F.there_eq]

theorem F.stateAt_all (l : List Beat) (q : Int) (x : ByteArray) (t : Int) : F.rstateAt l q x t = F.stateAt l q x t := by
  unfold F.rstateAt F.stateAt F.stays
  rw [← F.find_eq]
  cases h : F.stFind x t (F.staysA q [] l) <;> simp [F.found, F.got]

theorem F.sesF_len {l : List Beat} {q : Int} {x : ByteArray} (h : (F.sesF l q x != 0) = false) : l.length ≤ 3000 := by
  refine F.checkB_len ?_
  unfold F.sesF F.quietF at h
  cases hc : F.checkB l != 0
  · simpa using hc
  · simp [hc] at h

theorem F.stays_len (q : Int) (l : List Beat) : (F.stays q l).length ≤ l.length := by
  have := F.staysA_len q l []
  simpa [F.stays] using this

namespace M

noncomputable def enQuF : Env := envH ty noG lks [oChb, oOut] [] [] []

theorem enQuF_ok : EnvOK Try.prog enQuF := by
  refine envH_ok lks_ok ty_ok ?_ ?_
  · simp only [List.forall_mem_cons]
    exact ⟨okChb, okOut, by simp⟩
  · simp

theorem evQuF (l : List Beat) (q : Int) : (runF enQuF false Try.f43 [.sl (l.map eBeat), vI q]).val =
  Option.bind (unenc encChb [AV.sl (List.map eBeat l)]) fun (z : List Beat) => bif F.checkB z != (0 : Int) then some ((vI (F.checkB z)), []) else Option.bind (unenc encOut
  [(vI q), (vI (1 : Int)), (vI (1000000 : Int))]) fun (z : Int × Int × Int) => bif F.out z.fst z.snd.fst z.snd.snd then some ((vI (1 : Int)), []) else some ((vI (0 : Int)),
  []) := by kernel_rfl

def encQuF1 (l : List Beat) (q : Int) : List AV := [.sl (l.map eBeat), vI q]

def encQuF (a : (List Beat) × Int) : List AV := encQuF1 a.1 a.2

theorem encQuF_inj (a a' : (List Beat) × Int) (h : encQuF a = encQuF a') : a = a' := by
  simp only [encQuF, encQuF1] at h
  try simp [strs_inj, ints_inj, bools_inj, eBeats_inj, eBeat_iff, eL_eBeats_inj, eSpans_inj, eSpan_iff, eHoles_inj, eHole_iff, eLevels_inj, eLevel_iff, eFigss_inj, eFigs_iff, eRatios_inj, eRatio_iff, eReps_inj, eRep_iff, eStays_inj, eStay_iff] at h
  grind

theorem unQuF (l : List Beat) (q : Int) : unenc encQuF ([AV.sl (List.map eBeat l), (vI q)]) = some (l, q) := unenc_of encQuF_inj (l, q) rfl

def resQuF1 (l : List Beat) (q : Int) : AV × Heap := (vI (F.quietF l q), [])

def preQuF1 (l : List Beat) (q : Int) : Bool := true

noncomputable def oQuF : Orc := orc 43 true encQuF (fun a => preQuF1 a.1 a.2) fun a => resQuF1 a.1 a.2

theorem okQuF : OrcOK Try.prog noG oQuF := by
  refine mk_ok Try.f43 (keep := false) (by kernel_rfl) (by kernel_rfl) enQuF_ok mixed (no_loops (by kernel_rfl)) (by first | exact fun _ _ => ⟨rfl, rfl⟩ | (intro h; cases h)) ?_
  rintro ⟨l, q⟩ hpre hok
  show (runF enQuF false _ (encQuF1 _ _)).val = some (resQuF1 _ _)
  unfold encQuF1 resQuF1
  rw [evQuF]
  simp only [unChb, unOut, preChb1, preOut1, etaBeat, etaSpan, etaHole, etaLevel, etaFigs, etaRatio, etaRep, etaStay, Option.bind_some, List.length_map, unStrs, unInts, unBools, unBeats, uneL_eBeats, unSpans, unHoles, unLevels, unFigss, unRatios, unReps, unStays, F.lt, F.le, cond_true, cond_false, Bool.and_true, Bool.true_and, F.quietF]
  cases F.checkB l != 0 <;> cases F.out q 1 1000000 <;> rfl

noncomputable def enSeF : Env := envH ty noG lks [oQuF, oName] [] [] []

theorem enSeF_ok : EnvOK Try.prog enSeF := by
  refine envH_ok lks_ok ty_ok ?_ ?_
  · simp only [List.forall_mem_cons]
    exact ⟨okQuF, okName, by simp⟩
  · simp

def encSeF1 (l : List Beat) (q : Int) (x : ByteArray) : List AV := [.sl (l.map eBeat), vI q, vS x]

def encSeF (a : (List Beat) × Int × ByteArray) : List AV := encSeF1 a.1 a.2.1 a.2.2

theorem encSeF_inj (a a' : (List Beat) × Int × ByteArray) (h : encSeF a = encSeF a') : a = a' := by
  simp only [encSeF, encSeF1] at h
  try simp [strs_inj, ints_inj, bools_inj, eBeats_inj, eBeat_iff, eL_eBeats_inj, eSpans_inj, eSpan_iff, eHoles_inj, eHole_iff, eLevels_inj, eLevel_iff, eFigss_inj, eFigs_iff, eRatios_inj, eRatio_iff, eReps_inj, eRep_iff, eStays_inj, eStay_iff] at h
  grind

theorem unSeF (l : List Beat) (q : Int) (x : ByteArray) : unenc encSeF ([AV.sl (List.map eBeat l), (vI q), (vS x)]) = some (l, q, x) := unenc_of encSeF_inj (l, q, x) rfl

def resSeF1 (l : List Beat) (q : Int) (x : ByteArray) : AV × Heap := (vI (F.sesF l q x), [])

def preSeF1 (l : List Beat) (q : Int) (x : ByteArray) : Bool := true

def stThr (ss : List Stay) (x : ByteArray) (acc : List Span) (k : Nat) : St := ⟨[(23, vI k), (22, vI ss.length), (21, .sl (ss.map eStay)), (9, .own 9), (2, vS x)], [(9, ⟨false, 38, 2, acc.map eSpan⟩)]⟩

def stThr1 (a : (List Stay) × ByteArray × (List Span) × Nat) : St := stThr a.1 a.2.1 a.2.2.1 a.2.2.2

theorem stThr_inj (a a' : (List Stay) × ByteArray × (List Span) × Nat) (h : stThr1 a = stThr1 a') : a = a' := by
  simp only [stThr1, stThr] at h
  try simp [strs_inj, ints_inj, bools_inj, eBeats_inj, eBeat_iff, eL_eBeats_inj, eSpans_inj, eSpan_iff, eHoles_inj, eHole_iff, eLevels_inj, eLevel_iff, eFigss_inj, eFigs_iff, eRatios_inj, eRatio_iff, eReps_inj, eRep_iff, eStays_inj, eStay_iff] at h
  grind

theorem unstThr (ss : List Stay) (x : ByteArray) (acc : List Span) (k : Nat) : unenc stThr1 (St.mk [(23, (vI (↑k : Int))), (22, (vI (↑(List.length ss) : Int))), (21, AV.sl (List.map eStay ss)), (9, .own 9), (2, (vS x))] [(9, Blk.mk false 38 2 (List.map eSpan
  acc))]) = some (ss, x, acc, k) := unenc_of stThr_inj (ss, x, acc, k) rfl

theorem unstThr0 (ss : List Stay) (x : ByteArray)  : unenc stThr1 (St.mk [(23, (vI (0 : Int))), (22, (vI (↑(List.length ss) : Int))), (21, AV.sl (List.map eStay ss)), (9, .own 9), (2, (vS x))] [(9, Blk.mk false 38 2 [])]) = some (ss, x, [], 0) := unenc_of stThr_inj (ss, x, [], 0) rfl

def outThr (ss : List Stay) (x : ByteArray) (acc : List Span) (k : Nat) : T (Ex × St) := .ret (.exit 0, ⟨[(9, .own 9)], [(9, ⟨false, 38, 2, (F.thereA x acc (ss.drop k)).map eSpan⟩)]⟩)

noncomputable def prlThr (ss : List Stay) (x : ByteArray) (acc : List Span) (k : Nat) : Bool := decide (ss.length ≤ 3000) && decide (k ≤ ss.length) && decide (acc.length ≤ k)

noncomputable def lpThr : Nat × (St → T (Ex × St)) := (6, lpo [23, 22, 21, 9, 2] [9] stThr1 (fun a => prlThr a.1 a.2.1 a.2.2.1 a.2.2.2) fun a => outThr a.1 a.2.1 a.2.2.1 a.2.2.2)

def encThr1 (l : List Beat) (q : Int) (x : ByteArray) : List AV := [.sl (l.map eBeat), vI q, vS x]

def encThr (a : (List Beat) × Int × ByteArray) : List AV := encThr1 a.1 a.2.1 a.2.2

theorem encThr_inj (a a' : (List Beat) × Int × ByteArray) (h : encThr a = encThr a') : a = a' := by
  simp only [encThr, encThr1] at h
  try simp [strs_inj, ints_inj, bools_inj, eBeats_inj, eBeat_iff, eL_eBeats_inj, eSpans_inj, eSpan_iff, eHoles_inj, eHole_iff, eLevels_inj, eLevel_iff, eFigss_inj, eFigs_iff, eRatios_inj, eRatio_iff, eReps_inj, eRep_iff, eStays_inj, eStay_iff] at h
  grind

theorem unThr (l : List Beat) (q : Int) (x : ByteArray) : unenc encThr ([AV.sl (List.map eBeat l), (vI q), (vS x)]) = some (l, q, x) := unenc_of encThr_inj (l, q, x) rfl

def resThr1 (l : List Beat) (q : Int) (x : ByteArray) : AV × Heap := (.tup [.sl ((F.there l q x).1.map eSpan), vI (F.there l q x).2], [])

def preThr1 (l : List Beat) (q : Int) (x : ByteArray) : Bool := true

def stSta (ss : List Stay) (x : ByteArray) (t : Int) (k : Nat) : St := ⟨[(29, vI k), (28, vI ss.length), (27, .sl (ss.map eStay)), (8, .ptr 8 0 0), (3, vI t), (2, vS x)], [(8, ⟨true, 0, 0, [[vS ⟨#[]⟩, vI 0, vI 0, vI 0, vI 0]]⟩)]⟩

def stSta1 (a : (List Stay) × ByteArray × Int × Nat) : St := stSta a.1 a.2.1 a.2.2.1 a.2.2.2

theorem stSta_inj (a a' : (List Stay) × ByteArray × Int × Nat) (h : stSta1 a = stSta1 a') : a = a' := by
  simp only [stSta1, stSta] at h
  try simp [strs_inj, ints_inj, bools_inj, eBeats_inj, eBeat_iff, eL_eBeats_inj, eSpans_inj, eSpan_iff, eHoles_inj, eHole_iff, eLevels_inj, eLevel_iff, eFigss_inj, eFigs_iff, eRatios_inj, eRatio_iff, eReps_inj, eRep_iff, eStays_inj, eStay_iff] at h
  grind

theorem unstSta (ss : List Stay) (x : ByteArray) (t : Int) (k : Nat) : unenc stSta1 (St.mk [(29, (vI (↑k : Int))), (28, (vI (↑(List.length ss) : Int))), (27, AV.sl (List.map eStay ss)), (8, .ptr 8 0 0), (3, (vI t)), (2, (vS x))] [(8, Blk.mk true 0 0 [[(vS
  (ByteArray.mk (Array.mk []))), (vI (0 : Int)), (vI (0 : Int)), (vI (0 : Int)), (vI (0 : Int))]])]) = some (ss, x, t, k) := unenc_of stSta_inj (ss, x, t, k) rfl

theorem unstSta0 (ss : List Stay) (x : ByteArray) (t : Int)  : unenc stSta1 (St.mk [(29, (vI (0 : Int))), (28, (vI (↑(List.length ss) : Int))), (27, AV.sl (List.map eStay ss)), (8, .ptr 8 0 0), (3, (vI t)), (2, (vS x))] [(8, Blk.mk true 0 0 [[(vS
  (ByteArray.mk (Array.mk []))), (vI (0 : Int)), (vI (0 : Int)), (vI (0 : Int)), (vI (0 : Int))]])]) = some (ss, x, t, 0) := unenc_of stSta_inj (ss, x, t, 0) rfl

def outSta (ss : List Stay) (x : ByteArray) (t : Int) (k : Nat) : T (Ex × St) := .ifB (F.found (F.stFind x t (ss.drop k))) (.ret (.ret, ⟨[(10, vI 0), (9, vB true), (8, .ptr 8 0 0)], [(8, ⟨true, 0, 0, [eBeat (F.got (F.stFind x t (ss.drop k)) default).beat]⟩)]⟩)) (.ret (.exit 0, ⟨[(8, .ptr 8 0 0)], [(8, ⟨true, 0, 0, [[vS ⟨#[]⟩, vI 0, vI 0, vI 0, vI 0]]⟩)]⟩))

noncomputable def prlSta (ss : List Stay) (x : ByteArray) (t : Int) (k : Nat) : Bool := decide (ss.length ≤ 3000) && decide (k ≤ ss.length)

noncomputable def lpSta : Nat × (St → T (Ex × St)) := (7, lpo [29, 28, 27, 8, 3, 2] [8] stSta1 (fun a => prlSta a.1 a.2.1 a.2.2.1 a.2.2.2) fun a => outSta a.1 a.2.1 a.2.2.1 a.2.2.2)

def encSta1 (l : List Beat) (q : Int) (x : ByteArray) (t : Int) : List AV := [.sl (l.map eBeat), vI q, vS x, vI t]

def encSta (a : (List Beat) × Int × ByteArray × Int) : List AV := encSta1 a.1 a.2.1 a.2.2.1 a.2.2.2

theorem encSta_inj (a a' : (List Beat) × Int × ByteArray × Int) (h : encSta a = encSta a') : a = a' := by
  simp only [encSta, encSta1] at h
  try simp [strs_inj, ints_inj, bools_inj, eBeats_inj, eBeat_iff, eL_eBeats_inj, eSpans_inj, eSpan_iff, eHoles_inj, eHole_iff, eLevels_inj, eLevel_iff, eFigss_inj, eFigs_iff, eRatios_inj, eRatio_iff, eReps_inj, eRep_iff, eStays_inj, eStay_iff] at h
  grind

theorem unSta (l : List Beat) (q : Int) (x : ByteArray) (t : Int) : unenc encSta ([AV.sl (List.map eBeat l), (vI q), (vS x), (vI t)]) = some (l, q, x, t) := unenc_of encSta_inj (l, q, x, t) rfl

def resSta1 (l : List Beat) (q : Int) (x : ByteArray) (t : Int) : AV × Heap := (.tup [.agg (eBeat (F.stateAt l q x t).1), vB (F.stateAt l q x t).2.1, vI (F.stateAt l q x t).2.2], [])

def preSta1 (l : List Beat) (q : Int) (x : ByteArray) (t : Int) : Bool := true

def encLst1 (l : List Beat) (i : Nat) (q : Int) : List AV := [.sl (l.map eBeat), vI i, vI q]

def encLst (a : (List Beat) × Nat × Int) : List AV := encLst1 a.1 a.2.1 a.2.2

theorem encLst_inj (a a' : (List Beat) × Nat × Int) (h : encLst a = encLst a') : a = a' := by
  simp only [encLst, encLst1] at h
  try simp [strs_inj, ints_inj, bools_inj, eBeats_inj, eBeat_iff, eL_eBeats_inj, eSpans_inj, eSpan_iff, eHoles_inj, eHole_iff, eLevels_inj, eLevel_iff, eFigss_inj, eFigs_iff, eRatios_inj, eRatio_iff, eReps_inj, eRep_iff, eStays_inj, eStay_iff] at h
  grind

theorem unLst (l : List Beat) (i : Nat) (q : Int) : unenc encLst ([AV.sl (List.map eBeat l), (vI (↑i : Int)), (vI q)]) = some (l, i, q) := unenc_of encLst_inj (l, i, q) rfl

def resLst1 (l : List Beat) (i : Nat) (q : Int) : AV × Heap := (vI (F.lastsAt l i q), [])

def preLst1 (l : List Beat) (i : Nat) (q : Int) : Bool := decide (i < l.length) && decide (l.length ≤ 3000)

def stRth (l : List Beat) (q : Int) (x : ByteArray) (acc : List Span) (k : Nat) : St := ⟨[(13, vI k), (12, vI l.length), (11, .sl (l.map eBeat)), (7, .own 7), (2, vS x), (1, vI q), (0, .sl (l.map eBeat))], [(7, ⟨false, 38, 2, acc.map eSpan⟩)]⟩

def stRth1 (a : (List Beat) × Int × ByteArray × (List Span) × Nat) : St := stRth a.1 a.2.1 a.2.2.1 a.2.2.2.1 a.2.2.2.2

theorem stRth_inj (a a' : (List Beat) × Int × ByteArray × (List Span) × Nat) (h : stRth1 a = stRth1 a') : a = a' := by
  simp only [stRth1, stRth] at h
  try simp [strs_inj, ints_inj, bools_inj, eBeats_inj, eBeat_iff, eL_eBeats_inj, eSpans_inj, eSpan_iff, eHoles_inj, eHole_iff, eLevels_inj, eLevel_iff, eFigss_inj, eFigs_iff, eRatios_inj, eRatio_iff, eReps_inj, eRep_iff, eStays_inj, eStay_iff] at h
  grind

theorem unstRth (l : List Beat) (q : Int) (x : ByteArray) (acc : List Span) (k : Nat) : unenc stRth1 (St.mk [(13, (vI (↑k : Int))), (12, (vI (↑(List.length l) : Int))), (11, AV.sl (List.map eBeat l)), (7, .own 7), (2, (vS x)), (1, (vI q)), (0, AV.sl (List.map eBeat l))]
  [(7, Blk.mk false 38 2 (List.map eSpan acc))]) = some (l, q, x, acc, k) := unenc_of stRth_inj (l, q, x, acc, k) rfl

theorem unstRth0 (l : List Beat) (q : Int) (x : ByteArray)  : unenc stRth1 (St.mk [(13, (vI (0 : Int))), (12, (vI (↑(List.length l) : Int))), (11, AV.sl (List.map eBeat l)), (7, .own 7), (2, (vS x)), (1, (vI q)), (0, AV.sl (List.map eBeat l))]
  [(7, Blk.mk false 38 2 [])]) = some (l, q, x, [], 0) := unenc_of stRth_inj (l, q, x, [], 0) rfl

def outRth (l : List Beat) (q : Int) (x : ByteArray) (acc : List Span) (k : Nat) : T (Ex × St) := .ret (.exit 0, ⟨[(7, .own 7)], [(7, ⟨false, 38, 2, (F.rthA q x acc (l.drop k)).map eSpan⟩)]⟩)

noncomputable def prlRth (l : List Beat) (q : Int) (x : ByteArray) (acc : List Span) (k : Nat) : Bool := decide (l.length ≤ 3000) && decide (k ≤ l.length) && decide (acc.length ≤ k)

noncomputable def lpRth : Nat × (St → T (Ex × St)) := (3, lpo [13, 12, 11, 7, 2, 1, 0] [7] stRth1 (fun a => prlRth a.1 a.2.1 a.2.2.1 a.2.2.2.1 a.2.2.2.2) fun a => outRth a.1 a.2.1 a.2.2.1 a.2.2.2.1 a.2.2.2.2)

theorem rthS_len (q : Int) (x : ByteArray) (acc : List Span) (b : Beat) (r : List Beat) : (F.rthS q x acc b r).length ≤ acc.length + 1 := by
  unfold F.rthS
  cases !(b.session.toList == x.toList) || F.le (F.lastsB q b r) b.time
  · exact F.addSpan_len _ _
  · simp

def encRth1 (l : List Beat) (q : Int) (x : ByteArray) : List AV := [.sl (l.map eBeat), vI q, vS x]

def encRth (a : (List Beat) × Int × ByteArray) : List AV := encRth1 a.1 a.2.1 a.2.2

theorem encRth_inj (a a' : (List Beat) × Int × ByteArray) (h : encRth a = encRth a') : a = a' := by
  simp only [encRth, encRth1] at h
  try simp [strs_inj, ints_inj, bools_inj, eBeats_inj, eBeat_iff, eL_eBeats_inj, eSpans_inj, eSpan_iff, eHoles_inj, eHole_iff, eLevels_inj, eLevel_iff, eFigss_inj, eFigs_iff, eRatios_inj, eRatio_iff, eReps_inj, eRep_iff, eStays_inj, eStay_iff] at h
  grind

theorem unRth (l : List Beat) (q : Int) (x : ByteArray) : unenc encRth ([AV.sl (List.map eBeat l), (vI q), (vS x)]) = some (l, q, x) := unenc_of encRth_inj (l, q, x) rfl

def resRth1 (l : List Beat) (q : Int) (x : ByteArray) : AV × Heap := (.sl ((F.rthA q x [] l).map eSpan), [])

def preRth1 (l : List Beat) (q : Int) (x : ByteArray) : Bool := decide (l.length ≤ 3000)

noncomputable def enRqF : Env := envH ty noG lks [oRhb, oRng] [] [] []

theorem enRqF_ok : EnvOK Try.prog enRqF := by
  refine envH_ok lks_ok ty_ok ?_ ?_
  · simp only [List.forall_mem_cons]
    exact ⟨okRhb, okRng, by simp⟩
  · simp

def encRqF1 (l : List Beat) (q : Int) : List AV := [.sl (l.map eBeat), vI q]

def encRqF (a : (List Beat) × Int) : List AV := encRqF1 a.1 a.2

theorem encRqF_inj (a a' : (List Beat) × Int) (h : encRqF a = encRqF a') : a = a' := by
  simp only [encRqF, encRqF1] at h
  try simp [strs_inj, ints_inj, bools_inj, eBeats_inj, eBeat_iff, eL_eBeats_inj, eSpans_inj, eSpan_iff, eHoles_inj, eHole_iff, eLevels_inj, eLevel_iff, eFigss_inj, eFigs_iff, eRatios_inj, eRatio_iff, eReps_inj, eRep_iff, eStays_inj, eStay_iff] at h
  grind

theorem unRqF (l : List Beat) (q : Int) : unenc encRqF ([AV.sl (List.map eBeat l), (vI q)]) = some (l, q) := unenc_of encRqF_inj (l, q) rfl

def resRqF1 (l : List Beat) (q : Int) : AV × Heap := (vI (F.quietF l q), [])

def preRqF1 (l : List Beat) (q : Int) : Bool := true

def encRTh1 (l : List Beat) (q : Int) (x : ByteArray) : List AV := [.sl (l.map eBeat), vI q, vS x]

def encRTh (a : (List Beat) × Int × ByteArray) : List AV := encRTh1 a.1 a.2.1 a.2.2

theorem encRTh_inj (a a' : (List Beat) × Int × ByteArray) (h : encRTh a = encRTh a') : a = a' := by
  simp only [encRTh, encRTh1] at h
  try simp [strs_inj, ints_inj, bools_inj, eBeats_inj, eBeat_iff, eL_eBeats_inj, eSpans_inj, eSpan_iff, eHoles_inj, eHole_iff, eLevels_inj, eLevel_iff, eFigss_inj, eFigs_iff, eRatios_inj, eRatio_iff, eReps_inj, eRep_iff, eStays_inj, eStay_iff] at h
  grind

theorem unRTh (l : List Beat) (q : Int) (x : ByteArray) : unenc encRTh ([AV.sl (List.map eBeat l), (vI q), (vS x)]) = some (l, q, x) := unenc_of encRTh_inj (l, q, x) rfl

def resRTh1 (l : List Beat) (q : Int) (x : ByteArray) : AV × Heap := (.tup [.sl ((F.rthere l q x).1.map eSpan), vI (F.rthere l q x).2], [])

def preRTh1 (l : List Beat) (q : Int) (x : ByteArray) : Bool := true

def stRst (l : List Beat) (q : Int) (x : ByteArray) (t : Int) (k : Nat) : St := ⟨[(31, vI k), (30, vI l.length), (29, .sl (l.map eBeat)), (8, .ptr 8 0 0), (3, vI t), (2, vS x), (1, vI q), (0, .sl (l.map eBeat))], [(8, ⟨true, 0, 0, [[vS ⟨#[]⟩, vI 0, vI 0, vI 0, vI 0]]⟩)]⟩

def stRst1 (a : (List Beat) × Int × ByteArray × Int × Nat) : St := stRst a.1 a.2.1 a.2.2.1 a.2.2.2.1 a.2.2.2.2

theorem stRst_inj (a a' : (List Beat) × Int × ByteArray × Int × Nat) (h : stRst1 a = stRst1 a') : a = a' := by
  simp only [stRst1, stRst] at h
  try simp [strs_inj, ints_inj, bools_inj, eBeats_inj, eBeat_iff, eL_eBeats_inj, eSpans_inj, eSpan_iff, eHoles_inj, eHole_iff, eLevels_inj, eLevel_iff, eFigss_inj, eFigs_iff, eRatios_inj, eRatio_iff, eReps_inj, eRep_iff, eStays_inj, eStay_iff] at h
  grind

theorem unstRst (l : List Beat) (q : Int) (x : ByteArray) (t : Int) (k : Nat) : unenc stRst1 (St.mk [(31, (vI (↑k : Int))), (30, (vI (↑(List.length l) : Int))), (29, AV.sl (List.map eBeat l)), (8, .ptr 8 0 0), (3, (vI t)), (2, (vS x)), (1, (vI q)), (0, AV.sl
  (List.map eBeat l))] [(8, Blk.mk true 0 0 [[(vS (ByteArray.mk (Array.mk []))), (vI (0 : Int)), (vI (0 : Int)), (vI (0 : Int)), (vI (0 : Int))]])]) = some (l, q, x, t, k) := unenc_of stRst_inj (l, q, x, t, k) rfl

theorem unstRst0 (l : List Beat) (q : Int) (x : ByteArray) (t : Int)  : unenc stRst1 (St.mk [(31, (vI (0 : Int))), (30, (vI (↑(List.length l) : Int))), (29, AV.sl (List.map eBeat l)), (8, .ptr 8 0 0), (3, (vI t)), (2, (vS x)), (1, (vI q)), (0, AV.sl
  (List.map eBeat l))] [(8, Blk.mk true 0 0 [[(vS (ByteArray.mk (Array.mk []))), (vI (0 : Int)), (vI (0 : Int)), (vI (0 : Int)), (vI (0 : Int))]])]) = some (l, q, x, t, 0) := unenc_of stRst_inj (l, q, x, t, 0) rfl

def outRst (l : List Beat) (q : Int) (x : ByteArray) (t : Int) (k : Nat) : T (Ex × St) := .ifB (F.found (F.rstFind q x t (l.drop k))) (.ret (.ret, ⟨[(10, vI 0), (9, vB true), (8, .ptr 8 0 0)], [(8, ⟨true, 0, 0, [eBeat (F.got (F.rstFind q x t (l.drop k)) default)]⟩)]⟩)) (.ret (.exit 0, ⟨[(8, .ptr 8 0 0)], [(8, ⟨true, 0, 0, [[vS ⟨#[]⟩, vI 0, vI 0, vI 0, vI 0]]⟩)]⟩))

noncomputable def prlRst (l : List Beat) (q : Int) (x : ByteArray) (t : Int) (k : Nat) : Bool := decide (l.length ≤ 3000) && decide (k ≤ l.length)

noncomputable def lpRst : Nat × (St → T (Ex × St)) := (9, lpo [31, 30, 29, 8, 3, 2, 1, 0] [8] stRst1 (fun a => prlRst a.1 a.2.1 a.2.2.1 a.2.2.2.1 a.2.2.2.2) fun a => outRst a.1 a.2.1 a.2.2.1 a.2.2.2.1 a.2.2.2.2)

def encRst1 (l : List Beat) (q : Int) (x : ByteArray) (t : Int) : List AV := [.sl (l.map eBeat), vI q, vS x, vI t]

def encRst (a : (List Beat) × Int × ByteArray × Int) : List AV := encRst1 a.1 a.2.1 a.2.2.1 a.2.2.2

theorem encRst_inj (a a' : (List Beat) × Int × ByteArray × Int) (h : encRst a = encRst a') : a = a' := by
  simp only [encRst, encRst1] at h
  try simp [strs_inj, ints_inj, bools_inj, eBeats_inj, eBeat_iff, eL_eBeats_inj, eSpans_inj, eSpan_iff, eHoles_inj, eHole_iff, eLevels_inj, eLevel_iff, eFigss_inj, eFigs_iff, eRatios_inj, eRatio_iff, eReps_inj, eRep_iff, eStays_inj, eStay_iff] at h
  grind

theorem unRst (l : List Beat) (q : Int) (x : ByteArray) (t : Int) : unenc encRst ([AV.sl (List.map eBeat l), (vI q), (vS x), (vI t)]) = some (l, q, x, t) := unenc_of encRst_inj (l, q, x, t) rfl

def resRst1 (l : List Beat) (q : Int) (x : ByteArray) (t : Int) : AV × Heap := (.tup [.agg (eBeat (F.rstateAt l q x t).1), vB (F.rstateAt l q x t).2.1, vI (F.rstateAt l q x t).2.2], [])

def preRst1 (l : List Beat) (q : Int) (x : ByteArray) (t : Int) : Bool := true

end M
end Go.Proofs.Ytlnflhmepnbcmaa
